/- What the functions compute, they compute: printed by a program, path by path. No conditions. -/
import Derived.Test.YtomahedcdcnnhaaGreatDoorP3
import Derived.KernelRfl
namespace Go.Proofs.YtomahedcdcnnhaaGreatDoor
open Go A
set_option linter.unusedVariables false
set_option maxRecDepth 100000
set_option maxHeartbeats 0
section
variable (pc:Nat→List AV→(AV→Prop)→Prop) (sc:Nat→List AV→List Ob→(AV→List Ob→Prop)→Prop) (lp:br→Code→St→(Ex→St→Prop)→Prop) (cd:wH)

noncomputable def OO:Code:=sub (aj Tryz.prog 47) [1,1,1,0,1,0,0]
theorem Fz:ay (ak 47) f8 OO=true:=by kernel_rfl
def FA (n_:Int) (oA:(List Cell)) (oB:(List (List Event))) (oC:(List Int)) (oD:(List Int)) (oE:(List (Int×(List Int)))) (oF:(List Event)) (oG:(List Int)) (x1:Event) (sa:(List Int)×Int):St:=bg 84 [(0,.ptr (.O 2) 0 0),(1,(vI n_)),(5,.ptr (.L 5) 0 0),(6,.sl (sa.1.map eI)),(7,(vI sa.2))] [(5,(Event.enc x1))] [.arr true 4 [[.sl (oA.map Cell.enc),.sl (oB.map (cY Event.enc)),.sl (oC.map eI),.sl (oD.map eI)]],.mapo true (oE.map (cH (aH .u64) (dm eI))),.arr false 4 [[.ptr (.O 0) 0 0,.sl (oF.map Event.enc),.sl (oG.map eI),.mp 1]]] 3
def LS (n_:Int) (oA:(List Cell)) (oB:(List (List Event))) (oC:(List Int)) (oD:(List Int)) (oE:(List (Int×(List Int)))) (oF:(List Event)) (oG:(List Int)) (x1:Event) (tt:Unit):St:=bg 84 [] [] [.arr true 4 [[.sl (oA.map Cell.enc),.sl (oB.map (cY Event.enc)),.sl (oC.map eI),.sl (oD.map eI)]],.mapo true (oE.map (cH (aH .u64) (dm eI))),.arr false 4 [[.ptr (.O 0) 0 0,.sl (oF.map Event.enc),.sl (oG.map eI),.mp 1]]] 3
def LU (n_:Int) (oA:(List Cell)) (oB:(List (List Event))) (oC:(List Int)) (oD:(List Int)) (oE:(List (Int×(List Int)))) (oF:(List Event)) (oG:(List Int)) (x1:Event) (tt:Int):St:=bg 84 [(4,(vI tt))] [] [.arr true 4 [[.sl (oA.map Cell.enc),.sl (oB.map (cY Event.enc)),.sl (oC.map eI),.sl (oD.map eI)]],.mapo true (oE.map (cH (aH .u64) (dm eI))),.arr false 4 [[.ptr (.O 0) 0 0,.sl (oF.map Event.enc),.sl (oG.map eI),.mp 1]]] 3
def HD (n_:Int) (oA:(List Cell)) (oB:(List (List Event))) (oC:(List Int)) (oD:(List Int)) (oE:(List (Int×(List Int)))) (oF:(List Event)) (oG:(List Int)) (x1:Event) (t0:(Unit⊕Int)):Ex×St:=match t0 with | .inl tt=>(.ex 0,LS n_ oA oB oC oD oE oF oG x1 tt) | .inr tt=>(.ret,LU n_ oA oB oC oD oE oF oG x1 tt)
theorem Jk (n:Nat) (n_:Int) (oA:(List Cell)) (oB:(List (List Event))) (oC:(List Int)) (oD:(List Int)) (oE:(List (Int×(List Int)))) (oF:(List Event)) (oG:(List Int)) (x1:Event):∀ sa r,c_ n n_ oA oB oC oD oE oF oG x1 sa=some r→aV Tryz.prog OO (FA n_ oA oB oC oD oE oF oG x1 sa) (rk (FA n_ oA oB oC oD oE oF oG x1) (HD n_ oA oB oC oD oE oF oG x1) r):=by
 intro sa r h
 unfold c_ at h
 rcases aD h with ⟨ha1,h⟩ | ⟨ha1,h⟩
 ·
  exact kQ h (nA f8 [rV 4 [(27,vF)]]) [wK 2 [] [5] 3] Fz (cG rfl kp) (fun z=>(aB ha1 z)) (by kernel_rfl)
 obtain ⟨xa2,gxa2,h⟩:=ab h
 obtain ⟨xa3,gxa3,h⟩:=ab h
 have d0_:Ch (sa.1.map eI) sa.2=some [(vI xa2)]:=mi eI gxa2
 have c284_:=fun (R:Prop) (z:R)=>(aB ha1 (aI d0_ (aM Event.enc gxa3 (aI d0_ z))))
 let e285_:LR:=[rV 4 [(27,vT)],rR 6 [(36,[(vI xa2)]),(38,(Event.enc xa3))]]
 rcases aD h with ⟨ha4,h⟩ | ⟨ha4,h⟩
 ·
  exact kQ h (nA f8 (e285_++[(7,⟨[],[],[(42,[(vI xa2)])],[(46,vF)],[],[],[],[],[]⟩)])) [wK 0 [0,1,5,6,7] [8] 3] Fz dx (fun z=>(c284_ _ (aB ha4 z))) (by kernel_rfl)
 obtain ⟨xa5,gxa5,h⟩:=ab h
 obtain ⟨xa6,gxa6,h⟩:=ab h
 have c286_:=fun (R:Prop) (z:R)=>(aB ha4 (aM eI gxa2 (aM eI gxa5 (aM eI gxa6 z))))
 rcases ap h with ⟨ha7,h⟩ | ⟨ha7,h⟩
 ·
  exact kQ h (nA f8 (e285_++[(7,⟨[],[],[(42,[(vI xa2)]),(53,[(vI xa2)]),(55,[(vI xa5)]),(62,[(vI xa6)])],[(46,vT),(65,vT)],[],[],[],[],[]⟩),rR 8 [(82,[(vI xa2)])]])) [wK 1 [4] [8,5] 3] Fz (cG rfl gC) (fun z=>(c284_ _ (c286_ _ (aB ha7 (aM eI gxa2 z))))) (by kernel_rfl)
 rcases aD h with ⟨ha8,h⟩ | ⟨ha8,h⟩
 ·
  exact kQ h (nA f8 (e285_++[(7,⟨[],[],[(42,[(vI xa2)]),(53,[(vI xa2)]),(55,[(vI xa5)]),(62,[(vI xa6)])],[(46,vT),(65,vF),(71,vF)],[],[],[],[],[]⟩)])) [wK 0 [0,1,5,6,7] [8] 3] Fz dx (fun z=>(c284_ _ (c286_ _ (aB ha7 (aB ha8 z))))) (by kernel_rfl)
 have c287_:=fun (R:Prop) (z:R)=>(aB ha7 (aB ha8 z))
 rcases aD h with ⟨ha9,h⟩ | ⟨ha9,h⟩
 ·
  exact kQ h (nA f8 (e285_++[(7,⟨[],[],[(42,[(vI xa2)]),(53,[(vI xa2)]),(55,[(vI xa5)]),(62,[(vI xa6)])],[(46,vT),(65,vF),(71,vT),(79,vF)],[],[],[],[],[]⟩)])) [wK 0 [0,1,5,6,7] [8] 3] Fz dx (fun z=>(c284_ _ (c286_ _ (c287_ _ (aB ha9 z))))) (by kernel_rfl)
 exact kQ h (nA f8 (e285_++[(7,⟨[],[],[(42,[(vI xa2)]),(53,[(vI xa2)]),(55,[(vI xa5)]),(62,[(vI xa6)])],[(46,vT),(65,vF),(71,vT),(79,vT)],[],[],[],[],[]⟩),rR 8 [(82,[(vI xa2)])]])) [wK 1 [4] [8,5] 3] Fz (cG rfl gC) (fun z=>(c284_ _ (c286_ _ (c287_ _ (aB ha9 (aM eI gxa2 z)))))) (by kernel_rfl)

def iq (n_:Int) (oA:(List Cell)) (oB:(List (List Event))) (oC:(List Int)) (oD:(List Int)) (oE:(List (Int×(List Int)))) (oF:(List Event)) (oG:(List Int)) (y:Int):AV×List Ob:=((vI y),[.arr true 4 [[.sl (oA.map Cell.enc),.sl (oB.map (cY Event.enc)),.sl (oC.map eI),.sl (oD.map eI)]],.mapo true (oE.map (cH (aH .u64) (dm eI))),.arr false 4 [[.ptr (.O 0) 0 0,.sl (oF.map Event.enc),.sl (oG.map eI),.mp 1]]])
theorem lA (n:Nat) (n_:Int) (oA:(List Cell)) (oB:(List (List Event))) (oC:(List Int)) (oD:(List Int)) (oE:(List (Int×(List Int)))) (oF:(List Event)) (oG:(List Int)) (y:Int) (h:eh n n_ oA oB oC oD oE oF oG=some y):SD Tryz.prog 47 [.ptr (.O 2) 0 0,(vI n_)] [.arr true 4 [[.sl (oA.map Cell.enc),.sl (oB.map (cY Event.enc)),.sl (oC.map eI),.sl (oD.map eI)]],.mapo true (oE.map (cH (aH .u64) (dm eI))),.arr false 4 [[.ptr (.O 0) 0 0,.sl (oF.map Event.enc),.sl (oG.map eI),.mp 1]]] (fun r' o'=>r'=(iq n_ oA oB oC oD oE oF oG y).1∧o'=(iq n_ oA oB oC oD oE oF oG y).2):=by
 unfold eh at h
 obtain ⟨x1,gx1,h⟩:=ab h
 let e288_:LR:=[rR 1 [(14,(Event.enc x1))]]
 rcases iv h with ⟨h2,h⟩ | ⟨z2,h3,h⟩
 ·
  obtain ⟨t3,gt3,h⟩:=ab h
  have c289_:=fun (R:Prop) (z:R)=>(aM Event.enc gx1 (aI (nt oE x1.Addr h2:∀ k':AV→Prop,k' (.nilsl)→cw Tryz.prog 40 ((vU x1.Addr)) (oE.map (cH (aH .u64) (dm eI))) fun _ r=>dI Tryz.prog 24 false (oE.map (cH (aH .u64) (dm eI))) r k') z))
  rcases t3 with w4 | w4
  ·
   obtain rfl:=aK h
   exact kS ⟨f8,(e288_++[bi 2 [] [(22,.nilsl)]]),[],[(4,(⟨[0,1,5,6,7],[],3,[],[],[]⟩,⟨[(6,.sl (([]:List Int).map eI))],[],[]⟩,(.ex 0),LS n_ oA oB oC oD oE oF oG x1 w4))],[]⟩ pg ⟨rfl,rfl⟩ (fun z=>(c289_ _ (aI (aG.nil:aG (.nilsl) (.sl (([]:List Int).map eI))) (aI (eP (pl:=ak 47) (FA n_ oA oB oC oD oE oF oG x1) (HD n_ oA oB oC oD oE oF oG x1) (Jk n n_ oA oB oC oD oE oF oG x1) n _ (.inl w4) gt3) z)))) (by kernel_rfl)
  ·
   obtain rfl:=aK h
   exact kS ⟨f8,(e288_++[bi 2 [] [(22,.nilsl)]]),[],[(4,(⟨[0,1,5,6,7],[],3,[],[],[]⟩,⟨[(6,.sl (([]:List Int).map eI))],[],[]⟩,.ret,LU n_ oA oB oC oD oE oF oG x1 w4))],[]⟩ pg ⟨rfl,rfl⟩ (fun z=>(c289_ _ (aI (aG.nil:aG (.nilsl) (.sl (([]:List Int).map eI))) (aI (eP (pl:=ak 47) (FA n_ oA oB oC oD oE oF oG x1) (HD n_ oA oB oC oD oE oF oG x1) (Jk n n_ oA oB oC oD oE oF oG x1) n _ (.inr w4) gt3) z)))) (by kernel_rfl)
 ·
  obtain ⟨t4,gt4,h⟩:=ab h
  have c290_:=fun (R:Prop) (z:R)=>(aM Event.enc gx1 (aI (nu oE x1.Addr h3:∀ k':AV→Prop,k' (.sl (z2.map eI))→cw Tryz.prog 40 ((vU x1.Addr)) (oE.map (cH (aH .u64) (dm eI))) fun _ r=>dI Tryz.prog 24 false (oE.map (cH (aH .u64) (dm eI))) r k') (aL eI z2 z)))
  rcases t4 with w5 | w5
  ·
   obtain rfl:=aK h
   exact kS ⟨f8,(e288_++[bi 2 [] [(22,.sl (z2.map eI))],rV 3 [(24,(vI (z2.length:Int)))]]),[],[(4,(⟨[0,1,5,6,7],[],3,[],[],[]⟩,l0,(.ex 0),LS n_ oA oB oC oD oE oF oG x1 w5))],[]⟩ pg ⟨rfl,rfl⟩ (fun z=>(c290_ _ (aI (eP (pl:=ak 47) (FA n_ oA oB oC oD oE oF oG x1) (HD n_ oA oB oC oD oE oF oG x1) (Jk n n_ oA oB oC oD oE oF oG x1) n _ (.inl w5) gt4) z))) (by kernel_rfl)
  ·
   obtain rfl:=aK h
   exact kS ⟨f8,(e288_++[bi 2 [] [(22,.sl (z2.map eI))],rV 3 [(24,(vI (z2.length:Int)))]]),[],[(4,(⟨[0,1,5,6,7],[],3,[],[],[]⟩,l0,.ret,LU n_ oA oB oC oD oE oF oG x1 w5))],[]⟩ pg ⟨rfl,rfl⟩ (fun z=>(c290_ _ (aI (eP (pl:=ak 47) (FA n_ oA oB oC oD oE oF oG x1) (HD n_ oA oB oC oD oE oF oG x1) (Jk n n_ oA oB oC oD oE oF oG x1) n _ (.inr w5) gt4) z))) (by kernel_rfl)

def zf:List (Nat×PT):=[]
theorem xg:ay (ak 23) zf (aj Tryz.prog 23)=true:=by kernel_rfl
theorem tB (n:Nat) (c:ae) (n_:Int) (r:Int) (h:gp n c n_=some r):ax Tryz.prog 23 [(bD ae.enc c),(vI n_)] (eF ((vI r))):=by
 unfold gp at h
 obtain ⟨y1,gy1,h⟩:=ab h
 rcases y1 with wa2 | wb2
 ·
  obtain rfl:=aK h
  exact kP (nA zf [(1,⟨[],[],[],[],[],[(6,(.nilp,[.arr true 4 [(ae.enc c)]]))],[],[],[]⟩)]) xg (fun z=>(aI (iW n c.First c.Harts c.From c.Order (.inl wa2) gy1) z)) (by kernel_rfl)
 ·
  have c291_:=fun (R:Prop) (z:R)=>(aI (iW n c.First c.Harts c.From c.Order (.inr wb2) gy1) z)
  let e292_:LR:=[(1,⟨[],[],[],[],[],[(6,(.ptr (.O 2) 0 0,[.arr true 4 [(ae.enc c)],.mapo true (wb2.1.map (cH (aH .u64) (dm eI))),.arr false 4 [[.ptr (.O 0) 0 0,.sl (wb2.2.1.map Event.enc),.sl (wb2.2.2.map eI),.mp 1]]]))],[],[],[]⟩)]
  rcases ap h with ⟨h3,h⟩ | ⟨h3,h⟩
  ·
   obtain rfl:=aK h
   exact kP (nA zf (e292_++[rV 2 [(13,vT)]])) xg (fun z=>(c291_ _ (aB h3 z))) (by kernel_rfl)
  have c293_:=fun (R:Prop) (z:R)=>(aB h3 (aL Event.enc wb2.2.1 z))
  rcases ap h with ⟨h4,h⟩ | ⟨h4,h⟩
  ·
   obtain rfl:=aK h
   exact kP (nA zf (e292_++[rV 2 [(13,vF),(19,(vI (wb2.2.1.length:Int))),(22,vT)]])) xg (fun z=>(c291_ _ (c293_ _ (aB h4 z)))) (by kernel_rfl)
  obtain ⟨x5,gx5,h⟩:=ab h
  obtain ⟨y6,gy6,h⟩:=ab h
  have c294_:=fun (R:Prop) (z:R)=>(aB h4 (aM Event.enc gx5 (aI (bE n x5 y6 gy6) z)))
  rcases ap h with ⟨h7,h⟩ | ⟨h7,h⟩
  ·
   obtain rfl:=aK h
   exact kP (nA zf (e292_++[(2,⟨[],[],[(28,(Event.enc x5))],[(13,vF),(19,(vI (wb2.2.1.length:Int))),(22,vF),(32,vT)],[(30,.v (.bool y6))],[],[],[],[]⟩)])) xg (fun z=>(c291_ _ (c293_ _ (c294_ _ (aB h7 z))))) (by kernel_rfl)
  obtain ⟨y8,gy8,h⟩:=ab h
  obtain rfl:=aK h
  exact kP (nA zf (e292_++[(2,⟨[],[],[(28,(Event.enc x5))],[(13,vF),(19,(vI (wb2.2.1.length:Int))),(22,vF),(32,vF)],[(30,.v (.bool y6))],[],[],[],[]⟩),(4,⟨[],[],[],[],[],[(35,((vI y8),[.arr true 4 [(ae.enc c)],.mapo true (wb2.1.map (cH (aH .u64) (dm eI))),.arr false 4 [[.ptr (.O 0) 0 0,.sl (wb2.2.1.map Event.enc),.sl (wb2.2.2.map eI),.mp 1]]]))],[],[],[]⟩)])) xg (fun z=>(c291_ _ (c293_ _ (c294_ _ (aB h7 (aI (lA n n_ c.First c.Harts c.From c.Order wb2.1 wb2.2.1 wb2.2.2 y8 gy8) z)))))) (by kernel_rfl)

def El:List (Nat×PT):=[]
theorem Dl:ay (ak 12) El (aj Tryz.prog 12)=true:=by kernel_rfl
theorem sg (n:Nat) (n_:Int) (m:Int) (r:Int) (h:mC n n_ m=some r):ax Tryz.prog 12 [(vI n_),(vI m)] (eF ((vI r))):=by
 unfold mC at h
 rcases ap h with ⟨h1,h⟩ | ⟨h1,h⟩
 ·
  obtain rfl:=aK h
  exact kP (nA El [rV 1 [(7,vT)]]) Dl (fun z=>(aB h1 z)) (by kernel_rfl)
 obtain ⟨h2,h⟩:=ep h
 rcases ap h with ⟨h3,h⟩ | ⟨h3,h⟩
 ·
  obtain rfl:=aK h
  exact kP (nA El [rV 1 [(7,vF)],(3,⟨[],[10],[],[],[],[],[],[],[]⟩),rV 4 [(12,vT)]]) Dl (fun z=>(aB h1 (aI h2 (aB h3 z)))) (by kernel_rfl)
 obtain rfl:=aK h
 exact kP (nA El [rV 1 [(7,vF)],(3,⟨[],[10],[],[],[],[],[],[],[]⟩),rV 4 [(12,vF)]]) Dl (fun z=>(aB h1 (aI h2 (aB h3 z)))) (by kernel_rfl)

def J4:List (Nat×PT):=[]
theorem LV:ay (ak 33) J4 (aj Tryz.prog 33)=true:=by kernel_rfl
theorem tC (n:Nat) (l:(List Cell)) (r:(List Cell)) (h:iE n l=some r):ax Tryz.prog 33 [.sl (l.map Cell.enc)] (eF (.sl (r.map Cell.enc))):=by
 unfold iE at h
 obtain ⟨h1,h⟩:=ep h
 obtain rfl:=aK h
 exact kP (nA J4 [(1,⟨[],[5],[],[],[],[],[],[],[]⟩)]) LV (fun z=>(aI (FJ:cA 2 (l.map Cell.enc)=true) (aI (D7:aR (l.map Cell.enc)=true) (aI (lX h1:Nat.ble ((l.map Cell.enc).length * 16) 140737488355328=true) z)))) (by kernel_rfl)

def Em:List (Nat×PT):=[]
theorem Dm:ay (ak 34) Em (aj Tryz.prog 34)=true:=by kernel_rfl
def nL (l:(List Int)) (y:Unit):AV×List Ob:=(.mf 0,[.arr true 1 (l.map eI)])
theorem l3 (n:Nat) (l:(List Int)) (y:Unit) (h:fH n l=some y):SD Tryz.prog 34 [.sl (l.map eI)] [] (fun r' o'=>r'=(nL l y).1∧o'=(nL l y).2):=by
 unfold fH at h
 obtain ⟨h1,h⟩:=ep h
 obtain rfl:=aK h
 exact kS (nA Em [(1,⟨[],[5],[],[],[],[],[],[],[]⟩)]) Dm ⟨rfl,rfl⟩ (fun z=>(aI (FJ:cA 1 (l.map eI)=true) (aI (D7:aR (l.map eI)=true) (aI (lX h1:Nat.ble ((l.map eI).length * 8) 140737488355328=true) z)))) (by kernel_rfl)

def mW (l:(List Int)) (oA:(List Int)) (y:Unit):AV×List Ob:=(.mf 1,[.arr true 1 (oA.map eI),.arr true 1 (l.map eI)])
theorem lw (n:Nat) (l:(List Int)) (oA:(List Int)) (y:Unit) (h:eW n l oA=some y):SD Tryz.prog 34 [.sl (l.map eI)] [.arr true 1 (oA.map eI)] (fun r' o'=>r'=(mW l oA y).1∧o'=(mW l oA y).2):=by
 unfold eW at h
 obtain ⟨h1,h⟩:=ep h
 obtain rfl:=aK h
 exact kS (nA Em [(1,⟨[],[5],[],[],[],[],[],[],[]⟩)]) Dm ⟨rfl,rfl⟩ (fun z=>(aI (FJ:cA 1 (l.map eI)=true) (aI (D7:aR (l.map eI)=true) (aI (lX h1:Nat.ble ((l.map eI).length * 8) 140737488355328=true) z)))) (by kernel_rfl)

def mX (l:(List Int)) (oA:(List Int)) (oB:(List Int)) (y:Unit):AV×List Ob:=(.mf 2,[.arr true 1 (oA.map eI),.arr true 1 (oB.map eI),.arr true 1 (l.map eI)])
theorem q6 (n:Nat) (l:(List Int)) (oA:(List Int)) (oB:(List Int)) (y:Unit) (h:iF n l oA oB=some y):SD Tryz.prog 34 [.sl (l.map eI)] [.arr true 1 (oA.map eI),.arr true 1 (oB.map eI)] (fun r' o'=>r'=(mX l oA oB y).1∧o'=(mX l oA oB y).2):=by
 unfold iF at h
 obtain ⟨h1,h⟩:=ep h
 obtain rfl:=aK h
 exact kS (nA Em [(1,⟨[],[5],[],[],[],[],[],[],[]⟩)]) Dm ⟨rfl,rfl⟩ (fun z=>(aI (FJ:cA 1 (l.map eI)=true) (aI (D7:aR (l.map eI)=true) (aI (lX h1:Nat.ble ((l.map eI).length * 8) 140737488355328=true) z)))) (by kernel_rfl)

def J5:List (Nat×PT):=[(1,(ew [0,1,2,3,4,5,6,7,8,9,10]))]
theorem LW:ay (ak 74) J5 (aj Tryz.prog 74)=true:=by kernel_rfl
theorem uY (n:Nat) (d:Deps) (r:Deps) (h:jT n d=some r):ax Tryz.prog 74 [(bD Deps.enc d)] (eF ((bD Deps.enc r))):=by
 unfold jT at h
 obtain ⟨y1,gy1,h⟩:=ab h
 obtain ⟨y2,gy2,h⟩:=ab h
 obtain ⟨y3,gy3,h⟩:=ab h
 obtain rfl:=aK h
 exact kP (nA J5 [(1,⟨[],[],[],[],[],[(5,(.mf 0,[.arr true 1 (d.Addr.map eI)])),(8,(.mf 1,[.arr true 1 (d.Addr.map eI),.arr true 1 (d.Data.map eI)])),(11,(.mf 2,[.arr true 1 (d.Addr.map eI),.arr true 1 (d.Data.map eI),.arr true 1 (d.Way.map eI)]))],[],[],[]⟩)]) LW (fun z=>(aI (l3 n d.Addr y1 gy1) (aI (lw n d.Data d.Addr y2 gy2) (aI (q6 n d.Way d.Addr d.Data y3 gy3) z)))) (by kernel_rfl)

def J6:List (Nat×PT):=[]
theorem LX:ay (ak 58) J6 (aj Tryz.prog 58)=true:=by kernel_rfl
theorem tD (n:Nat) (e:Event) (r:Event) (h:iG n e=some r):ax Tryz.prog 58 [(bD Event.enc e)] (eF ((bD Event.enc r))):=by
 unfold iG at h
 obtain ⟨y1,gy1,h⟩:=ab h
 obtain rfl:=aK h
 exact kP (nA J6 [bi 1 [] [(5,(bD Deps.enc y1))]]) LX (fun z=>(aI (uY n e.Deps y1 gy1) z)) (by kernel_rfl)

def B3:List (Nat×PT):=[]
theorem LY:ay (ak 35) B3 (aj Tryz.prog 35)=true:=by kernel_rfl
noncomputable def OP:Code:=sub (aj Tryz.prog 35) [1,1,0,1,0,0]
theorem OQ:ay (ak 35) B3 OP=true:=by kernel_rfl
def LZ (l:(List Event)) (sa:(List Event)×Int):St:=bg 20 [(0,.sl (l.map Event.enc)),(3,.mf 0),(4,(vI sa.2))] [] [.arr true 14 (sa.1.map Event.enc)] 0
def OR (l:(List Event)) (tt:(List Event)):St:=bg 20 [(3,.mf 0)] [] [.arr true 14 (tt.map Event.enc)] 0
def OS (l:(List Event)) (tt:((List Event))):Ex×St:=(.ex 0,OR l tt)
theorem Qp (n:Nat) (l:(List Event)):∀ sa r,gq n l sa=some r→aV Tryz.prog OP (LZ l sa) (rk (LZ l) (OS l) r):=by
 intro sa r h
 unfold gq at h
 rcases aD h with ⟨ha1,h⟩ | ⟨ha1,h⟩
 ·
  exact kQ h (nA B3 [rV 3 [(7,(vI (l.length:Int))),(8,vF)]]) [wK 2 [3] [] 1] OQ (cG rfl kp) (fun z=>(aL Event.enc l (aB ha1 z))) (by kernel_rfl)
 obtain ⟨xa2,gxa2,h⟩:=ab h
 obtain ⟨ya3,gya3,h⟩:=ab h
 obtain ⟨ha4,h⟩:=ep h
 exact kQ h (nA B3 [rV 3 [(7,(vI (l.length:Int))),(8,vT)],(5,⟨[],[18],[(14,(Event.enc xa2))],[],[(16,(bD Event.enc ya3))],[],[(18,(0,(sa.1++([ya3]:List Event)).map Event.enc))],[],[]⟩)]) [wK 0 [0,3,4] [] 1] OQ dx (fun z=>(aL Event.enc l (aB ha1 (aM Event.enc gxa2 (aI (tD n xa2 ya3 gya3) (aI (rfl:cA 14 [(Event.enc ya3)]=true) (aI (rfl:aR [(Event.enc ya3)]=true) (aI (jp ha4:Nat.ble (((sa.1.map Event.enc).length + 1) * 152) 140737488355328=true) (aI (lV Event.enc sa.1 ([ya3]:List Event)) z))))))))) (by kernel_rfl)

theorem sh (n:Nat) (l:(List Event)) (r:(List Event)) (h:eH n l=some r):ax Tryz.prog 35 [.sl (l.map Event.enc)] (eF (.sl (r.map Event.enc))):=by
 unfold eH at h
 obtain ⟨t1,gt1,h⟩:=ab h
 obtain rfl:=aK h
 exact kP ⟨B3,[],[],[(3,(⟨[0,3,4],[],0,[(3,14)],[],[]⟩,l0,(.ex 0),OR l t1))],[]⟩ LY (fun z=>(aI (eP (pl:=ak 35) (LZ l) (OS l) (Qp n l) n _ t1 gt1) z)) (by kernel_rfl)

def B4:List (Nat×PT):=[(1,(ew [0,1,2,3,4,5,6,7,8,9,10,11])),(5,(ew [0,1,2,3,4,5,6,7,8,9,10,11]))]
theorem L0:ay (ak 13) B4 (aj Tryz.prog 13)=true:=by kernel_rfl
noncomputable def OT:Code:=sub (aj Tryz.prog 13) [1,1,0,1,0,0]
theorem OU:ay (ak 13) B4 OT=true:=by kernel_rfl
def L1 (c:ae) (y1:(List Cell)) (sa:(List (List Event))×Int):St:=bg 34 [(1,.ptr (.L 1) 0 0),(2,.ptr (.L 2) 0 0),(3,.ptr (.L 3) 0 0),(4,(vI sa.2))] [(3,[.sl (y1.map Cell.enc),.mf 2,.mf 0,.mf 1]),(2,[.nilsl,.nilsl,.nilsl,.nilsl]),(1,(ae.enc c))] [.arr true 1 (c.From.map eI),.arr true 1 (c.Order.map eI),.arr true 1 (sa.1.map (cY Event.enc))] 0
def OV (c:ae) (y1:(List Cell)) (tt:(List (List Event))):St:=bg 34 [(2,.ptr (.L 2) 0 0),(3,.ptr (.L 3) 0 0)] [(3,[.sl (y1.map Cell.enc),.mf 2,.mf 0,.mf 1]),(2,[.nilsl,.nilsl,.nilsl,.nilsl])] [.arr true 1 (c.From.map eI),.arr true 1 (c.Order.map eI),.arr true 1 (tt.map (cY Event.enc))] 0
def OW (c:ae) (y1:(List Cell)) (tt:((List (List Event)))):Ex×St:=(.ex 0,OV c y1 tt)
theorem Qq (n:Nat) (c:ae) (y1:(List Cell)):∀ sa r,gr n c y1 sa=some r→aV Tryz.prog OT (L1 c y1 sa) (rk (L1 c y1) (OW c y1) r):=by
 intro sa r h
 unfold gr at h
 rcases aD h with ⟨ha1,h⟩ | ⟨ha1,h⟩
 ·
  exact kQ h (nA B4 [rV 3 [(18,(vI (c.Harts.length:Int))),(19,vF)]]) [wK 2 [2,3] [1] 3] OU (cG rfl kp) (fun z=>(aL (cY Event.enc) c.Harts (aB ha1 z))) (by kernel_rfl)
 obtain ⟨xa2,gxa2,h⟩:=ab h
 obtain ⟨ya3,gya3,h⟩:=ab h
 obtain ⟨ha4,h⟩:=ep h
 exact kQ h (nA B4 [rV 3 [(18,(vI (c.Harts.length:Int))),(19,vT)],(5,⟨[],[31],[(27,[.sl (xa2.map Event.enc)])],[],[(29,.sl (ya3.map Event.enc))],[],[(31,(2,(sa.1++([ya3]:List (List Event))).map (cY Event.enc)))],[],[]⟩)]) [wK 0 [1,2,3,4] [] 3] OU dx (fun z=>(aL (cY Event.enc) c.Harts (aB ha1 (aM (cY Event.enc) gxa2 (aI (sh n xa2 ya3 gya3) (aI (rfl:cA 1 [[.sl (ya3.map Event.enc)]]=true) (aI (rfl:aR [[.sl (ya3.map Event.enc)]]=true) (aI (jp ha4:Nat.ble (((sa.1.map (cY Event.enc)).length + 1) * 24) 140737488355328=true) (aI (lV (cY Event.enc) sa.1 ([ya3]:List (List Event))) z))))))))) (by kernel_rfl)

def nM (c:ae) (y:((List Cell)×(List Int)×(List Int)×(List (List Event)))):AV×List Ob:=(.agg [.sl (y.1.map Cell.enc),.mf 2,.mf 0,.mf 1],[.arr true 1 (y.2.1.map eI),.arr true 1 (y.2.2.1.map eI),.arr true 1 (y.2.2.2.map (cY Event.enc))])
theorem si (n:Nat) (c:ae) (y:((List Cell)×(List Int)×(List Int)×(List (List Event)))) (h:gM n c=some y):SD Tryz.prog 13 [(bD ae.enc c)] [] (fun r' o'=>r'=(nM c y).1∧o'=(nM c y).2):=by
 unfold gM at h
 obtain ⟨y1,gy1,h⟩:=ab h
 obtain ⟨y2,gy2,h⟩:=ab h
 obtain ⟨y3,gy3,h⟩:=ab h
 obtain ⟨t4,gt4,h⟩:=ab h
 obtain rfl:=aK h
 exact kS ⟨B4,[(1,⟨[],[],[],[],[(7,.sl (y1.map Cell.enc))],[(10,(.mf 0,[.arr true 1 (c.From.map eI)])),(13,(.mf 1,[.arr true 1 (c.From.map eI),.arr true 1 (c.Order.map eI)]))],[],[],[]⟩)],[],[(3,(⟨[1,2,3,4],[],2,[],[(3,1,1)],[]⟩,l0,(.ex 0),OV c y1 t4))],[]⟩ L0 ⟨rfl,rfl⟩ (fun z=>(aI (tC n c.First y1 gy1) (aI (l3 n c.From y2 gy2) (aI (lw n c.Order c.From y3 gy3) (aI (eP (pl:=ak 13) (L1 c y1) (OW c y1) (Qq n c y1) n _ t4 gt4) z))))) (by kernel_rfl)

def tE:List (Nat×PT):=[(9,(ew [0,1,2,3,4,5,6,7,8])),(13,(ew [0,1,2,3,4,5,6,7,8,9,10,11])),(14,(ew [0,1,2,3,4,5,6,7,8,9,10,11,12,13,14,15]))]
theorem uv:ay (ak 6) tE (aj Tryz.prog 6)=true:=by kernel_rfl
noncomputable def OX:Code:=sub (aj Tryz.prog 6) [1,1,1,1,0,1,0,0]
theorem L2:ay (ak 6) tE OX=true:=by kernel_rfl
def Jl (c:ae) (n_:Int) (from_:Int) (y8:(List Event)) (sa:Int):St:=bg 80 [(1,(vI n_)),(2,(vI from_)),(3,.ptr (.L 3) 0 0),(7,.sl (y8.map Event.enc)),(8,(vI sa))] [(3,(ae.enc c))] [] 0
def Jm (c:ae) (n_:Int) (from_:Int) (y8:(List Event)) (tt:Unit):St:=bg 80 [(1,(vI n_)),(2,(vI from_)),(3,.ptr (.L 3) 0 0)] [(3,(ae.enc c))] [] 0
def OY (c:ae) (n_:Int) (from_:Int) (y8:(List Event)) (tt:Unit):St:=bg 80 [(6,vF)] [] [] 0
def L3 (c:ae) (n_:Int) (from_:Int) (y8:(List Event)) (t0:(Unit⊕Unit)):Ex×St:=match t0 with | .inl tt=>(.ex 0,Jm c n_ from_ y8 tt) | .inr tt=>(.ret,OY c n_ from_ y8 tt)
theorem OZ (n:Nat) (c:ae) (n_:Int) (from_:Int) (y8:(List Event)):∀ sa r,eT n c n_ from_ y8 sa=some r→aV Tryz.prog OX (Jl c n_ from_ y8 sa) (rk (Jl c n_ from_ y8) (L3 c n_ from_ y8) r):=by
 intro sa r h
 unfold eT at h
 rcases aD h with ⟨ha1,h⟩ | ⟨ha1,h⟩
 ·
  exact kQ h (nA tE [rV 7 [(30,(vI (y8.length:Int))),(31,vF)]]) [wK 2 [1,2,3] [] 0] L2 (cG rfl kp) (fun z=>(aL Event.enc y8 (aB ha1 z))) (by kernel_rfl)
 obtain ⟨ya2,gya2,h⟩:=ab h
 obtain ⟨xa3,gxa3,h⟩:=ab h
 have c295_:=fun (R:Prop) (z:R)=>(aL Event.enc y8 (aB ha1 (aI (tB n c sa ya2 gya2) (aM eI gxa3 z))))
 rcases ap h with ⟨ha4,h⟩ | ⟨ha4,h⟩
 ·
  exact kQ h (nA tE [rV 7 [(30,(vI (y8.length:Int))),(31,vT)],(9,⟨[],[],[(40,[(vI xa3)])],[(42,vT)],[(36,(vI ya2))],[],[],[],[]⟩)]) [wK 1 [6] [3] 0] L2 (cG rfl gC) (fun z=>(c295_ _ (aB ha4 z))) (by kernel_rfl)
 exact kQ h (nA tE [rV 7 [(30,(vI (y8.length:Int))),(31,vT)],(9,⟨[],[],[(40,[(vI xa3)])],[(42,vF)],[(36,(vI ya2))],[],[],[],[]⟩)]) [wK 0 [1,2,3,7,8] [] 0] L2 dx (fun z=>(c295_ _ (aB ha4 z))) (by kernel_rfl)

theorem po (n:Nat) (c:ae) (n_:Int) (from_:Int) (r:Bool) (h:eX n c n_ from_=some r):ax Tryz.prog 6 [(bD ae.enc c),(vI n_),(vI from_)] (eF (.v (.bool r))):=by
 unfold eX at h
 obtain ⟨y1,gy1,h⟩:=ab h
 rcases ap h with ⟨h2,h⟩ | ⟨h2,h⟩
 ·
  obtain rfl:=aK h
  exact kP (nA tE [bi 1 [(11,vT)] [(10,.v (.bool y1))]]) uv (fun z=>(aI (qf n y1 gy1) (aB h2 z))) (by kernel_rfl)
 obtain ⟨y3,gy3,h⟩:=ab h
 have c296_:=fun (R:Prop) (z:R)=>(aI (qf n y1 gy1) (aB h2 (aI (r5 n c 30 y3 gy3) z)))
 let e297_:LR:=[bi 1 [(11,vF)] [(10,.v (.bool y1))]]
 rcases ap h with ⟨h4,h⟩ | ⟨h4,h⟩
 ·
  obtain rfl:=aK h
  exact kP (nA tE (e297_++[bi 3 [(15,vT)] [(13,.v (.bool y3))]])) uv (fun z=>(c296_ _ (aB h4 z))) (by kernel_rfl)
 obtain ⟨y5,gy5,h⟩:=ab h
 have c298_:=fun (R:Prop) (z:R)=>(aB h4 (aI (r6 n c y5 gy5) z))
 rcases ap h with ⟨h6,h⟩ | ⟨h6,h⟩
 ·
  obtain rfl:=aK h
  exact kP (nA tE (e297_++[bi 3 [(15,vF),(20,vT)] [(13,.v (.bool y3)),(17,.v (.bool y5))]])) uv (fun z=>(c296_ _ (c298_ _ (aB h6 z)))) (by kernel_rfl)
 have c299_:=fun (R:Prop) (z:R)=>(aB h6 (aL eI c.From z))
 rcases ap h with ⟨h7,h⟩ | ⟨h7,h⟩
 ·
  obtain rfl:=aK h
  exact kP (nA tE (e297_++[bi 3 [(15,vF),(20,vF),(23,(vI (c.From.length:Int))),(25,vT)] [(13,.v (.bool y3)),(17,.v (.bool y5))]])) uv (fun z=>(c296_ _ (c298_ _ (c299_ _ (aB h7 z))))) (by kernel_rfl)
 obtain ⟨y8,gy8,h⟩:=ab h
 obtain ⟨t9,gt9,h⟩:=ab h
 have c300_:=fun (R:Prop) (z:R)=>(aB h7 (aI (B2 n c y8 gy8) z))
 let e301_:LR:=[bi 3 [(15,vF),(20,vF),(23,(vI (c.From.length:Int))),(25,vF)] [(13,.v (.bool y3)),(17,.v (.bool y5))],bi 5 [] [(27,.sl (y8.map Event.enc))]]
 rcases t9 with w10 | w10
 ·
  obtain ⟨y11,gy11,h⟩:=ab h
  obtain ⟨y12,gy12,h⟩:=ab h
  obtain ⟨y13,gy13,h⟩:=ab h
  obtain ⟨x14,gx14,h⟩:=ab h
  obtain ⟨x15,gx15,h⟩:=ab h
  obtain ⟨x16,gx16,h⟩:=ab h
  have d0_:AV.v (.int .i64 (((c.From.map eI).length:Nat):Int))=AV.v (.int .i64 (c.From.length:Int)):=rL _ _
  have c302_:=fun (R:Prop) (z:R)=>(aI (eP (pl:=ak 6) (Jl c n_ from_ y8) (L3 c n_ from_ y8) (OZ n c n_ from_ y8) n _ (.inl w10) gt9) (aI d0_ (aI (sg n n_ (c.From.length:Int) y11 gy11) (aI (si n c y12 gy12) (aI d0_ (aI (sg n from_ (af .i64 (c.From.length:Int) 1) y13 gy13) (aM eI gx14 (aN eI gx14 (aI (fO eI y12.2.1 ((y11).toNat) (cj .i64 y13 1)) (aM eI gx15 (aN eI gx15 (aM eI gx16 z))))))))))))
  let e303_:LR:=[bi 11 [(46,(vI (c.From.length:Int)))] [(47,(vI y11))],(12,⟨[],[],[],[],[],[(49,(.agg [.sl (y12.1.map Cell.enc),.mf 2,.mf 0,.mf 1],[.arr true 1 (y12.2.1.map eI),.arr true 1 (y12.2.2.1.map eI),.arr true 1 (y12.2.2.2.map (cY Event.enc))]))],[],[],[]⟩),(13,⟨[],[],[(60,[(vI x14)]),(1000060,[(vI x14)])],[(56,(vI (c.From.length:Int)))],[(58,(vI y13))],[],[(1000060,(0,(y12.2.1.set (y11).toNat (cj .i64 y13 1)).map eI))],[],[]⟩)]
  rcases ap h with ⟨h17,h⟩ | ⟨h17,h⟩
  ·
   obtain rfl:=aK h
   exact kP ⟨tE,(e297_++(e301_++(e303_++[(14,⟨[],[],[(64,[(vI x15)]),(65,[(vI x15)]),(69,[(vI x16)])],[(72,vT)],[],[],[],[],[]⟩)]))),[],[(7,(⟨[1,2,3,7,8],[],0,[],[],[]⟩,l0,(.ex 0),Jm c n_ from_ y8 w10))],[]⟩ uv (fun z=>(c296_ _ (c298_ _ (c299_ _ (c300_ _ (c302_ _ (aB h17 z))))))) (by kernel_rfl)
  obtain ⟨y18,gy18,h⟩:=ab h
  have c304_:=fun (R:Prop) (z:R)=>(aB h17 (aI (qg n (ae.mk y12.1 y12.2.2.2 (y12.2.1.set (y11).toNat (cj .i64 y13 1)) y12.2.2.1) y18 gy18) z))
  rcases ap h with ⟨h19,h⟩ | ⟨h19,h⟩
  ·
   obtain rfl:=aK h
   exact kP ⟨tE,(e297_++(e301_++(e303_++[(14,⟨[],[],[(64,[(vI x15)]),(65,[(vI x15)]),(69,[(vI x16)])],[(72,vF),(76,vT)],[(74,(vI y18))],[],[],[],[]⟩)]))),[],[(7,(⟨[1,2,3,7,8],[],0,[],[],[]⟩,l0,(.ex 0),Jm c n_ from_ y8 w10))],[]⟩ uv (fun z=>(c296_ _ (c298_ _ (c299_ _ (c300_ _ (c302_ _ (c304_ _ (aB h19 z)))))))) (by kernel_rfl)
  obtain ⟨y20,gy20,h⟩:=ab h
  obtain rfl:=aK h
  exact kP ⟨tE,(e297_++(e301_++(e303_++[(14,⟨[],[],[(64,[(vI x15)]),(65,[(vI x15)]),(69,[(vI x16)])],[(72,vF),(76,vF)],[(74,(vI y18))],[],[],[],[]⟩),bi 16 [] [(78,.v (.bool y20))]]))),[],[(7,(⟨[1,2,3,7,8],[],0,[],[],[]⟩,l0,(.ex 0),Jm c n_ from_ y8 w10))],[]⟩ uv (fun z=>(c296_ _ (c298_ _ (c299_ _ (c300_ _ (c302_ _ (c304_ _ (aB h19 (aI (r6 n (ae.mk y12.1 y12.2.2.2 (y12.2.1.set (y11).toNat (cj .i64 y13 1)) y12.2.2.1) y20 gy20) z))))))))) (by kernel_rfl)
 ·
  obtain rfl:=aK h
  exact kP ⟨tE,(e297_++(e301_++[])),[],[(7,(⟨[1,2,3,7,8],[],0,[],[],[]⟩,l0,.ret,OY c n_ from_ y8 w10))],[]⟩ uv (fun z=>(c296_ _ (c298_ _ (c299_ _ (c300_ _ (aI (eP (pl:=ak 6) (Jl c n_ from_ y8) (L3 c n_ from_ y8) (OZ n c n_ from_ y8) n _ (.inr w10) gt9) z)))))) (by kernel_rfl)

end
end Go.Proofs.YtomahedcdcnnhaaGreatDoor
