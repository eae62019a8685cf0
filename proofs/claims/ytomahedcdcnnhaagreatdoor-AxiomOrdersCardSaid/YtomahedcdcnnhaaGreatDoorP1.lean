/- What the functions compute, they compute: printed by a program, path by path. No conditions. -/
import Derived.Test.YtomahedcdcnnhaaGreatDoorP0
import Derived.KernelRfl
namespace Go.Proofs.YtomahedcdcnnhaaGreatDoor
open Go A
set_option linter.unusedVariables false
set_option maxRecDepth 100000
set_option maxHeartbeats 0
section
variable (pc:Nat→List AV→(AV→Prop)→Prop) (sc:Nat→List AV→List Ob→(AV→List Ob→Prop)→Prop) (lp:bz→Code→St→(Ex→St→Prop)→Prop) (cd:yb)

def Ii:List (Nat×PT):=[(5,(ei [0,1,2,3,4,5,6,7,8])),(6,(ei [0,1,2,3,4,5,6,7,8]))]
theorem Ij:ax (al 29) Ii (aj Tryz.prog 29)=true:=by kernel_rfl
theorem oZ (n:Nat) (fences:Bool) (r:af) (h:mA n fences=some r):aw Tryz.prog 29 [.v (.bool fences)] (ew ((bq af.enc r))):=by
 unfold mA at h
 rcases ao h with ⟨h1,h⟩ | ⟨h1,h⟩
 ·
  obtain rfl:=aF h
  exact kP (nA Ii [rV 3 [(12,vT)]]) Ij (fun z=>(aB h1 ((ce.agg (dE.cons ce.nil (dE.cons (ce.sl (fF.cons (dE.cons (ce.sl (fF.cons (lc (lc (lc (lc (lc (lc (lc (lc (lc (lc (lc (dE.cons ce.nil (dE.cons ce.nil (dE.cons ce.nil dE.nil)))))))))))))) (fF.cons (lc (lc (lc (lc (lc (lc (lc (lc (lc (lc (lc (dE.cons ce.nil (dE.cons ce.nil (dE.cons ce.nil dE.nil)))))))))))))) fF.nil))) dE.nil) (fF.cons (dE.cons (ce.sl (fF.cons (lc (lc (lc (lc (lc (lc (lc (lc (lc (lc (lc (dE.cons ce.nil (dE.cons ce.nil (dE.cons ce.nil dE.nil)))))))))))))) (fF.cons (lc (lc (lc (lc (lc (lc (lc (lc (lc (lc (lc (dE.cons ce.nil (dE.cons ce.nil (dE.cons ce.nil dE.nil)))))))))))))) fF.nil))) dE.nil) fF.nil))) (lc (lc dE.nil))))):ce (.agg [.nilsl,.sl [[.sl [[(vI 0),(vI 0),(vI 2),(vU 8),(vU 0),(vU 1),vF,vF,(vI 0),(vI 0),(vI 0),.nilsl,.nilsl,.nilsl],[(vI 0),(vI 1),(vI 2),(vU 16),(vU 0),(vU 1),vF,vF,(vI 0),(vI 0),(vI 0),.nilsl,.nilsl,.nilsl]]],[.sl [[(vI 1),(vI 0),(vI 1),(vU 16),(vU 1),(vU 0),vF,vF,(vI 0),(vI 0),(vI 0),.nilsl,.nilsl,.nilsl],[(vI 1),(vI 1),(vI 1),(vU 8),(vU 0),(vU 0),vF,vF,(vI 0),(vI 0),(vI 0),.nilsl,.nilsl,.nilsl]]]],.sl [[(vI (-1))],[(vI (-1))],[(vI 1)],[(vI (-1))]],.sl [[(vI 1)],[(vI 2)],[(vI 3)],[(vI 0)]]]) (.agg [.sl (((af.mk ([]:List Cell) ([([(Event.mk 0 0 2 8 0 1 false false 0 0 0 (dg.mk ([]:List Int) ([]:List Int) ([]:List Int))),(Event.mk 0 1 2 16 0 1 false false 0 0 0 (dg.mk ([]:List Int) ([]:List Int) ([]:List Int)))]:List Event),([(Event.mk 1 0 1 16 1 0 false false 0 0 0 (dg.mk ([]:List Int) ([]:List Int) ([]:List Int))),(Event.mk 1 1 1 8 0 0 false false 0 0 0 (dg.mk ([]:List Int) ([]:List Int) ([]:List Int)))]:List Event)]:List (List Event)) ([(-1),(-1),1,(-1)]:List Int) ([1,2,3,0]:List Int)).gc).map Cell.enc),.sl (((af.mk ([]:List Cell) ([([(Event.mk 0 0 2 8 0 1 false false 0 0 0 (dg.mk ([]:List Int) ([]:List Int) ([]:List Int))),(Event.mk 0 1 2 16 0 1 false false 0 0 0 (dg.mk ([]:List Int) ([]:List Int) ([]:List Int)))]:List Event),([(Event.mk 1 0 1 16 1 0 false false 0 0 0 (dg.mk ([]:List Int) ([]:List Int) ([]:List Int))),(Event.mk 1 1 1 8 0 0 false false 0 0 0 (dg.mk ([]:List Int) ([]:List Int) ([]:List Int)))]:List Event)]:List (List Event)) ([(-1),(-1),1,(-1)]:List Int) ([1,2,3,0]:List Int)).am).map (dA Event.enc)),.sl (((af.mk ([]:List Cell) ([([(Event.mk 0 0 2 8 0 1 false false 0 0 0 (dg.mk ([]:List Int) ([]:List Int) ([]:List Int))),(Event.mk 0 1 2 16 0 1 false false 0 0 0 (dg.mk ([]:List Int) ([]:List Int) ([]:List Int)))]:List Event),([(Event.mk 1 0 1 16 1 0 false false 0 0 0 (dg.mk ([]:List Int) ([]:List Int) ([]:List Int))),(Event.mk 1 1 1 8 0 0 false false 0 0 0 (dg.mk ([]:List Int) ([]:List Int) ([]:List Int)))]:List Event)]:List (List Event)) ([(-1),(-1),1,(-1)]:List Int) ([1,2,3,0]:List Int)).la).map eI),.sl (((af.mk ([]:List Cell) ([([(Event.mk 0 0 2 8 0 1 false false 0 0 0 (dg.mk ([]:List Int) ([]:List Int) ([]:List Int))),(Event.mk 0 1 2 16 0 1 false false 0 0 0 (dg.mk ([]:List Int) ([]:List Int) ([]:List Int)))]:List Event),([(Event.mk 1 0 1 16 1 0 false false 0 0 0 (dg.mk ([]:List Int) ([]:List Int) ([]:List Int))),(Event.mk 1 1 1 8 0 0 false false 0 0 0 (dg.mk ([]:List Int) ([]:List Int) ([]:List Int)))]:List Event)]:List (List Event)) ([(-1),(-1),1,(-1)]:List Int) ([1,2,3,0]:List Int)).bt).map eI)]))))
 obtain rfl:=aF h
 exact kP (nA Ii [rV 3 [(12,vF)]]) Ij (fun z=>(aB h1 ((ce.agg (dE.cons ce.nil (dE.cons (ce.sl (fF.cons (dE.cons (ce.sl (fF.cons (lc (lc (lc (lc (lc (lc (lc (lc (lc (lc (lc (dE.cons ce.nil (dE.cons ce.nil (dE.cons ce.nil dE.nil)))))))))))))) (fF.cons (lc (lc (lc (lc (lc (lc (lc (lc (lc (lc (lc (dE.cons ce.nil (dE.cons ce.nil (dE.cons ce.nil dE.nil)))))))))))))) (fF.cons (lc (lc (lc (lc (lc (lc (lc (lc (lc (lc (lc (dE.cons ce.nil (dE.cons ce.nil (dE.cons ce.nil dE.nil)))))))))))))) fF.nil)))) dE.nil) (fF.cons (dE.cons (ce.sl (fF.cons (lc (lc (lc (lc (lc (lc (lc (lc (lc (lc (lc (dE.cons ce.nil (dE.cons ce.nil (dE.cons ce.nil dE.nil)))))))))))))) (fF.cons (lc (lc (lc (lc (lc (lc (lc (lc (lc (lc (lc (dE.cons ce.nil (dE.cons ce.nil (dE.cons ce.nil dE.nil)))))))))))))) (fF.cons (lc (lc (lc (lc (lc (lc (lc (lc (lc (lc (lc (dE.cons ce.nil (dE.cons ce.nil (dE.cons ce.nil dE.nil)))))))))))))) fF.nil)))) dE.nil) fF.nil))) (lc (lc dE.nil))))):ce (.agg [.nilsl,.sl [[.sl [[(vI 0),(vI 0),(vI 2),(vU 8),(vU 0),(vU 1),vF,vF,(vI 0),(vI 0),(vI 0),.nilsl,.nilsl,.nilsl],[(vI 0),(vI 1),(vI 6),(vU 0),(vU 0),(vU 0),vF,vF,(vI 1),(vI 1),(vI 0),.nilsl,.nilsl,.nilsl],[(vI 0),(vI 2),(vI 2),(vU 16),(vU 0),(vU 1),vF,vF,(vI 0),(vI 0),(vI 0),.nilsl,.nilsl,.nilsl]]],[.sl [[(vI 1),(vI 0),(vI 1),(vU 16),(vU 1),(vU 0),vF,vF,(vI 0),(vI 0),(vI 0),.nilsl,.nilsl,.nilsl],[(vI 1),(vI 1),(vI 6),(vU 0),(vU 0),(vU 0),vF,vF,(vI 2),(vI 2),(vI 0),.nilsl,.nilsl,.nilsl],[(vI 1),(vI 2),(vI 1),(vU 8),(vU 0),(vU 0),vF,vF,(vI 0),(vI 0),(vI 0),.nilsl,.nilsl,.nilsl]]]],.sl [[(vI (-1))],[(vI (-1))],[(vI (-1))],[(vI 2)],[(vI (-1))],[(vI (-1))]],.sl [[(vI 2)],[(vI 3)],[(vI 5)],[(vI 0)]]]) (.agg [.sl (((af.mk ([]:List Cell) ([([(Event.mk 0 0 2 8 0 1 false false 0 0 0 (dg.mk ([]:List Int) ([]:List Int) ([]:List Int))),(Event.mk 0 1 6 0 0 0 false false 1 1 0 (dg.mk ([]:List Int) ([]:List Int) ([]:List Int))),(Event.mk 0 2 2 16 0 1 false false 0 0 0 (dg.mk ([]:List Int) ([]:List Int) ([]:List Int)))]:List Event),([(Event.mk 1 0 1 16 1 0 false false 0 0 0 (dg.mk ([]:List Int) ([]:List Int) ([]:List Int))),(Event.mk 1 1 6 0 0 0 false false 2 2 0 (dg.mk ([]:List Int) ([]:List Int) ([]:List Int))),(Event.mk 1 2 1 8 0 0 false false 0 0 0 (dg.mk ([]:List Int) ([]:List Int) ([]:List Int)))]:List Event)]:List (List Event)) ([(-1),(-1),(-1),2,(-1),(-1)]:List Int) ([2,3,5,0]:List Int)).gc).map Cell.enc),.sl (((af.mk ([]:List Cell) ([([(Event.mk 0 0 2 8 0 1 false false 0 0 0 (dg.mk ([]:List Int) ([]:List Int) ([]:List Int))),(Event.mk 0 1 6 0 0 0 false false 1 1 0 (dg.mk ([]:List Int) ([]:List Int) ([]:List Int))),(Event.mk 0 2 2 16 0 1 false false 0 0 0 (dg.mk ([]:List Int) ([]:List Int) ([]:List Int)))]:List Event),([(Event.mk 1 0 1 16 1 0 false false 0 0 0 (dg.mk ([]:List Int) ([]:List Int) ([]:List Int))),(Event.mk 1 1 6 0 0 0 false false 2 2 0 (dg.mk ([]:List Int) ([]:List Int) ([]:List Int))),(Event.mk 1 2 1 8 0 0 false false 0 0 0 (dg.mk ([]:List Int) ([]:List Int) ([]:List Int)))]:List Event)]:List (List Event)) ([(-1),(-1),(-1),2,(-1),(-1)]:List Int) ([2,3,5,0]:List Int)).am).map (dA Event.enc)),.sl (((af.mk ([]:List Cell) ([([(Event.mk 0 0 2 8 0 1 false false 0 0 0 (dg.mk ([]:List Int) ([]:List Int) ([]:List Int))),(Event.mk 0 1 6 0 0 0 false false 1 1 0 (dg.mk ([]:List Int) ([]:List Int) ([]:List Int))),(Event.mk 0 2 2 16 0 1 false false 0 0 0 (dg.mk ([]:List Int) ([]:List Int) ([]:List Int)))]:List Event),([(Event.mk 1 0 1 16 1 0 false false 0 0 0 (dg.mk ([]:List Int) ([]:List Int) ([]:List Int))),(Event.mk 1 1 6 0 0 0 false false 2 2 0 (dg.mk ([]:List Int) ([]:List Int) ([]:List Int))),(Event.mk 1 2 1 8 0 0 false false 0 0 0 (dg.mk ([]:List Int) ([]:List Int) ([]:List Int)))]:List Event)]:List (List Event)) ([(-1),(-1),(-1),2,(-1),(-1)]:List Int) ([2,3,5,0]:List Int)).la).map eI),.sl (((af.mk ([]:List Cell) ([([(Event.mk 0 0 2 8 0 1 false false 0 0 0 (dg.mk ([]:List Int) ([]:List Int) ([]:List Int))),(Event.mk 0 1 6 0 0 0 false false 1 1 0 (dg.mk ([]:List Int) ([]:List Int) ([]:List Int))),(Event.mk 0 2 2 16 0 1 false false 0 0 0 (dg.mk ([]:List Int) ([]:List Int) ([]:List Int)))]:List Event),([(Event.mk 1 0 1 16 1 0 false false 0 0 0 (dg.mk ([]:List Int) ([]:List Int) ([]:List Int))),(Event.mk 1 1 6 0 0 0 false false 2 2 0 (dg.mk ([]:List Int) ([]:List Int) ([]:List Int))),(Event.mk 1 2 1 8 0 0 false false 0 0 0 (dg.mk ([]:List Int) ([]:List Int) ([]:List Int)))]:List Event)]:List (List Event)) ([(-1),(-1),(-1),2,(-1),(-1)]:List Int) ([2,3,5,0]:List Int)).bt).map eI)]))))

def tg:List (Nat×PT):=[(4,(ei [0,1,2,3,4,5,6,7,8,9,10,11,12,13,14,15,16,17,18]))]
theorem Ik:ax (al 75) tg (aj Tryz.prog 75)=true:=by kernel_rfl
noncomputable def Z0:Code:=sub (aj Tryz.prog 75) [1,0,1,0,0]
theorem Z1:ax (al 75) tg Z0=true:=by kernel_rfl
def Z2 (l:(List Cell)) (sa:Int):St:=ba 32 [(0,.sl (l.map Cell.enc)),(5,.sl (l.map Cell.enc)),(6,(vI (l.length:Int))),(7,(vI sa))] [] [] 0
def Z3 (l:(List Cell)) (tt:Unit):St:=ba 32 [] [] [] 0
def Z4 (l:(List Cell)) (tt:Unit):St:=ba 32 [(2,vF)] [] [] 0
def Z5 (l:(List Cell)) (t0:(Unit⊕Unit)):Ex×St:=match t0 with | .inl tt=>(.ex 0,Z3 l tt) | .inr tt=>(.ret,Z4 l tt)
theorem Z6 (n:Nat) (l:(List Cell)):∀ sa r,mY n l sa=some r→aQ Tryz.prog Z0 (Z2 l sa) (rk (Z2 l) (Z5 l) r):=by
 intro sa r h
 unfold mY at h
 rcases aA h with ⟨ha1,h⟩ | ⟨ha1,h⟩
 ·
  exact kQ h (nA tg [rV 2 [(8,vF)]]) [wK 2 [] [] 0] Z1 (cn rfl i3) (fun z=>(aB ha1 z))
 obtain ⟨xa2,gxa2,h⟩:=ab h
 have RQ:=fun (R:Prop) (z:R)=>(aB ha1 (aM Cell.enc gxa2 z))
 let e2_:LR:=[rV 2 [(8,vT)],rR 3 [(10,(Cell.enc xa2))]]
 rcases ao h with ⟨ha3,h⟩ | ⟨ha3,h⟩
 ·
  exact kQ h (nA tg (e2_++[rV 4 [(16,vT)]])) [wK 1 [2] [4] 0] Z1 (cn rfl gF) (fun z=>(RQ _ (aB ha3 z)))
 rcases aA h with ⟨ha4,h⟩ | ⟨ha4,h⟩
 ·
  exact kQ h (nA tg (e2_++[rV 4 [(16,vF),(19,vF)]])) [wK 0 [0,5,6,7] [4] 0] Z1 cR (fun z=>(RQ _ (aB ha3 (aB ha4 z))))
 obtain ⟨xa5,gxa5,h⟩:=ab h
 have Sv:=fun (R:Prop) (z:R)=>RQ _ (aB ha3 (aB ha4 (aM Cell.enc gxa5 z)))
 rcases ao h with ⟨ha6,h⟩ | ⟨ha6,h⟩
 ·
  exact kQ h (nA tg (e2_++[(4,⟨[],[],[(23,(Cell.enc xa5))],[(16,vF),(19,vT),(30,vT)],[],[],[],[],[]⟩)])) [wK 1 [2] [4] 0] Z1 (cn rfl gF) (fun z=>(Sv _ (aB ha6 z)))
 exact kQ h (nA tg (e2_++[(4,⟨[],[],[(23,(Cell.enc xa5))],[(16,vF),(19,vT),(30,vF)],[],[],[],[],[]⟩)])) [wK 0 [0,5,6,7] [4] 0] Z1 cR (fun z=>(Sv _ (aB ha6 z)))

theorem yn (n:Nat) (l:(List Cell)) (r:Bool) (h:lL n l=some r):aw Tryz.prog 75 [.sl (l.map Cell.enc)] (ew (.v (.bool r))):=by
 unfold lL at h
 obtain ⟨t1,gt1,h⟩:=ab h
 rcases t1 with w2 | w2
 ·
  obtain rfl:=aF h
  exact kP ⟨tg,[rV 1 [(6,(vI (l.length:Int)))]],[],[(2,(⟨[0,5,6,7],[],0,[],[],[]⟩,l0,(.ex 0),Z3 l w2))],[]⟩ Ik (fun z=>(aL Cell.enc l (aI (eo (pl:=al 75) (Z2 l) (Z5 l) (Z6 n l) n _ (.inl w2) gt1) z)))
 ·
  obtain rfl:=aF h
  exact kP ⟨tg,[rV 1 [(6,(vI (l.length:Int)))]],[],[(2,(⟨[0,5,6,7],[],0,[],[],[]⟩,l0,.ret,Z4 l w2))],[]⟩ Ik (fun z=>(aL Cell.enc l (aI (eo (pl:=al 75) (Z2 l) (Z5 l) (Z6 n l) n _ (.inr w2) gt1) z)))

def rc:List (Nat×PT):=[]
theorem oK:ax (al 65) rc (aj Tryz.prog 65)=true:=by kernel_rfl
theorem ng (n:Nat) (kind:Int) (r:Int) (h:jN n kind=some r):aw Tryz.prog 65 [(vI kind)] (ew ((vU r))):=by
 unfold jN at h
 rcases ao h with ⟨h1,h⟩ | ⟨h1,h⟩
 ·
  obtain rfl:=aF h
  exact kP (nA rc [rV 1 [(5,vT)]]) oK (fun z=>(aB h1 z))
 rcases ao h with ⟨h2,h⟩ | ⟨h2,h⟩
 ·
  obtain rfl:=aF h
  exact kP (nA rc [rV 1 [(5,vF),(8,vT)]]) oK (fun z=>(aB h1 (aB h2 z)))
 have K_:=fun (R:Prop) (z:R)=>(aB h1 (aB h2 z))
 let e5_:LR:=[rV 1 [(5,vF),(8,vF)]]
 rcases ao h with ⟨h3,h⟩ | ⟨h3,h⟩
 ·
  obtain rfl:=aF h
  exact kP (nA rc (e5_++[rV 3 [(10,(vI 0))]])) oK (fun z=>(K_ _ (aE .i64 h3 z)))
 rcases ao h with ⟨h3,h⟩ | ⟨h3,h⟩
 ·
  obtain rfl:=aF h
  exact kP (nA rc (e5_++[rV 3 [(10,(vI 1))]])) oK (fun z=>(K_ _ (aE .i64 h3 z)))
 rcases ao h with ⟨h3,h⟩ | ⟨h3,h⟩
 ·
  obtain rfl:=aF h
  exact kP (nA rc (e5_++[rV 3 [(10,(vI 2))]])) oK (fun z=>(K_ _ (aE .i64 h3 z)))
 rcases ao h with ⟨h3,h⟩ | ⟨h3,h⟩
 ·
  obtain rfl:=aF h
  exact kP (nA rc (e5_++[rV 3 [(10,(vI 3))]])) oK (fun z=>(K_ _ (aE .i64 h3 z)))
 rcases ao h with ⟨h3,h⟩ | ⟨h3,h⟩
 ·
  obtain rfl:=aF h
  exact kP (nA rc (e5_++[rV 3 [(10,(vI 4))]])) oK (fun z=>(K_ _ (aE .i64 h3 z)))
 rcases ao h with ⟨h3,h⟩ | ⟨h3,h⟩
 ·
  obtain rfl:=aF h
  exact kP (nA rc (e5_++[rV 3 [(10,(vI 5))]])) oK (fun z=>(K_ _ (aE .i64 h3 z)))
 rcases ao h with ⟨h3,h⟩ | ⟨h3,h⟩
 ·
  obtain rfl:=aF h
  exact kP (nA rc (e5_++[rV 3 [(10,(vI 6))]])) oK (fun z=>(K_ _ (aE .i64 h3 z)))
 cases h

def p9:List (Nat×PT):=[(6,(ei [0,1,2,3,4,5,6,7,8]))]
theorem BA:ax (al 130) p9 (aj Tryz.prog 130)=true:=by kernel_rfl
noncomputable def Z7:Code:=sub (aj Tryz.prog 130) [1,1,0,1,0,0]
theorem Z8:ax (al 130) p9 Z7=true:=by kernel_rfl
def Z9 (s1_:(List Int)) (s2_:(List Int)) (sa:Int):St:=ba 26 [(0,.sl (s1_.map eI)),(1,.sl (s2_.map eI)),(12,(vI (s1_.length:Int))),(13,(vI sa))] [] [] 0
def T1 (s1_:(List Int)) (s2_:(List Int)) (tt:Unit):St:=ba 26 [] [] [] 0
def T2 (s1_:(List Int)) (s2_:(List Int)) (tt:Unit):St:=ba 26 [(4,vF)] [] [] 0
def SI (s1_:(List Int)) (s2_:(List Int)) (t0:(Unit⊕Unit)):Ex×St:=match t0 with | .inl tt=>(.ex 0,T1 s1_ s2_ tt) | .inr tt=>(.ret,T2 s1_ s2_ tt)
theorem T3 (n:Nat) (s1_:(List Int)) (s2_:(List Int)):∀ sa r,bn n s1_ s2_ sa=some r→aQ Tryz.prog Z7 (Z9 s1_ s2_ sa) (rk (Z9 s1_ s2_) (SI s1_ s2_) r):=by
 intro sa r h
 unfold bn at h
 rcases aA h with ⟨ha1,h⟩ | ⟨ha1,h⟩
 ·
  exact kQ h (nA p9 [rV 4 [(14,vF)]]) [wK 2 [] [] 0] Z8 (cn rfl i3) (fun z=>(aB ha1 z))
 obtain ⟨xa2,gxa2,h⟩:=ab h
 obtain ⟨xa3,gxa3,h⟩:=ab h
 have c6_:=fun (R:Prop) (z:R)=>(aB ha1 (aM eI gxa2 (aM eI gxa3 z)))
 rcases ao h with ⟨ha4,h⟩ | ⟨ha4,h⟩
 ·
  exact kQ h (nA p9 [rV 4 [(14,vT)],(6,⟨[],[],[(18,[(vI xa2)]),(22,[(vI xa3)])],[(24,vT)],[],[],[],[],[]⟩)]) [wK 1 [4] [] 0] Z8 (cn rfl gF) (fun z=>(c6_ _ (aB ha4 z)))
 exact kQ h (nA p9 [rV 4 [(14,vT)],(6,⟨[],[],[(18,[(vI xa2)]),(22,[(vI xa3)])],[(24,vF)],[],[],[],[],[]⟩)]) [wK 0 [0,1,12,13] [] 0] Z8 cR (fun z=>(c6_ _ (aB ha4 z)))

theorem fB (n:Nat) (s1_:(List Int)) (s2_:(List Int)) (r:Bool) (h:bV n s1_ s2_=some r):aw Tryz.prog 130 [.sl (s1_.map eI),.sl (s2_.map eI)] (ew (.v (.bool r))):=by
 unfold bV at h
 rcases ao h with ⟨h1,h⟩ | ⟨h1,h⟩
 ·
  obtain rfl:=aF h
  exact kP (nA p9 [rV 1 [(7,(vI (s1_.length:Int))),(9,(vI (s2_.length:Int))),(10,vT)]]) BA (fun z=>(aL eI s1_ (aL eI s2_ (aB h1 z))))
 obtain ⟨t2,gt2,h⟩:=ab h
 have d0_:AV.v (.int .i64 (((s1_.map eI).length:Nat):Int))=AV.v (.int .i64 (s1_.length:Int)):=tf _ _
 have c7_:=fun (R:Prop) (z:R)=>(aI d0_ (aL eI s2_ (aB h1 (aI d0_ z))))
 rcases t2 with w3 | w3
 ·
  obtain rfl:=aF h
  exact kP ⟨p9,[rV 1 [(7,(vI (s1_.length:Int))),(9,(vI (s2_.length:Int))),(10,vF)],rV 3 [(12,(vI (s1_.length:Int)))]],[],[(4,(⟨[0,1,12,13],[],0,[],[],[]⟩,l0,(.ex 0),T1 s1_ s2_ w3))],[]⟩ BA (fun z=>(c7_ _ (aI (eo (pl:=al 130) (Z9 s1_ s2_) (SI s1_ s2_) (T3 n s1_ s2_) n _ (.inl w3) gt2) z)))
 ·
  obtain rfl:=aF h
  exact kP ⟨p9,[rV 1 [(7,(vI (s1_.length:Int))),(9,(vI (s2_.length:Int))),(10,vF)],rV 3 [(12,(vI (s1_.length:Int)))]],[],[(4,(⟨[0,1,12,13],[],0,[],[],[]⟩,l0,.ret,T2 s1_ s2_ w3))],[]⟩ BA (fun z=>(c7_ _ (aI (eo (pl:=al 130) (Z9 s1_ s2_) (SI s1_ s2_) (T3 n s1_ s2_) n _ (.inr w3) gt2) z)))

def Il:List (Nat×PT):=[]
theorem Ki:ax (al 131) Il (aj Tryz.prog 131)=true:=by kernel_rfl
theorem nM (n:Nat) (e:Event) (r:aU) (h:i6 n e=some r):aw Tryz.prog 131 [(bq Event.enc e)] (ew ((bq aU.enc r))):=by
 unfold i6 at h
 obtain rfl:=aF h
 exact kP (nA Il []) Ki (fun z=>z)

def uL:List (Nat×PT):=[(1,(ei [0,1,2,3,4,5,6,7])),(5,(ei [0,1,2,3,4,5,6,7]))]
theorem ti:ax (al 100) uL (aj Tryz.prog 100)=true:=by kernel_rfl
theorem yo (n:Nat) (a:Event) (b:Event) (r:Bool) (h:lM n a b=some r):aw Tryz.prog 100 [(bq Event.enc a),(bq Event.enc b)] (ew (.v (.bool r))):=by
 unfold lM at h
 obtain ⟨y1,gy1,h⟩:=ab h
 have c8_:=fun (R:Prop) (z:R)=>(aI (fB n a.dg.Addr b.dg.Addr y1 gy1) z)
 rcases ao h with ⟨h2,h⟩ | ⟨h2,h⟩
 ·
  obtain rfl:=aF h
  exact kP (nA uL [aZ 2 [(18,vT)] [(16,.v (.bool y1))]]) ti (fun z=>(c8_ _ (aB h2 z)))
 obtain ⟨y3,gy3,h⟩:=ab h
 have c9_:=fun (R:Prop) (z:R)=>c8_ _ (aB h2 (aI (fB n a.dg.Data b.dg.Data y3 gy3) z))
 rcases ao h with ⟨h4,h⟩ | ⟨h4,h⟩
 ·
  obtain rfl:=aF h
  exact kP (nA uL [aZ 2 [(18,vF),(26,vT)] [(16,.v (.bool y1)),(23,.v (.bool y3))]]) ti (fun z=>(c9_ _ (aB h4 z)))
 obtain ⟨y5,gy5,h⟩:=ab h
 have c10_:=fun (R:Prop) (z:R)=>c9_ _ (aB h4 (aI (fB n a.dg.Way b.dg.Way y5 gy5) z))
 rcases ao h with ⟨h6,h⟩ | ⟨h6,h⟩
 ·
  obtain rfl:=aF h
  exact kP (nA uL [aZ 2 [(18,vF),(26,vF),(33,vT)] [(16,.v (.bool y1)),(23,.v (.bool y3)),(31,.v (.bool y5))]]) ti (fun z=>(c10_ _ (aB h6 z)))
 obtain ⟨y7,gy7,h⟩:=ab h
 obtain ⟨y8,gy8,h⟩:=ab h
 have c11_:=fun (R:Prop) (z:R)=>c10_ _ (aB h6 (aI (nM n a y7 gy7) (aI (nM n b y8 gy8) z)))
 rcases ao h with ⟨h9,h⟩ | ⟨h9,h⟩
 ·
  obtain rfl:=aF h
  exact kP (nA uL [aZ 2 [(18,vF),(26,vF),(33,vF)] [(16,.v (.bool y1)),(23,.v (.bool y3)),(31,.v (.bool y5))],(5,⟨[],[40],[],[(40,vT)],[(36,(bq aU.enc y7)),(39,(bq aU.enc y8))],[],[],[],[]⟩)]) ti (fun z=>(c11_ _ (aI ((kL y7 y8).trans (congrArg (fun b=>some (Value.bool b)) h9):pw Tryz.prog .eql 148 [(.int .i64 y7.hart),(.int .i64 y7.at_),(.int .i64 y7.kind),(.int .i64 y7.pred),(.int .i64 y7.succ),(.int .i64 y7.pair),(.int .u64 y7.addr),(.int .u64 y7.load),(.int .u64 y7.store),(.bool y7.aq),(.bool y7.rl)] [(.int .i64 y8.hart),(.int .i64 y8.at_),(.int .i64 y8.kind),(.int .i64 y8.pred),(.int .i64 y8.succ),(.int .i64 y8.pair),(.int .u64 y8.addr),(.int .u64 y8.load),(.int .u64 y8.store),(.bool y8.aq),(.bool y8.rl)]=some (.bool true)) (aI (rfl:AV.v (.bool true)=AV.v (.bool true)) z))))
 obtain rfl:=aF h
 exact kP (nA uL [aZ 2 [(18,vF),(26,vF),(33,vF)] [(16,.v (.bool y1)),(23,.v (.bool y3)),(31,.v (.bool y5))],(5,⟨[],[40],[],[(40,vF)],[(36,(bq aU.enc y7)),(39,(bq aU.enc y8))],[],[],[],[]⟩)]) ti (fun z=>(c11_ _ (aI ((kL y7 y8).trans (congrArg (fun b=>some (Value.bool b)) h9):pw Tryz.prog .eql 148 [(.int .i64 y7.hart),(.int .i64 y7.at_),(.int .i64 y7.kind),(.int .i64 y7.pred),(.int .i64 y7.succ),(.int .i64 y7.pair),(.int .u64 y7.addr),(.int .u64 y7.load),(.int .u64 y7.store),(.bool y7.aq),(.bool y7.rl)] [(.int .i64 y8.hart),(.int .i64 y8.at_),(.int .i64 y8.kind),(.int .i64 y8.pred),(.int .i64 y8.succ),(.int .i64 y8.pair),(.int .u64 y8.addr),(.int .u64 y8.load),(.int .u64 y8.store),(.bool y8.aq),(.bool y8.rl)]=some (.bool false)) (aI (rfl:AV.v (.bool false)=AV.v (.bool false)) z))))

def r9:List (Nat×PT):=[]
theorem FH:ax (al 132) r9 (aj Tryz.prog 132)=true:=by kernel_rfl
noncomputable def T4:Code:=sub (aj Tryz.prog 132) [1,1,0,1,0,0]
theorem SJ:ax (al 132) r9 T4=true:=by kernel_rfl
def Sp (l:(List Int)) (sa:Int×Int):St:=ba 17 [(3,(vI sa.1)),(6,.sl (l.map eI)),(7,(vI (l.length:Int))),(8,(vI sa.2))] [] [] 0
def T5 (l:(List Int)) (tt:Unit):St:=ba 17 [] [] [] 0
def T6 (l:(List Int)) (tt:Unit):St:=ba 17 [(2,vF)] [] [] 0
def SK (l:(List Int)) (t0:(Unit⊕Unit)):Ex×St:=match t0 with | .inl tt=>(.ex 0,T5 l tt) | .inr tt=>(.ret,T6 l tt)
theorem T7 (n:Nat) (l:(List Int)):∀ sa r,cT n l sa=some r→aQ Tryz.prog T4 (Sp l sa) (rk (Sp l) (SK l) r):=by
 intro sa r h
 unfold cT at h
 rcases aA h with ⟨ha1,h⟩ | ⟨ha1,h⟩
 ·
  exact kQ h (nA r9 [rV 3 [(9,vF)]]) [wK 2 [] [] 0] SJ (cn rfl i3) (fun z=>(aB ha1 z))
 obtain ⟨xa2,gxa2,h⟩:=ab h
 have c12_:=fun (R:Prop) (z:R)=>(aB ha1 (aM eI gxa2 z))
 rcases ao h with ⟨ha3,h⟩ | ⟨ha3,h⟩
 ·
  exact kQ h (nA r9 [rV 3 [(9,vT)],rR 4 [(10,[(vI xa2)])],rV 5 [(14,vT)]]) [wK 1 [2] [] 0] SJ (cn rfl gF) (fun z=>(c12_ _ (aB ha3 z)))
 exact kQ h (nA r9 [rV 3 [(9,vT)],rR 4 [(10,[(vI xa2)])],rV 5 [(14,vF)]]) [wK 0 [3,6,7,8] [] 0] SJ cR (fun z=>(c12_ _ (aB ha3 z)))

theorem uM (n:Nat) (l:(List Int)) (r:Bool) (h:i7 n l=some r):aw Tryz.prog 132 [.sl (l.map eI)] (ew (.v (.bool r))):=by
 unfold i7 at h
 obtain ⟨t1,gt1,h⟩:=ab h
 rcases t1 with w2 | w2
 ·
  obtain rfl:=aF h
  exact kP ⟨r9,[rV 2 [(7,(vI (l.length:Int)))]],[],[(3,(⟨[3,6,7,8],[],0,[],[],[]⟩,l0,(.ex 0),T5 l w2))],[]⟩ FH (fun z=>(aL eI l (aI (eo (pl:=al 132) (Sp l) (SK l) (T7 n l) n _ (.inl w2) gt1) z)))
 ·
  obtain rfl:=aF h
  exact kP ⟨r9,[rV 2 [(7,(vI (l.length:Int)))]],[],[(3,(⟨[3,6,7,8],[],0,[],[],[]⟩,l0,.ret,T6 l w2))],[]⟩ FH (fun z=>(aL eI l (aI (eo (pl:=al 132) (Sp l) (SK l) (T7 n l) n _ (.inr w2) gt1) z)))

def BB:List (Nat×PT):=[]
theorem BC:ax (al 101) BB (aj Tryz.prog 101)=true:=by kernel_rfl
theorem eX (n:Nat) (l:(List Int)) (at_:Int) (r:Bool) (h:d_ n l at_=some r):aw Tryz.prog 101 [.sl (l.map eI),(vI at_)] (ew (.v (.bool r))):=by
 unfold d_ at h
 obtain ⟨y1,gy1,h⟩:=ab h
 have c13_:=fun (R:Prop) (z:R)=>(aI (uM n l y1 gy1) z)
 rcases aA h with ⟨h2,h⟩ | ⟨h2,h⟩
 ·
  obtain rfl:=aF h
  exact kP (nA BB [aZ 1 [(7,vF)] [(6,.v (.bool y1))]]) BC (fun z=>(c13_ _ (aB h2 z)))
 have c14_:=fun (R:Prop) (z:R)=>c13_ _ (aB h2 (aL eI l z))
 rcases ao h with ⟨h3,h⟩ | ⟨h3,h⟩
 ·
  obtain rfl:=aF h
  exact kP (nA BB [aZ 1 [(7,vT),(9,(vI (l.length:Int))),(11,vT)] [(6,.v (.bool y1))]]) BC (fun z=>(c14_ _ (aB h3 z)))
 obtain ⟨x4,gx4,h⟩:=ab h
 obtain rfl:=aF h
 exact kP (nA BB [(1,⟨[],[],[(16,[(vI x4)])],[(7,vT),(9,(vI (l.length:Int))),(11,vF),(14,(vI (l.length:Int)))],[(6,.v (.bool y1))],[],[],[],[]⟩)]) BC (fun z=>(c14_ _ (aB h3 (aL eI l (aM eI gx4 z)))))

def dn:List (Nat×PT):=[(5,(ei [0,1,2,3,4,5,6,7])),(6,(ei [0,1,2,3,4,5,6,7,8,9,10])),(10,(ei [0,1,2,3,4,5,6,7,8])),(12,(ei [0,1,2,3,4,5,6,7]))]
theorem Im:ax (al 87) dn (aj Tryz.prog 87)=true:=by kernel_rfl
noncomputable def SL:Code:=sub (aj Tryz.prog 87) [1,1,1,1,1]
noncomputable def SN:Code:=sub SL [1]
noncomputable def SO:Code:=sub SN [1]
noncomputable def SP:Code:=sub SO [1]
noncomputable def T8:Code:=sub SP [1]
theorem Ay:ax (al 87) dn T8=true:=by kernel_rfl
def U2 (e:Event) (y1:Int) (sf:Int×(List Int)×(List Int)×(List Int)×Int×Int×Int×Bool×Bool×Int×Int):St:=ba 134 [(1,.ptr (.L 1) 0 0),(3,(vU y1)),(4,.ptr (.L 4) 0 0),(5,.ptr (.L 5) 0 0)] [(5,[(vI e.Hart),(vI e.At),(vI e.Kind),(vU sf.2.2.2.2.1),(vU sf.2.2.2.2.2.1),(vU sf.2.2.2.2.2.2.1),.v (.bool sf.2.2.2.2.2.2.2.1),.v (.bool sf.2.2.2.2.2.2.2.2.1),(vI sf.2.2.2.2.2.2.2.2.2.1),(vI sf.2.2.2.2.2.2.2.2.2.2),(vI sf.1),.sl (sf.2.1.map eI),.sl (sf.2.2.1.map eI),.sl (sf.2.2.2.1.map eI)]),(4,(dg.enc e.dg)),(1,(Event.enc e))] [] 0
def SQ (e:Event) (y1:Int) (tt:Int):St:=ba 134 [(2,(vI tt))] [] [] 0
def U3 (e:Event) (y1:Int) (tt:Int):Ex×St:=(.ret,SQ e y1 tt)
theorem T9 (n:Nat) (e:Event) (y1:Int):∀ sf t,dr n e y1 sf=some t→aQ Tryz.prog T8 (U2 e y1 sf) (pk (U3 e y1) t):=by
 intro sf t h
 unfold dr at h
 rcases ao h with ⟨hf1,h⟩ | ⟨hf1,h⟩
 ·
  exact kQ h (nA dn [rV 15 [(67,vT)]]) [wK 1 [2] [5,4,1] 0] Ay (li rfl) (fun z=>(aB hf1 z))
 let e15_:LR:=[rV 15 [(67,vF)]]
 rcases ao h with ⟨hf2,h⟩ | ⟨hf2,h⟩
 ·
  exact kQ h (nA dn (e15_++[rV 16 [(67,vT)]])) [wK 1 [2] [5,4,1] 0] Ay (li rfl) (fun z=>(aB hf1 (aB hf2 z)))
 have c16_:=fun (R:Prop) (z:R)=>(aB hf1 (aB hf2 z))
 let e17_:LR:=e15_++[rV 16 [(67,vF)]]
 rcases ao h with ⟨hf3,h⟩ | ⟨hf3,h⟩
 ·
  exact kQ h (nA dn (e17_++[rV 17 [(67,vT)]])) [wK 1 [2] [5,4,1] 0] Ay (li rfl) (fun z=>(c16_ _ (aB hf3 z)))
 let e18_:LR:=e17_++[rV 17 [(67,vF)]]
 rcases ao h with ⟨hf4,h⟩ | ⟨hf4,h⟩
 ·
  exact kQ h (nA dn (e18_++[rV 18 [(67,vT)]])) [wK 1 [2] [5,4,1] 0] Ay (li rfl) (fun z=>(c16_ _ (aB hf3 (aB hf4 z))))
 obtain ⟨yf5,gyf5,h⟩:=ab h
 have c19_:=fun (R:Prop) (z:R)=>c16_ _ (aB hf3 (aB hf4 (aI (yo n (Event.mk e.Hart e.At e.Kind sf.2.2.2.2.1 sf.2.2.2.2.2.1 sf.2.2.2.2.2.2.1 sf.2.2.2.2.2.2.2.1 sf.2.2.2.2.2.2.2.2.1 sf.2.2.2.2.2.2.2.2.2.1 sf.2.2.2.2.2.2.2.2.2.2 sf.1 (dg.mk sf.2.1 sf.2.2.1 sf.2.2.2.1)) e yf5 gyf5) z)))
 let e20_:LR:=e18_++[rV 18 [(67,vF)]]
 rcases ao h with ⟨hf6,h⟩ | ⟨hf6,h⟩
 ·
  exact kQ h (nA dn (e20_++[aZ 19 [(67,vT)] [(81,.v (.bool yf5))]])) [wK 1 [2] [5,4,1] 0] Ay (li rfl) (fun z=>(c19_ _ (aB hf6 z)))
 let e21_:LR:=e20_++[aZ 19 [(67,vF)] [(81,.v (.bool yf5))]]
 rcases ao h with ⟨hf7,h⟩ | ⟨hf7,h⟩
 ·
  exact kQ h (nA dn (e21_++[rV 21 [(83,vT)]])) [wK 1 [2] [5,4,1] 0] Ay (li rfl) (fun z=>(c19_ _ (aB hf6 (aB hf7 z))))
 have c22_:=fun (R:Prop) (z:R)=>c19_ _ (aB hf6 (aB hf7 z))
 let e23_:LR:=e21_++[rV 21 [(83,vF)]]
 rcases ao h with ⟨hf8,h⟩ | ⟨hf8,h⟩
 ·
  exact kQ h (nA dn (e23_++[rV 22 [(83,vT)]])) [wK 1 [2] [5,4,1] 0] Ay (li rfl) (fun z=>(c22_ _ (aB hf8 z)))
 let e24_:LR:=e23_++[rV 22 [(83,vF)]]
 rcases ao h with ⟨hf9,h⟩ | ⟨hf9,h⟩
 ·
  exact kQ h (nA dn (e24_++[rV 23 [(83,vT)]])) [wK 1 [2] [5,4,1] 0] Ay (li rfl) (fun z=>(c22_ _ (aB hf8 (aB hf9 z))))
 have c25_:=fun (R:Prop) (z:R)=>c22_ _ (aB hf8 (aB hf9 z))
 let e26_:LR:=e24_++[rV 23 [(83,vF)]]
 rcases ao h with ⟨hf10,h⟩ | ⟨hf10,h⟩
 ·
  exact kQ h (nA dn (e26_++[rV 24 [(83,vT)]])) [wK 1 [2] [5,4,1] 0] Ay (li rfl) (fun z=>(c25_ _ (aB hf10 z)))
 let e27_:LR:=e26_++[rV 24 [(83,vF)]]
 rcases ao h with ⟨hf11,h⟩ | ⟨hf11,h⟩
 ·
  exact kQ h (nA dn (e27_++[rV 25 [(83,vT)]])) [wK 1 [2] [5,4,1] 0] Ay (li rfl) (fun z=>(c25_ _ (aB hf10 (aB hf11 z))))
 have c28_:=fun (R:Prop) (z:R)=>c25_ _ (aB hf10 (aB hf11 z))
 let e29_:LR:=e27_++[rV 25 [(83,vF)]]
 rcases aA h with ⟨hf12,h⟩ | ⟨hf12,h⟩
 ·
  obtain ⟨yf13,gyf13,h⟩:=ab h
  have c36_:=fun (R:Prop) (z:R)=>c28_ _ (aB hf12 (aI (eX n e.dg.Addr e.At yf13 gyf13) z))
  let e37_:LR:=e29_++[rV 27 [(104,vF)]]
  rcases ao h with ⟨hf14,h⟩ | ⟨hf14,h⟩
  ·
   exact kQ h (nA dn (e37_++[aZ 28 [(100,vT)] [(120,.v (.bool yf13))]])) [wK 1 [2] [5,4,1] 0] Ay (li rfl) (fun z=>(c36_ _ (aB hf14 z)))
  obtain ⟨yf15,gyf15,h⟩:=ab h
  have c38_:=fun (R:Prop) (z:R)=>c36_ _ (aB hf14 (aI (eX n e.dg.Data e.At yf15 gyf15) z))
  let e39_:LR:=e37_++[aZ 28 [(100,vF)] [(120,.v (.bool yf13))]]
  rcases ao h with ⟨hf16,h⟩ | ⟨hf16,h⟩
  ·
   exact kQ h (nA dn (e39_++[aZ 29 [(100,vT)] [(126,.v (.bool yf15))]])) [wK 1 [2] [5,4,1] 0] Ay (li rfl) (fun z=>(c38_ _ (aB hf16 z)))
  obtain ⟨yf17,gyf17,h⟩:=ab h
  have c40_:=fun (R:Prop) (z:R)=>c38_ _ (aB hf16 (aI (eX n e.dg.Way e.At yf17 gyf17) z))
  rcases ao h with ⟨hf18,h⟩ | ⟨hf18,h⟩
  ·
   exact kQ h (nA dn (e39_++[aZ 29 [(100,vF)] [(126,.v (.bool yf15))],aZ 30 [(100,vT)] [(132,.v (.bool yf17))]])) [wK 1 [2] [5,4,1] 0] Ay (li rfl) (fun z=>(c40_ _ (aB hf18 z)))
  exact kQ h (nA dn (e39_++[aZ 29 [(100,vF)] [(126,.v (.bool yf15))],aZ 30 [(100,vF)] [(132,.v (.bool yf17))]])) [wK 1 [2] [5,4,1] 0] Ay (li rfl) (fun z=>(c40_ _ (aB hf18 z)))
 rcases ao h with ⟨hf13,h⟩ | ⟨hf13,h⟩
 ·
  exact kQ h (nA dn (e29_++[rV 27 [(104,vT),(108,vT)]])) [wK 1 [2] [5,4,1] 0] Ay (li rfl) (fun z=>(c28_ _ (aB hf12 (aB hf13 z))))
 have c30_:=fun (R:Prop) (z:R)=>c28_ _ (aB hf12 (aB hf13 z))
 rcases ao h with ⟨hf14,h⟩ | ⟨hf14,h⟩
 ·
  exact kQ h (nA dn (e29_++[rV 27 [(100,vT),(104,vT),(108,vF)]])) [wK 1 [2] [5,4,1] 0] Ay (li rfl) (fun z=>(c30_ _ (aB hf14 z)))
 obtain ⟨yf15,gyf15,h⟩:=ab h
 have c31_:=fun (R:Prop) (z:R)=>c30_ _ (aB hf14 (aI (eX n e.dg.Addr e.At yf15 gyf15) z))
 let e32_:LR:=e29_++[rV 27 [(100,vF),(104,vT),(108,vF)]]
 rcases ao h with ⟨hf16,h⟩ | ⟨hf16,h⟩
 ·
  exact kQ h (nA dn (e32_++[aZ 28 [(100,vT)] [(120,.v (.bool yf15))]])) [wK 1 [2] [5,4,1] 0] Ay (li rfl) (fun z=>(c31_ _ (aB hf16 z)))
 obtain ⟨yf17,gyf17,h⟩:=ab h
 have c33_:=fun (R:Prop) (z:R)=>c31_ _ (aB hf16 (aI (eX n e.dg.Data e.At yf17 gyf17) z))
 let e34_:LR:=e32_++[aZ 28 [(100,vF)] [(120,.v (.bool yf15))]]
 rcases ao h with ⟨hf18,h⟩ | ⟨hf18,h⟩
 ·
  exact kQ h (nA dn (e34_++[aZ 29 [(100,vT)] [(126,.v (.bool yf17))]])) [wK 1 [2] [5,4,1] 0] Ay (li rfl) (fun z=>(c33_ _ (aB hf18 z)))
 obtain ⟨yf19,gyf19,h⟩:=ab h
 have c35_:=fun (R:Prop) (z:R)=>c33_ _ (aB hf18 (aI (eX n e.dg.Way e.At yf19 gyf19) z))
 rcases ao h with ⟨hf20,h⟩ | ⟨hf20,h⟩
 ·
  exact kQ h (nA dn (e34_++[aZ 29 [(100,vF)] [(126,.v (.bool yf17))],aZ 30 [(100,vT)] [(132,.v (.bool yf19))]])) [wK 1 [2] [5,4,1] 0] Ay (li rfl) (fun z=>(c35_ _ (aB hf20 z)))
 exact kQ h (nA dn (e34_++[aZ 29 [(100,vF)] [(126,.v (.bool yf17))],aZ 30 [(100,vF)] [(132,.v (.bool yf19))]])) [wK 1 [2] [5,4,1] 0] Ay (li rfl) (fun z=>(c35_ _ (aB hf20 z)))

theorem T_:ax (al 87) dn SP=true:=by kernel_rfl
def U4 (e:Event) (y1:Int) (se:(List Int)×(List Int)×(List Int)×Int×Int×Int×Bool×Bool×Int×Int):St:=ba 134 [(1,.ptr (.L 1) 0 0),(3,(vU y1)),(4,.ptr (.L 4) 0 0),(5,.ptr (.L 5) 0 0)] [(5,[(vI e.Hart),(vI e.At),(vI e.Kind),(vU se.2.2.2.1),(vU se.2.2.2.2.1),(vU se.2.2.2.2.2.1),.v (.bool se.2.2.2.2.2.2.1),.v (.bool se.2.2.2.2.2.2.2.1),(vI se.2.2.2.2.2.2.2.2.1),(vI se.2.2.2.2.2.2.2.2.2),(vI 0),.sl (se.1.map eI),.sl (se.2.1.map eI),.sl (se.2.2.1.map eI)]),(4,(dg.enc e.dg)),(1,(Event.enc e))] [] 0
def SR (e:Event) (y1:Int) (tt:Int):St:=ba 134 [(2,(vI tt))] [] [] 0
def U5 (e:Event) (y1:Int) (tt:Int):Ex×St:=(.ret,SR e y1 tt)
theorem Ua (n:Nat) (e:Event) (y1:Int):∀ se t,ez n e y1 se=some t→aQ Tryz.prog SP (U4 e y1 se) (pk (U5 e y1) t):=by
 intro se t h
 unfold ez at h
 rcases ao h with ⟨he1,h⟩ | ⟨he1,h⟩
 ·
  obtain ⟨te2,gte2,h⟩:=ab h
  exact kQ h ⟨dn,[rV 13 [(63,vT)]],[],[],[(15,(⟨[1,3,4,5],[],0,[],[],[]⟩,l0,.ret,SQ e y1 te2))]⟩ [wK 1 [2] [] 0] T_ (li rfl) (fun z=>(aB he1 (aI (T9 n e y1 _ te2 gte2) z)))
 obtain ⟨te2,gte2,h⟩:=ab h
 exact kQ h ⟨dn,[rV 13 [(63,vF)]],[],[],[(15,(⟨[1,3,4,5],[],0,[],[],[]⟩,l0,.ret,SQ e y1 te2))]⟩ [wK 1 [2] [] 0] T_ (li rfl) (fun z=>(aB he1 (aI (T9 n e y1 _ te2 gte2) z)))

theorem Ub:ax (al 87) dn SO=true:=by kernel_rfl
def U6 (e:Event) (y1:Int) (sd:(List Int)×(List Int)×(List Int)×Int×Int×Int×Int×Int):St:=ba 134 [(1,.ptr (.L 1) 0 0),(3,(vU y1)),(4,.ptr (.L 4) 0 0),(5,.ptr (.L 5) 0 0)] [(5,[(vI e.Hart),(vI e.At),(vI e.Kind),(vU sd.2.2.2.1),(vU sd.2.2.2.2.1),(vU sd.2.2.2.2.2.1),vF,vF,(vI sd.2.2.2.2.2.2.1),(vI sd.2.2.2.2.2.2.2),(vI 0),.sl (sd.1.map eI),.sl (sd.2.1.map eI),.sl (sd.2.2.1.map eI)]),(4,(dg.enc e.dg)),(1,(Event.enc e))] [] 0
def SS (e:Event) (y1:Int) (tt:Int):St:=ba 134 [(2,(vI tt))] [] [] 0
def U7 (e:Event) (y1:Int) (tt:Int):Ex×St:=(.ret,SS e y1 tt)
theorem Uc (n:Nat) (e:Event) (y1:Int):∀ sd t,eA n e y1 sd=some t→aQ Tryz.prog SO (U6 e y1 sd) (pk (U7 e y1) t):=by
 intro sd t h
 unfold eA at h
 rcases ao h with ⟨hd1,h⟩ | ⟨hd1,h⟩
 ·
  obtain ⟨td2,gtd2,h⟩:=ab h
  exact kQ h ⟨dn,[rV 11 [(54,vT)]],[],[],[(13,(⟨[1,3,4,5],[],0,[],[],[]⟩,l0,.ret,SR e y1 td2))]⟩ [wK 1 [2] [] 0] Ub (li rfl) (fun z=>(aB hd1 (aI (Ua n e y1 _ td2 gtd2) z)))
 obtain ⟨td2,gtd2,h⟩:=ab h
 exact kQ h ⟨dn,[rV 11 [(54,vF)]],[],[],[(13,(⟨[1,3,4,5],[],0,[],[],[]⟩,l0,.ret,SR e y1 td2))]⟩ [wK 1 [2] [] 0] Ub (li rfl) (fun z=>(aB hd1 (aI (Ua n e y1 _ td2 gtd2) z)))

theorem Ud:ax (al 87) dn SN=true:=by kernel_rfl
def U8 (e:Event) (y1:Int) (sb:(List Int)×(List Int)×Int×Int×Int×Int):St:=ba 134 [(1,.ptr (.L 1) 0 0),(3,(vU y1)),(4,.ptr (.L 4) 0 0),(5,.ptr (.L 5) 0 0)] [(5,[(vI e.Hart),(vI e.At),(vI e.Kind),(vU sb.2.2.1),(vU sb.2.2.2.1),(vU 0),vF,vF,(vI sb.2.2.2.2.1),(vI sb.2.2.2.2.2),(vI 0),.sl (sb.1.map eI),.nilsl,.sl (sb.2.1.map eI)]),(4,(dg.enc e.dg)),(1,(Event.enc e))] [] 0
def SU (e:Event) (y1:Int) (tt:Int):St:=ba 134 [(2,(vI tt))] [] [] 0
def U9 (e:Event) (y1:Int) (tt:Int):Ex×St:=(.ret,SU e y1 tt)
theorem Ue (n:Nat) (e:Event) (y1:Int):∀ sb t,eB n e y1 sb=some t→aQ Tryz.prog SN (U8 e y1 sb) (pk (U9 e y1) t):=by
 intro sb t h
 unfold eB at h
 rcases ao h with ⟨hb1,h⟩ | ⟨hb1,h⟩
 ·
  obtain ⟨tb2,gtb2,h⟩:=ab h
  exact kQ h ⟨dn,[rV 9 [(44,vT)]],[],[],[(11,(⟨[1,3,4,5],[],0,[],[],[]⟩,l0,.ret,SS e y1 tb2))]⟩ [wK 1 [2] [] 0] Ud (li rfl) (fun z=>(aB hb1 (aI (Uc n e y1 _ tb2 gtb2) z)))
 obtain ⟨tb2,gtb2,h⟩:=ab h
 exact kQ h ⟨dn,[rV 9 [(44,vF)]],[],[],[(11,(⟨[1,3,4,5],[],0,[],[],[]⟩,⟨[],[(5,[(vI e.Hart),(vI e.At),(vI e.Kind),(vU sb.2.2.1),(vU sb.2.2.2.1),(vU 0),vF,vF,(vI sb.2.2.2.2.1),(vI sb.2.2.2.2.2),(vI 0),.sl (sb.1.map eI),.sl (([]:List Int).map eI),.sl (sb.2.1.map eI)])],[]⟩,.ret,SS e y1 tb2))]⟩ [wK 1 [2] [] 0] Ud (li rfl) (fun z=>(aB hb1 (aI ((lc (lc (lc (lc (lc (lc (lc (lc (lc (lc (lc (lc (dE.cons ce.nil (lc dE.nil)))))))))))))):dE [(vI e.Hart),(vI e.At),(vI e.Kind),(vU sb.2.2.1),(vU sb.2.2.2.1),(vU 0),vF,vF,(vI sb.2.2.2.2.1),(vI sb.2.2.2.2.2),(vI 0),.sl (sb.1.map eI),.nilsl,.sl (sb.2.1.map eI)] [(vI e.Hart),(vI e.At),(vI e.Kind),(vU sb.2.2.1),(vU sb.2.2.2.1),(vU 0),vF,vF,(vI sb.2.2.2.2.1),(vI sb.2.2.2.2.2),(vI 0),.sl (sb.1.map eI),.sl (([]:List Int).map eI),.sl (sb.2.1.map eI)]) (aI (Uc n e y1 _ tb2 gtb2) z))))

theorem Uf:ax (al 87) dn SL=true:=by kernel_rfl
def U_ (e:Event) (y1:Int) (sa:(List Int)×(List Int)×Int×Int×Int):St:=ba 134 [(1,.ptr (.L 1) 0 0),(3,(vU y1)),(4,.ptr (.L 4) 0 0),(5,.ptr (.L 5) 0 0)] [(5,[(vI e.Hart),(vI e.At),(vI e.Kind),(vU sa.2.2.1),(vU 0),(vU 0),vF,vF,(vI sa.2.2.2.1),(vI sa.2.2.2.2),(vI 0),.sl (sa.1.map eI),.nilsl,.sl (sa.2.1.map eI)]),(4,(dg.enc e.dg)),(1,(Event.enc e))] [] 0
def SV (e:Event) (y1:Int) (tt:Int):St:=ba 134 [(2,(vI tt))] [] [] 0
def Va (e:Event) (y1:Int) (tt:Int):Ex×St:=(.ret,SV e y1 tt)
theorem Ug (n:Nat) (e:Event) (y1:Int):∀ sa t,eC n e y1 sa=some t→aQ Tryz.prog SL (U_ e y1 sa) (pk (Va e y1) t):=by
 intro sa t h
 unfold eC at h
 rcases ao h with ⟨ha1,h⟩ | ⟨ha1,h⟩
 ·
  obtain ⟨ta2,gta2,h⟩:=ab h
  exact kQ h ⟨dn,[rV 7 [(38,vT)]],[],[],[(9,(⟨[1,3,4,5],[],0,[],[],[]⟩,l0,.ret,SU e y1 ta2))]⟩ [wK 1 [2] [] 0] Uf (li rfl) (fun z=>(aB ha1 (aI (Ue n e y1 _ ta2 gta2) z)))
 obtain ⟨ta2,gta2,h⟩:=ab h
 exact kQ h ⟨dn,[rV 7 [(38,vF)]],[],[],[(9,(⟨[1,3,4,5],[],0,[],[],[]⟩,l0,.ret,SU e y1 ta2))]⟩ [wK 1 [2] [] 0] Uf (li rfl) (fun z=>(aB ha1 (aI (Ue n e y1 _ ta2 gta2) z)))

theorem v0 (n:Nat) (e:Event) (r:Int) (h:iL n e=some r):aw Tryz.prog 87 [(bq Event.enc e)] (ew ((vI r))):=by
 unfold iL at h
 obtain ⟨y1,gy1,h⟩:=ab h
 have c41_:=fun (R:Prop) (z:R)=>(aI (ng n e.Kind y1 gy1) z)
 rcases aA h with ⟨h2,h⟩ | ⟨h2,h⟩
 ·
  obtain ⟨t3,gt3,h⟩:=ab h
  obtain rfl:=aF h
  exact kP ⟨dn,[aZ 1 [] [(8,(vU y1))],rV 4 [(20,vF)]],[],[],[(7,(⟨[1,3,4,5],[],0,[],[],[]⟩,l0,.ret,SV e y1 t3))]⟩ Im (fun z=>(c41_ _ (aB h2 (aI (Ug n e y1 _ t3 gt3) z))))
 obtain ⟨t3,gt3,h⟩:=ab h
 obtain rfl:=aF h
 exact kP ⟨dn,[aZ 1 [] [(8,(vU y1))],rV 4 [(20,vT)]],[],[],[(7,(⟨[1,3,4,5],[],0,[],[],[]⟩,⟨[],[(5,[(vI e.Hart),(vI e.At),(vI e.Kind),(vU 0),(vU 0),(vU 0),vF,vF,(vI e.Pred),(vI e.Succ),(vI 0),.sl (([]:List Int).map eI),.nilsl,.sl (([]:List Int).map eI)])],[]⟩,.ret,SV e y1 t3))]⟩ Im (fun z=>(c41_ _ (aB h2 (aI ((lc (lc (lc (lc (lc (lc (lc (lc (lc (lc (lc (dE.cons ce.nil (lc (dE.cons ce.nil dE.nil)))))))))))))):dE [(vI e.Hart),(vI e.At),(vI e.Kind),(vU 0),(vU 0),(vU 0),vF,vF,(vI e.Pred),(vI e.Succ),(vI 0),.nilsl,.nilsl,.nilsl] [(vI e.Hart),(vI e.At),(vI e.Kind),(vU 0),(vU 0),(vU 0),vF,vF,(vI e.Pred),(vI e.Succ),(vI 0),.sl (([]:List Int).map eI),.nilsl,.sl (([]:List Int).map eI)]) (aI (Ug n e y1 _ t3 gt3) z)))))

def nN:List (Nat×PT):=[(11,(ei [0,1,2,3,4,5,6,7,8,9,10,11,12,13]))]
theorem Io:ax (al 76) nN (aj Tryz.prog 76)=true:=by kernel_rfl
noncomputable def Uh:Code:=sub (aj Tryz.prog 76) [1,1,0,1,0,0]
theorem Kj:ax (al 76) nN Uh=true:=by kernel_rfl
def Sq (hart:Int) (l:(List Event)) (sa:Int×Int):St:=ba 52 [(0,(vI hart)),(1,.sl (l.map Event.enc)),(5,(vI sa.2)),(8,.sl (l.map Event.enc)),(9,(vI (l.length:Int))),(10,(vI sa.1))] [] [] 0
def Ui (hart:Int) (l:(List Event)) (tt:Unit):St:=ba 52 [] [] [] 0
def Uj (hart:Int) (l:(List Event)) (tt:Unit):St:=ba 52 [(4,(vI 4))] [] [] 0
def SX (hart:Int) (l:(List Event)) (t0:(Unit⊕Unit)):Ex×St:=match t0 with | .inl tt=>(.ex 0,Ui hart l tt) | .inr tt=>(.ret,Uj hart l tt)
theorem Uk (n:Nat) (hart:Int) (l:(List Event)):∀ sa r,i8 n hart l sa=some r→aQ Tryz.prog Uh (Sq hart l sa) (rk (Sq hart l) (SX hart l) r):=by
 intro sa r h
 unfold i8 at h
 rcases aA h with ⟨ha1,h⟩ | ⟨ha1,h⟩
 ·
  exact kQ h (nA nN [rV 3 [(11,vF)]]) [wK 2 [] [] 0] Kj (cn rfl i3) (fun z=>(aB ha1 z))
 obtain ⟨xa2,gxa2,h⟩:=ab h
 obtain ⟨ya3,gya3,h⟩:=ab h
 have c42_:=fun (R:Prop) (z:R)=>(aB ha1 (aM Event.enc gxa2 (aI (v0 n xa2 ya3 gya3) z)))
 let e43_:LR:=[rV 3 [(11,vT)],rR 4 [(13,(Event.enc xa2))]]
 rcases ao h with ⟨ha4,h⟩ | ⟨ha4,h⟩
 ·
  exact kQ h (nA nN (e43_++[aZ 5 [(18,vT)] [(16,(vI ya3))]])) [wK 1 [4] [7] 0] Kj (cn rfl gF) (fun z=>(c42_ _ (aB ha4 z)))
 rcases ao h with ⟨ha5,h⟩ | ⟨ha5,h⟩
 ·
  exact kQ h (nA nN (e43_++[aZ 5 [(18,vF),(24,vT)] [(16,(vI ya3))]])) [wK 1 [4] [7] 0] Kj (cn rfl gF) (fun z=>(c42_ _ (aB ha4 (aB ha5 z))))
 have c44_:=fun (R:Prop) (z:R)=>c42_ _ (aB ha4 (aB ha5 z))
 rcases ao h with ⟨ha6,h⟩ | ⟨ha6,h⟩
 ·
  exact kQ h (nA nN (e43_++[aZ 5 [(18,vF),(24,vF),(29,vT)] [(16,(vI ya3))]])) [wK 1 [4] [7] 0] Kj (cn rfl gF) (fun z=>(c44_ _ (aB ha6 z)))
 let e45_:LR:=e43_++[aZ 5 [(18,vF),(24,vF),(29,vF)] [(16,(vI ya3))]]
 rcases ao h with ⟨ha7,h⟩ | ⟨ha7,h⟩
 ·
  exact kQ h (nA nN (e45_++[rV 8 [(32,vT)]])) [wK 0 [0,1,5,8,9,10] [7] 0] Kj cR (fun z=>(c44_ _ (aB ha6 (aB ha7 z))))
 have c46_:=fun (R:Prop) (z:R)=>c44_ _ (aB ha6 (aB ha7 z))
 let e47_:LR:=e45_++[rV 8 [(32,vF)]]
 rcases aA h with ⟨ha8,h⟩ | ⟨ha8,h⟩
 ·
  exact kQ h (nA nN (e47_++[rV 10 [(35,vF)]])) [wK 0 [0,1,5,8,9,10] [7] 0] Kj cR (fun z=>(c46_ _ (aB ha8 z)))
 let e48_:LR:=e47_++[rV 10 [(35,vT)]]
 rcases ao h with ⟨ha9,h⟩ | ⟨ha9,h⟩
 ·
  exact kQ h (nA nN (e48_++[rV 11 [(41,vT)]])) [wK 1 [4] [7] 0] Kj (cn rfl gF) (fun z=>(c46_ _ (aB ha8 (aB ha9 z))))
 obtain ⟨xa10,gxa10,h⟩:=ab h
 have c49_:=fun (R:Prop) (z:R)=>c46_ _ (aB ha8 (aB ha9 (aM Event.enc gxa10 z)))
 rcases ao h with ⟨ha11,h⟩ | ⟨ha11,h⟩
 ·
  exact kQ h (nA nN (e48_++[(11,⟨[],[],[(44,(Event.enc xa10))],[(41,vF),(50,vT)],[],[],[],[],[]⟩)])) [wK 1 [4] [7] 0] Kj (cn rfl gF) (fun z=>(c49_ _ (aB ha11 z)))
 exact kQ h (nA nN (e48_++[(11,⟨[],[],[(44,(Event.enc xa10))],[(41,vF),(50,vF)],[],[],[],[],[]⟩)])) [wK 0 [0,1,5,8,9,10] [7] 0] Kj cR (fun z=>(c49_ _ (aB ha11 z)))

theorem zr (n:Nat) (hart:Int) (l:(List Event)) (r:Int) (h:iM n hart l=some r):aw Tryz.prog 76 [(vI hart),.sl (l.map Event.enc)] (ew ((vI r))):=by
 unfold iM at h
 obtain ⟨t1,gt1,h⟩:=ab h
 rcases t1 with w2 | w2
 ·
  obtain rfl:=aF h
  exact kP ⟨nN,[rV 2 [(9,(vI (l.length:Int)))]],[],[(3,(⟨[0,1,5,8,9,10],[],0,[],[],[]⟩,l0,(.ex 0),Ui hart l w2))],[]⟩ Io (fun z=>(aL Event.enc l (aI (eo (pl:=al 76) (Sq hart l) (SX hart l) (Uk n hart l) n _ (.inl w2) gt1) z)))
 ·
  obtain rfl:=aF h
  exact kP ⟨nN,[rV 2 [(9,(vI (l.length:Int)))]],[],[(3,(⟨[0,1,5,8,9,10],[],0,[],[],[]⟩,l0,.ret,Uj hart l w2))],[]⟩ Io (fun z=>(aL Event.enc l (aI (eo (pl:=al 76) (Sq hart l) (SX hart l) (Uk n hart l) n _ (.inr w2) gt1) z)))

def Ew:List (Nat×PT):=[]
theorem FI:ax (al 102) Ew (aj Tryz.prog 102)=true:=by kernel_rfl
def ep (n_:Int) (y0:((Nat×Nat×Nat×(List Event))⊕Unit)):AV×List Ob:=match y0 with | .inl y=>(.msl 0 y.1 y.2.1 y.2.2.1,[.arr true 14 (y.2.2.2.map Event.enc)]) | .inr y=>(.nilsl,[])
theorem dJ (n:Nat) (n_:Int) (y:((Nat×Nat×Nat×(List Event))⊕Unit)) (h:bJ n n_=some y):SD Tryz.prog 102 [.nilsl,(vI n_)] [] (fun r' o'=>r'=(ep n_ y).1∧o'=(ep n_ y).2):=by
 unfold bJ at h
 rcases ao h with ⟨h1,h⟩ | ⟨h1,h⟩
 ·
  cases h
 rcases aA h with ⟨h2,h⟩ | ⟨h2,h⟩
 ·
  obtain rfl:=aF h
  exact kS (nA Ew [rV 1 [(6,vF)],rV 4 [(16,vF)]]) FI ⟨rfl,rfl⟩ (fun z=>(aB h1 (aB h2 z)))
 obtain ⟨h3,h⟩:=ey h
 obtain ⟨h4,h⟩:=ey h
 obtain rfl:=aF h
 exact kS ⟨Ew,[rV 1 [(6,vF)],rV 4 [(16,vT)],(5,⟨[],[22,25],[],[(25,.msl 0 0 0 (((dM .i64 n_ 0)).toNat))],[],[],[],[],[]⟩)],[(5,⟨[],[],[(0,(List.replicate ((dM .i64 n_ 0)).toNat (Event.mk 0 0 0 0 0 0 false false 0 0 0 (dg.mk ([]:List Int) ([]:List Int) ([]:List Int)))).map Event.enc)]⟩)],[],[]⟩ FI ⟨rfl,rfl⟩ (fun z=>(aB h1 (aB h2 (aI h3 (aI ((by rw [List.length_replicate]; exact h4):(decide ((0:Int)≤0)&&decide (0≤(((List.replicate ((dM .i64 n_ 0)).toNat ([(vI 0),(vI 0),(vI 0),(vU 0),(vU 0),(vU 0),vF,vF,(vI 0),(vI 0),(vI 0),.nilsl,.nilsl,.nilsl]:List AV)).length:Nat):Int)))=true) (aI (Ka _ _ _ _ _ _:AV.msl 0 0 (0 - 0) ((List.replicate ((dM .i64 n_ 0)).toNat ([(vI 0),(vI 0),(vI 0),(vU 0),(vU 0),(vU 0),vF,vF,(vI 0),(vI 0),(vI 0),.nilsl,.nilsl,.nilsl]:List AV)).length - 0)=AV.msl 0 0 0 (((dM .i64 n_ 0)).toNat)) (aI (MA Event.enc _ (lc (lc (lc (lc (lc (lc (lc (lc (lc (lc (lc (dE.cons ce.nil (dE.cons ce.nil (dE.cons ce.nil dE.nil)))))))))))))):fF (List.replicate ((dM .i64 n_ 0)).toNat ([(vI 0),(vI 0),(vI 0),(vU 0),(vU 0),(vU 0),vF,vF,(vI 0),(vI 0),(vI 0),.nilsl,.nilsl,.nilsl]:List AV)) ((List.replicate ((dM .i64 n_ 0)).toNat (Event.mk 0 0 0 0 0 0 false false 0 0 0 (dg.mk ([]:List Int) ([]:List Int) ([]:List Int)))).map Event.enc)) z)))))))

def o6:List (Nat×PT):=[]
theorem Ip:ax (al 88) o6 (aj Tryz.prog 88)=true:=by kernel_rfl
noncomputable def Ul:Code:=sub (aj Tryz.prog 88) [1,1,0,1,0,0]
noncomputable def Um:Code:=sub (aj Tryz.prog 88) [1,1,1,1,0,1,0,0]
noncomputable def Un:Code:=sub (aj Tryz.prog 88) [1,1,1,1,0,1,0,0]
theorem Uo:ax (al 88) o6 Ul=true:=by kernel_rfl
def SY (slices:(List (List Event))) (sa:Int×Int):St:=ba 36 [(0,.sl (slices.map (dA Event.enc))),(3,(vI sa.2)),(9,.sl (slices.map (dA Event.enc))),(10,(vI (slices.length:Int))),(11,(vI sa.1))] [] [] 0
def SZ (slices:(List (List Event))) (tt:Int):St:=ba 36 [(0,.sl (slices.map (dA Event.enc))),(3,(vI tt))] [] [] 0
def Up (slices:(List (List Event))) (tt:Int):Ex×St:=(.ex 0,SZ slices tt)
theorem Vb (n:Nat) (slices:(List (List Event))):∀ sa r,bC n slices sa=some r→aQ Tryz.prog Ul (SY slices sa) (rk (SY slices) (Up slices) r):=by
 intro sa r h
 unfold bC at h
 rcases aA h with ⟨ha1,h⟩ | ⟨ha1,h⟩
 ·
  exact kQ h (nA o6 [rV 3 [(12,vF)]]) [wK 2 [0,3] [] 0] Uo (cn rfl i3) (fun z=>(aB ha1 z))
 obtain ⟨xa2,gxa2,h⟩:=ab h
 have c50_:=fun (R:Prop) (z:R)=>(aB ha1 (aM (dA Event.enc) gxa2 (aL Event.enc xa2 z)))
 rcases ao h with ⟨ha3,h⟩ | ⟨ha3,h⟩
 ·
  cases h
 exact kQ h (nA o6 [rV 3 [(12,vT)],rR 4 [(13,[.sl (xa2.map Event.enc)])],rV 5 [(17,(vI (xa2.length:Int)))],rV 6 [(20,vF)]]) [wK 0 [0,3,9,10,11] [] 0] Uo cR (fun z=>(c50_ _ (aB ha3 z)))

theorem Uq:ax (al 88) o6 Um=true:=by kernel_rfl
def S0 (slices:(List (List Event))) (wa3:Nat×Nat×Nat×(List Event)) (sa:Nat×Nat×(List Event)×Int):St:=ba 36 [(6,.msl 0 wa3.1 sa.1 sa.2.1),(25,.sl (slices.map (dA Event.enc))),(26,(vI (slices.length:Int))),(27,(vI sa.2.2.2))] [] [.arr true 14 (sa.2.2.1.map Event.enc)] 0
def Ur (slices:(List (List Event))) (wa3:Nat×Nat×Nat×(List Event)) (tt:Nat×Nat×(List Event)):St:=ba 36 [(6,.msl 0 wa3.1 tt.1 tt.2.1)] [] [.arr true 14 (tt.2.2.map Event.enc)] 0
def Us (slices:(List (List Event))) (wa3:Nat×Nat×Nat×(List Event)) (tt:(Nat×Nat×(List Event))):Ex×St:=(.ex 2,Ur slices wa3 tt)
theorem Vd (n:Nat) (slices:(List (List Event))) (wa3:Nat×Nat×Nat×(List Event)):∀ sa r,bD n slices wa3 sa=some r→aQ Tryz.prog Um (S0 slices wa3 sa) (rk (S0 slices wa3) (Us slices wa3) r):=by
 intro sa r h
 unfold bD at h
 rcases aA h with ⟨ha1,h⟩ | ⟨ha1,h⟩
 ·
  exact kQ h (nA o6 [rV 11 [(28,vF)]]) [wK 4 [6] [] 1] Uq (cn rfl i3) (fun z=>(aB ha1 z))
 obtain ⟨xa2,gxa2,h⟩:=ab h
 obtain ⟨ha3,h⟩:=ey h
 obtain ⟨ha4,h⟩:=ey h
 exact kQ h (nA o6 [rV 11 [(28,vT)],rR 12 [(29,[.sl (xa2.map Event.enc)])],(13,⟨[],[33],[],[(33,.msl 0 wa3.1 (sa.1 + xa2.length) (sa.2.1 - xa2.length))],[],[],[(33,(0,(sa.2.2.1.take (wa3.1 + sa.1)++(xa2++sa.2.2.1.drop (wa3.1 + sa.1 + xa2.length))).map Event.enc))],[],[]⟩)]) [wK 0 [6,25,26,27] [] 1] Uq cR (fun z=>(aB ha1 (aM (dA Event.enc) gxa2 (aI (Hf:cH 14 (xa2.map Event.enc)=true) (aI (FG:aT (xa2.map Event.enc)=true) (aI (GR ha3:Nat.ble (xa2.map Event.enc).length sa.2.1=true) (aI (GT ha4:Nat.ble (wa3.1 + sa.1 + sa.2.1) (sa.2.2.1.map Event.enc).length=true) (aI (J8 Event.enc xa2 _ _ _ _:AV.msl 0 wa3.1 (sa.1 + (xa2.map Event.enc).length) (sa.2.1 - (xa2.map Event.enc).length)=AV.msl 0 wa3.1 (sa.1 + xa2.length) (sa.2.1 - xa2.length)) (aI (J9 Event.enc sa.2.2.1 xa2 _:(sa.2.2.1.map Event.enc).take (wa3.1 + sa.1)++((xa2.map Event.enc)++(sa.2.2.1.map Event.enc).drop (wa3.1 + sa.1 + (xa2.map Event.enc).length))=(sa.2.2.1.take (wa3.1 + sa.1)++(xa2++sa.2.2.1.drop (wa3.1 + sa.1 + xa2.length))).map Event.enc) z)))))))))

theorem Ut:ax (al 88) o6 Un=true:=by kernel_rfl
def S4 (slices:(List (List Event))) (sa:(List Event)×Int):St:=ba 36 [(6,.mf 0),(25,.sl (slices.map (dA Event.enc))),(26,(vI (slices.length:Int))),(27,(vI sa.2))] [] [.arr true 14 (sa.1.map Event.enc)] 0
def Uu (slices:(List (List Event))) (tt:(List Event)):St:=ba 36 [(6,.mf 0)] [] [.arr true 14 (tt.map Event.enc)] 0
def Uv (slices:(List (List Event))) (tt:((List Event))):Ex×St:=(.ex 2,Uu slices tt)
theorem Ve (n:Nat) (slices:(List (List Event))):∀ sa r,bh n slices sa=some r→aQ Tryz.prog Un (S4 slices sa) (rk (S4 slices) (Uv slices) r):=by
 intro sa r h
 unfold bh at h
 rcases aA h with ⟨ha1,h⟩ | ⟨ha1,h⟩
 ·
  exact kQ h (nA o6 [rV 11 [(28,vF)]]) [wK 4 [6] [] 1] Ut (cn rfl i3) (fun z=>(aB ha1 z))
 obtain ⟨xa2,gxa2,h⟩:=ab h
 obtain ⟨ha3,h⟩:=ey h
 exact kQ h (nA o6 [rV 11 [(28,vT)],rR 12 [(29,[.sl (xa2.map Event.enc)])],(13,⟨[],[33],[],[],[],[],[(33,(0,(sa.1++xa2).map Event.enc))],[],[]⟩)]) [wK 0 [6,25,26,27] [] 1] Ut cR (fun z=>(aB ha1 (aM (dA Event.enc) gxa2 (aI (Hf:cH 14 (xa2.map Event.enc)=true) (aI (FG:aT (xa2.map Event.enc)=true) (aI (GU ha3:Nat.ble (((sa.1.map Event.enc).length + (xa2.map Event.enc).length) * 152) 140737488355328=true) (aI (lz Event.enc sa.1 xa2) z)))))))

theorem dK (n:Nat) (slices:(List (List Event))) (r:(List Event)) (h:aW n slices=some r):aw Tryz.prog 88 [.sl (slices.map (dA Event.enc))] (ew (.sl (r.map Event.enc))):=by
 unfold aW at h
 obtain ⟨t1,gt1,h⟩:=ab h
 obtain ⟨y2,gy2,h⟩:=ab h
 have c51_:=fun (R:Prop) (z:R)=>(aL (dA Event.enc) slices (aI (eo (pl:=al 88) (SY slices) (Up slices) (Vb n slices) n _ t1 gt1) z))
 rcases y2 with wa3 | wb3
 ·
  obtain ⟨t4,gt4,h⟩:=ab h
  obtain rfl:=aF h
  exact kP ⟨o6,[rV 2 [(10,(vI (slices.length:Int)))],(9,⟨[],[],[],[],[],[(24,(.msl 0 wa3.1 wa3.2.1 wa3.2.2.1,[.arr true 14 (wa3.2.2.2.map Event.enc)]))],[],[],[]⟩),rV 10 [(26,(vI (slices.length:Int)))]],[],[(3,(⟨[0,3,9,10,11],[],0,[],[],[]⟩,l0,(.ex 0),SZ slices t1)),(11,(⟨[6,25,26,27],[],1,[],[],[]⟩,l0,(.ex 2),Ur slices wa3 t4))],[]⟩ Ip (fun z=>(c51_ _ (aI (dJ n t1 (.inl wa3) gy2) (aL (dA Event.enc) slices (aI (eo (pl:=al 88) (S0 slices wa3) (Us slices wa3) (Vd n slices wa3) n _ t4 gt4) ((Mz Event.enc t4.2.2 _ _):ce (.sl (((t4.2.2.map Event.enc).drop wa3.1).take t4.1)) (.sl (((t4.2.2.drop wa3.1).take t4.1).map Event.enc))))))))
 ·
  obtain ⟨t4,gt4,h⟩:=ab h
  obtain rfl:=aF h
  exact kP ⟨o6,[rV 2 [(10,(vI (slices.length:Int)))],(9,⟨[],[],[],[],[],[(24,(.nilsl,[]))],[],[],[]⟩),rV 10 [(26,(vI (slices.length:Int)))]],[],[(3,(⟨[0,3,9,10,11],[],0,[],[],[]⟩,l0,(.ex 0),SZ slices t1)),(11,(⟨[6,25,26,27],[],0,[(6,14)],[],[]⟩,l0,(.ex 2),Uu slices t4))],[]⟩ Ip (fun z=>(c51_ _ (aI (dJ n t1 (.inr wb3) gy2) (aL (dA Event.enc) slices (aI (eo (pl:=al 88) (S4 slices) (Uv slices) (Ve n slices) n _ t4 gt4) z)))))

def LG:List (Nat×PT):=[]
theorem MI:ax (al 77) LG (aj Tryz.prog 77)=true:=by kernel_rfl
def re (oA:(List Cell)) (oB:(List (List Event))) (oC:(List Int)) (oD:(List Int)) (y:(List Event)):AV×List Ob:=(.sl (y.map Event.enc),[.arr true 4 [[.sl (oA.map Cell.enc),.sl (oB.map (dA Event.enc)),.sl (oC.map eI),.sl (oD.map eI)]]])
theorem o7 (n:Nat) (oA:(List Cell)) (oB:(List (List Event))) (oC:(List Int)) (oD:(List Int)) (y:(List Event)) (h:iN n oA oB oC oD=some y):SD Tryz.prog 77 [.ptr (.O 0) 0 0] [.arr true 4 [[.sl (oA.map Cell.enc),.sl (oB.map (dA Event.enc)),.sl (oC.map eI),.sl (oD.map eI)]]] (fun r' o'=>r'=(re oA oB oC oD y).1∧o'=(re oA oB oC oD y).2):=by
 unfold iN at h
 obtain ⟨y1,gy1,h⟩:=ab h
 obtain rfl:=aF h
 exact kS (nA LG [aZ 1 [] [(7,.sl (y1.map Event.enc))]]) MI ⟨rfl,rfl⟩ (fun z=>(aI (dK n oB y1 gy1) z))

def LH:List (Nat×PT):=[]
theorem MJ:ax (al 46) LH (aj Tryz.prog 46)=true:=by kernel_rfl
theorem b9 (n:Nat) (e:Event) (r:Bool) (h:bN n e=some r):aw Tryz.prog 46 [(bq Event.enc e)] (ew (.v (.bool r))):=by
 unfold bN at h
 obtain ⟨y1,gy1,h⟩:=ab h
 obtain rfl:=aF h
 exact kP (nA LH [aZ 1 [] [(5,(vU y1))]]) MJ (fun z=>(aI (ng n e.Kind y1 gy1) z))

def Iq:List (Nat×PT):=[]
theorem Kk:ax (al 133) Iq (aj Tryz.prog 133)=true:=by kernel_rfl
theorem kM (n:Nat) (x:Int) (r:Bool) (h:fG n x=some r):aw Tryz.prog 133 [(vU x)] (ew (.v (.bool r))):=by
 unfold fG at h
 obtain rfl:=aF h
 exact kP (nA Iq []) Kk (fun z=>z)

def r_:List (Nat×PT):=[]
theorem qK:ax (al 105) r_ (aj Tryz.prog 105)=true:=by kernel_rfl
theorem oL (n:Nat) (x:Int) (y:Int) (r:Int) (h:eD n x y=some r):aw Tryz.prog 105 [(vU x),(vU y)] (ew ((vI r))):=by
 unfold eD at h
 obtain ⟨y1,gy1,h⟩:=ab h
 obtain ⟨y2,gy2,h⟩:=ab h
 have c52_:=fun (R:Prop) (z:R)=>(aI (kM n x y1 gy1) (aI (kM n y y2 gy2) z))
 let e53_:LR:=[aZ 1 [] [(8,.v (.bool y1))],aZ 2 [] [(10,.v (.bool y2))]]
 rcases ao h with ⟨h3,h⟩ | ⟨h3,h⟩
 ·
  rcases ao h with ⟨h4,h⟩ | ⟨h4,h⟩
  ·
   obtain rfl:=aF h
   exact kP (nA r_ (e53_++[rV 3 [(11,vT)],rV 4 [(12,vT)]])) qK (fun z=>(c52_ _ (aB h3 (aB h4 z))))
  obtain rfl:=aF h
  exact kP (nA r_ (e53_++[rV 3 [(11,vT)],rV 4 [(12,vF)]])) qK (fun z=>(c52_ _ (aB h3 (aB h4 z))))
 let e54_:LR:=e53_++[rV 3 [(11,vF)]]
 rcases ao h with ⟨h4,h⟩ | ⟨h4,h⟩
 ·
  obtain rfl:=aF h
  exact kP (nA r_ (e54_++[rV 7 [(13,vT)]])) qK (fun z=>(c52_ _ (aB h3 (aB h4 z))))
 have c55_:=fun (R:Prop) (z:R)=>c52_ _ (aB h3 (aB h4 z))
 let e56_:LR:=e54_++[rV 7 [(13,vF)]]
 rcases ao h with ⟨h5,h⟩ | ⟨h5,h⟩
 ·
  obtain rfl:=aF h
  exact kP (nA r_ (e56_++[rV 9 [(16,vT)]])) qK (fun z=>(c55_ _ (aB h5 z)))
 rcases ao h with ⟨h6,h⟩ | ⟨h6,h⟩
 ·
  obtain rfl:=aF h
  exact kP (nA r_ (e56_++[rV 9 [(16,vF)],rV 11 [(19,vT)]])) qK (fun z=>(c55_ _ (aB h5 (aB h6 z))))
 obtain rfl:=aF h
 exact kP (nA r_ (e56_++[rV 9 [(16,vF)],rV 11 [(19,vF)]])) qK (fun z=>(c55_ _ (aB h5 (aB h6 z))))

def Ir:List (Nat×PT):=[]
theorem Kl:ax (al 104) Ir (aj Tryz.prog 104)=true:=by kernel_rfl
theorem nO (n:Nat) (x:Cell) (a:Int) (r:Int) (h:gR n x a=some r):aw Tryz.prog 104 [(bq Cell.enc x),(vU a)] (ew ((vI r))):=by
 unfold gR at h
 obtain ⟨y1,gy1,h⟩:=ab h
 obtain rfl:=aF h
 exact kP (nA Ir [aZ 1 [] [(8,(vI y1))]]) Kl (fun z=>(aI (oL n x.Addr a y1 gy1) z))

def sg:List (Nat×PT):=[]
theorem FJ:ax (al 103) sg (aj Tryz.prog 103)=true:=by kernel_rfl
noncomputable def Uw:Code:=sub (aj Tryz.prog 103) [1,1,1,0,0,0]
theorem S5:ax (al 103) sg Uw=true:=by kernel_rfl
def S6 (x:(List Cell)) (target:Int) (sa:Int×Int):St:=ba 49 [(0,.sl (x.map Cell.enc)),(1,(vU target)),(2,.fn 104 [] []),(8,(vI (x.length:Int))),(9,(vI sa.2)),(10,(vI sa.1))] [] [] 0
def S7 (x:(List Cell)) (target:Int) (tt:Int):St:=ba 49 [(0,.sl (x.map Cell.enc)),(1,(vU target)),(2,.fn 104 [] []),(8,(vI (x.length:Int))),(9,(vI tt))] [] [] 0
def Ux (x:(List Cell)) (target:Int) (tt:Int):Ex×St:=(.ex 0,S7 x target tt)
theorem Vf (n:Nat) (x:(List Cell)) (target:Int):∀ sa r,aJ n x target sa=some r→aQ Tryz.prog Uw (S6 x target sa) (rk (S6 x target) (Ux x target) r):=by
 intro sa r h
 unfold aJ at h
 rcases aA h with ⟨ha1,h⟩ | ⟨ha1,h⟩
 ·
  exact kQ h (nA sg [rV 3 [(17,vF)]]) [wK 2 [0,1,2,8,9] [] 0] S5 (cn rfl i3) (fun z=>(aB ha1 z))
 obtain ⟨xa2,gxa2,h⟩:=ab h
 obtain ⟨ya3,gya3,h⟩:=ab h
 have c57_:=fun (R:Prop) (z:R)=>(aB ha1 (aM Cell.enc gxa2 (aI (nO n xa2 target ya3 gya3) z)))
 rcases ao h with ⟨ha4,h⟩ | ⟨ha4,h⟩
 ·
  exact kQ h (nA sg [rV 3 [(17,vT)],(5,⟨[],[],[(27,(Cell.enc xa2))],[(31,vT)],[(30,(vI ya3))],[],[],[],[]⟩)]) [wK 0 [0,1,2,8,9,10] [] 0] S5 cR (fun z=>(c57_ _ (aB ha4 z)))
 exact kQ h (nA sg [rV 3 [(17,vT)],(5,⟨[],[],[(27,(Cell.enc xa2))],[(31,vF)],[(30,(vI ya3))],[],[],[],[]⟩)]) [wK 0 [0,1,2,8,9,10] [] 0] S5 cR (fun z=>(c57_ _ (aB ha4 z)))

theorem dY (n:Nat) (x:(List Cell)) (target:Int) (r:Int×Bool) (h:a8 n x target=some r):aw Tryz.prog 103 [.sl (x.map Cell.enc),(vU target),.fn 104 [] []] (ew (.tup [(vI r.1),.v (.bool r.2)])):=by
 unfold a8 at h
 obtain ⟨t1,gt1,h⟩:=ab h
 have c58_:=fun (R:Prop) (z:R)=>(aL Cell.enc x (aI (eo (pl:=al 103) (S6 x target) (Ux x target) (Vf n x target) n _ t1 gt1) z))
 rcases aA h with ⟨h2,h⟩ | ⟨h2,h⟩
 ·
  obtain rfl:=aF h
  exact kP ⟨sg,[rV 1 [(13,(vI (x.length:Int)))],rV 8 [(39,vF)]],[],[(3,(⟨[0,1,2,8,9,10],[],0,[],[],[]⟩,l0,(.ex 0),S7 x target t1))],[]⟩ FJ (fun z=>(c58_ _ (aB h2 z)))
 obtain ⟨x3,gx3,h⟩:=ab h
 obtain ⟨y4,gy4,h⟩:=ab h
 obtain rfl:=aF h
 exact kP ⟨sg,[rV 1 [(13,(vI (x.length:Int)))],(8,⟨[],[],[(43,(Cell.enc x3))],[(39,vT)],[(46,(vI y4))],[],[],[],[]⟩)],[],[(3,(⟨[0,1,2,8,9,10],[],0,[],[],[]⟩,l0,(.ex 0),S7 x target t1))],[]⟩ FJ (fun z=>(c58_ _ (aB h2 (aM Cell.enc gx3 (aI (nO n x3 target y4 gy4) z)))))

def Is:List (Nat×PT):=[]
theorem It:ax (al 89) Is (aj Tryz.prog 89)=true:=by kernel_rfl
theorem yp (n:Nat) (l:(List Cell)) (addr:Int) (r:Int) (h:jO n l addr=some r):aw Tryz.prog 89 [.sl (l.map Cell.enc),(vU addr)] (ew ((vU r))):=by
 unfold jO at h
 obtain ⟨y1,gy1,h⟩:=ab h
 have c59_:=fun (R:Prop) (z:R)=>(aI (dY n l addr y1 gy1) z)
 rcases ao h with ⟨h2,h⟩ | ⟨h2,h⟩
 ·
  obtain rfl:=aF h
  exact kP (nA Is [aZ 1 [] [(10,.tup [(vI y1.1),.v (.bool y1.2)])],rV 2 [(14,vT)]]) It (fun z=>(c59_ _ (aB h2 z)))
 obtain ⟨x3,gx3,h⟩:=ab h
 obtain rfl:=aF h
 exact kP (nA Is [aZ 1 [] [(10,.tup [(vI y1.1),.v (.bool y1.2)])],rV 2 [(14,vF)],rR 4 [(17,(Cell.enc x3))]]) It (fun z=>(c59_ _ (aB h2 (aM Cell.enc gx3 z))))

def LI:List (Nat×PT):=[]
theorem MK:ax (al 63) LI (aj Tryz.prog 63)=true:=by kernel_rfl
theorem cF (n:Nat) (e:Event) (r:Bool) (h:cr n e=some r):aw Tryz.prog 63 [(bq Event.enc e)] (ew (.v (.bool r))):=by
 unfold cr at h
 obtain ⟨y1,gy1,h⟩:=ab h
 obtain rfl:=aF h
 exact kP (nA LI [aZ 1 [] [(5,(vU y1))]]) MK (fun z=>(aI (ng n e.Kind y1 gy1) z))

def tj:List (Nat×PT):=[(1,(ei [0,1,2,3,4,5,6,7,8,9,10,11,12,13])),(5,(ei [0,1,2,3,4,5,6,7,8,9,10]))]
theorem p_:ax (al 78) tj (aj Tryz.prog 78)=true:=by kernel_rfl
theorem zt (n:Nat) (c:af) (all:(List Event)) (n_:Int) (r:Bool) (h:iO n c all n_=some r):aw Tryz.prog 78 [.fptr (af.enc c) 0,.sl (all.map Event.enc),(vI n_)] (ew (.v (.bool r))):=by
 unfold iO at h
 obtain ⟨x1,gx1,h⟩:=ab h
 obtain ⟨x2,gx2,h⟩:=ab h
 obtain ⟨y3,gy3,h⟩:=ab h
 have c60_:=fun (R:Prop) (z:R)=>(aM Event.enc gx1 (aM eI gx2 (aI (b9 n x1 y3 gy3) z)))
 let e61_:LR:=[rR 1 [(12,(Event.enc x1)),(19,[(vI x2)])]]
 rcases ao h with ⟨h4,h⟩ | ⟨h4,h⟩
 ·
  obtain rfl:=aF h
  exact kP (nA tj (e61_++[aZ 2 [(21,vT)] [(23,.v (.bool y3))]])) p_ (fun z=>(c60_ _ (aB h4 z)))
 let e62_:LR:=e61_++[aZ 2 [(21,vF)] [(23,.v (.bool y3))]]
 rcases ao h with ⟨h5,h⟩ | ⟨h5,h⟩
 ·
  obtain ⟨y6,gy6,h⟩:=ab h
  obtain rfl:=aF h
  exact kP (nA tj (e62_++[rV 4 [(27,vT)],aZ 5 [] [(38,(vU y6))]])) p_ (fun z=>(c60_ _ (aB h4 (aB h5 (aI (yp n c.gc x1.Addr y6 gy6) z)))))
 have c63_:=fun (R:Prop) (z:R)=>c60_ _ (aB h4 (aB h5 z))
 let e64_:LR:=e62_++[rV 4 [(27,vF)]]
 rcases ao h with ⟨h6,h⟩ | ⟨h6,h⟩
 ·
  obtain rfl:=aF h
  exact kP (nA tj (e64_++[rV 6 [(43,vT)]])) p_ (fun z=>(c63_ _ (aB h6 z)))
 have c65_:=fun (R:Prop) (z:R)=>c63_ _ (aB h6 (aL Event.enc all z))
 rcases ao h with ⟨h7,h⟩ | ⟨h7,h⟩
 ·
  obtain rfl:=aF h
  exact kP (nA tj (e64_++[rV 6 [(43,vF),(46,(vI (all.length:Int))),(49,vT)]])) p_ (fun z=>(c65_ _ (aB h7 z)))
 rcases ao h with ⟨h8,h⟩ | ⟨h8,h⟩
 ·
  obtain rfl:=aF h
  exact kP (nA tj (e64_++[rV 6 [(40,vT),(43,vF),(46,(vI (all.length:Int))),(49,vF)]])) p_ (fun z=>(c65_ _ (aB h7 (aB h8 z))))
 obtain ⟨x9,gx9,h⟩:=ab h
 obtain ⟨y10,gy10,h⟩:=ab h
 have c66_:=fun (R:Prop) (z:R)=>c65_ _ (aB h7 (aB h8 (aM Event.enc gx9 (aI (cF n x9 y10 gy10) z))))
 let e67_:LR:=e64_++[rV 6 [(40,vF),(43,vF),(46,(vI (all.length:Int))),(49,vF)],rR 8 [(56,(Event.enc x9))]]
 rcases aA h with ⟨h11,h⟩ | ⟨h11,h⟩
 ·
  obtain rfl:=aF h
  exact kP (nA tj (e67_++[aZ 9 [(60,vF)] [(59,.v (.bool y10))]])) p_ (fun z=>(c66_ _ (aB h11 z)))
 rcases ao h with ⟨h12,h⟩ | ⟨h12,h⟩
 ·
  obtain rfl:=aF h
  exact kP (nA tj (e67_++[aZ 9 [(60,vT),(67,vT)] [(59,.v (.bool y10))]])) p_ (fun z=>(c66_ _ (aB h11 (aB h12 z))))
 obtain rfl:=aF h
 exact kP (nA tj (e67_++[aZ 9 [(60,vT),(67,vF)] [(59,.v (.bool y10))]])) p_ (fun z=>(c66_ _ (aB h11 (aB h12 z))))

def Iu:List (Nat×PT):=[]
theorem Iv:ax (al 90) Iu (aj Tryz.prog 90)=true:=by kernel_rfl
theorem j0 (n:Nat) (e:Event) (r:Bool) (h:fX n e=some r):aw Tryz.prog 90 [(bq Event.enc e)] (ew (.v (.bool r))):=by
 unfold fX at h
 obtain ⟨y1,gy1,h⟩:=ab h
 have c68_:=fun (R:Prop) (z:R)=>(aI (b9 n e y1 gy1) z)
 rcases ao h with ⟨h2,h⟩ | ⟨h2,h⟩
 ·
  obtain rfl:=aF h
  exact kP (nA Iu [aZ 1 [(5,vT)] [(4,.v (.bool y1))]]) Iv (fun z=>(c68_ _ (aB h2 z)))
 obtain ⟨y3,gy3,h⟩:=ab h
 obtain rfl:=aF h
 exact kP (nA Iu [aZ 1 [(5,vF)] [(4,.v (.bool y1)),(7,.v (.bool y3))]]) Iv (fun z=>(c68_ _ (aB h2 (aI (cF n e y3 gy3) z))))

def nP:List (Nat×PT):=[]
theorem Iw:ax (al 79) nP (aj Tryz.prog 79)=true:=by kernel_rfl
noncomputable def Uy:Code:=sub (aj Tryz.prog 79) [1,1,1,0,1,0,0]
noncomputable def Uz:Code:=sub (aj Tryz.prog 79) [1,1,1,1,0,1,0,0]
theorem S8:ax (al 79) nP Uy=true:=by kernel_rfl
def S9 (c:af) (all:(List Event)) (sa:(List Bool)×Int×Int):St:=ba 61 [(0,.fptr (af.enc c) 0),(5,.mf 0),(6,(vI sa.2.2)),(14,.sl (all.map Event.enc)),(15,(vI (all.length:Int))),(16,(vI sa.2.1))] [] [.arr true 1 (sa.1.map eR)] 0
def S_ (c:af) (all:(List Event)) (tt:(List Bool)×Int):St:=ba 61 [(0,.fptr (af.enc c) 0),(5,.mf 0),(6,(vI tt.2))] [] [.arr true 1 (tt.1.map eR)] 0
def UA (c:af) (all:(List Event)) (tt:((List Bool)×Int)):Ex×St:=(.ex 0,S_ c all tt)
theorem Vg (n:Nat) (c:af) (all:(List Event)):∀ sa r,gm n c all sa=some r→aQ Tryz.prog Uy (S9 c all sa) (rk (S9 c all) (UA c all) r):=by
 intro sa r h
 unfold gm at h
 rcases aA h with ⟨ha1,h⟩ | ⟨ha1,h⟩
 ·
  exact kQ h (nA nP [rV 4 [(17,vF)]]) [wK 2 [0,5,6] [] 1] S8 (cn rfl i3) (fun z=>(aB ha1 z))
 obtain ⟨xa2,gxa2,h⟩:=ab h
 obtain ⟨ya3,gya3,h⟩:=ab h
 have c69_:=fun (R:Prop) (z:R)=>(aB ha1 (aM Event.enc gxa2 (aI (j0 n xa2 ya3 gya3) z)))
 rcases aA h with ⟨ha4,h⟩ | ⟨ha4,h⟩
 ·
  exact kQ h (nA nP [rV 4 [(17,vT)],rR 5 [(19,(Event.enc xa2))],aZ 6 [(22,vF)] [(22,.v (.bool ya3))]]) [wK 0 [0,5,6,14,15,16] [8] 1] S8 cR (fun z=>(c69_ _ (aB ha4 z)))
 obtain ⟨xa5,gxa5,h⟩:=ab h
 exact kQ h (nA nP [rV 4 [(17,vT)],rR 5 [(19,(Event.enc xa2))],aZ 6 [(22,vT)] [(22,.v (.bool ya3))],(7,⟨[],[],[(25,[.v (.bool xa5)]),(1000025,[.v (.bool xa5)])],[],[],[],[(1000025,(0,(sa.1.set (sa.2.1).toNat true).map eR))],[],[]⟩)]) [wK 0 [0,5,6,14,15,16] [8] 1] S8 cR (fun z=>(c69_ _ (aB ha4 (aM eR gxa5 (aN eR gxa5 (aI (fq eR sa.1 ((sa.2.1).toNat) true) z))))))

theorem OY:ax (al 79) nP Uz=true:=by kernel_rfl
def Sr (c:af) (sa:(List Bool)×Int×Int):St:=ba 61 [(5,.mf 0),(6,(vI sa.2.2)),(32,.sl (c.bt.map eI)),(33,(vI (c.bt.length:Int))),(34,(vI sa.2.1))] [] [.arr true 1 (sa.1.map eR)] 0
def UB (c:af) (tt:Int):St:=ba 61 [(6,(vI tt))] [] [] 0
def UC (c:af) (tt:Unit):St:=ba 61 [(4,vF)] [] [] 0
def Ta (c:af) (t0:(Int⊕Unit)):Ex×St:=match t0 with | .inl tt=>(.ex 2,UB c tt) | .inr tt=>(.ret,UC c tt)
theorem UD (n:Nat) (c:af):∀ sa r,gn n c sa=some r→aQ Tryz.prog Uz (Sr c sa) (rk (Sr c) (Ta c) r):=by
 intro sa r h
 unfold gn at h
 rcases aA h with ⟨ha1,h⟩ | ⟨ha1,h⟩
 ·
  exact kQ h (nA nP [rV 11 [(35,vF)]]) [wK 4 [6] [] 0] OY (cn rfl i3) (fun z=>(aB ha1 z))
 obtain ⟨xa2,gxa2,h⟩:=ab h
 have c70_:=fun (R:Prop) (z:R)=>(aB ha1 (aM eI gxa2 z))
 let e71_:LR:=[rV 11 [(35,vT)],rR 12 [(36,[(vI xa2)])]]
 rcases ao h with ⟨ha3,h⟩ | ⟨ha3,h⟩
 ·
  exact kQ h (nA nP (e71_++[rV 13 [(40,vT)]])) [wK 1 [4] [] 0] OY (cn rfl gF) (fun z=>(c70_ _ (aB ha3 z)))
 have c72_:=fun (R:Prop) (z:R)=>c70_ _ (aB ha3 (aL eR sa.1 z))
 rcases ao h with ⟨ha4,h⟩ | ⟨ha4,h⟩
 ·
  exact kQ h (nA nP (e71_++[rV 13 [(40,vF),(43,(vI (sa.1.length:Int))),(46,vT)]])) [wK 1 [4] [] 0] OY (cn rfl gF) (fun z=>(c72_ _ (aB ha4 z)))
 obtain ⟨xa5,gxa5,h⟩:=ab h
 have c73_:=fun (R:Prop) (z:R)=>c72_ _ (aB ha4 (aM eR gxa5 (aN eR gxa5 z)))
 rcases ao h with ⟨ha6,h⟩ | ⟨ha6,h⟩
 ·
  exact kQ h (nA nP (e71_++[(13,⟨[],[],[(49,[.v (.bool xa5)]),(50,[.v (.bool xa5)])],[(40,vF),(43,(vI (sa.1.length:Int))),(46,vF),(52,vT)],[],[],[],[],[]⟩)])) [wK 1 [4] [] 0] OY (cn rfl gF) (fun z=>(c73_ _ (aB ha6 z)))
 exact kQ h (nA nP (e71_++[(13,⟨[],[],[(49,[.v (.bool xa5)]),(50,[.v (.bool xa5)])],[(40,vF),(43,(vI (sa.1.length:Int))),(46,vF),(52,vF)],[],[],[],[],[]⟩),(15,⟨[],[],[(55,[.v (.bool xa5)]),(1000055,[.v (.bool xa5)])],[],[],[],[(1000055,(0,(sa.1.set (xa2).toNat false).map eR))],[],[]⟩)])) [wK 0 [5,6,32,33,34] [] 1] OY cR (fun z=>(c73_ _ (aB ha6 (aM eR gxa5 (aN eR gxa5 (aI (fq eR sa.1 ((xa2).toNat) false) z))))))

theorem uN (n:Nat) (c:af) (all:(List Event)) (r:Bool) (h:dU n c all=some r):aw Tryz.prog 79 [.fptr (af.enc c) 0,.sl (all.map Event.enc)] (ew (.v (.bool r))):=by
 unfold dU at h
 obtain ⟨h1,h⟩:=ey h
 obtain ⟨t2,gt2,h⟩:=ab h
 obtain ⟨t3,gt3,h⟩:=ab h
 have d0_:AV.v (.int .i64 (((all.map Event.enc).length:Nat):Int))=AV.v (.int .i64 (all.length:Int)):=tf _ _
 have c74_:=fun (R:Prop) (z:R)=>(aI d0_ (aI h1 (aI (lA eR _ false:List.replicate ((all.length:Int)).toNat [vF]=(List.replicate ((all.length:Int)).toNat false).map eR) (aI d0_ (aI (eo (pl:=al 79) (S9 c all) (UA c all) (Vg n c all) n _ t2 gt2) (aL eI c.bt z))))))
 rcases t3 with w4 | w4
 ·
  obtain rfl:=aF h
  exact kP ⟨nP,[(1,⟨[],[13],[],[(12,(vI (all.length:Int)))],[],[],[(13,(0,(List.replicate ((all.length:Int)).toNat false).map eR))],[],[]⟩),rV 3 [(15,(vI (all.length:Int)))],rV 10 [(33,(vI (c.bt.length:Int)))]],[],[(4,(⟨[0,5,6,14,15,16],[],1,[],[],[]⟩,l0,(.ex 0),S_ c all t2)),(11,(⟨[5,6,32,33,34],[],1,[],[],[]⟩,l0,(.ex 2),UB c w4))],[]⟩ Iw (fun z=>(c74_ _ (aI (eo (pl:=al 79) (Sr c) (Ta c) (UD n c) n _ (.inl w4) gt3) z)))
 ·
  obtain rfl:=aF h
  exact kP ⟨nP,[(1,⟨[],[13],[],[(12,(vI (all.length:Int)))],[],[],[(13,(0,(List.replicate ((all.length:Int)).toNat false).map eR))],[],[]⟩),rV 3 [(15,(vI (all.length:Int)))],rV 10 [(33,(vI (c.bt.length:Int)))]],[],[(4,(⟨[0,5,6,14,15,16],[],1,[],[],[]⟩,l0,(.ex 0),S_ c all t2)),(11,(⟨[5,6,32,33,34],[],1,[],[],[]⟩,l0,.ret,UC c w4))],[]⟩ Iw (fun z=>(c74_ _ (aI (eo (pl:=al 79) (Sr c) (Ta c) (UD n c) n _ (.inr w4) gt3) z)))

def jI:List (Nat×PT):=[]
theorem qa:ax (al 60) jI (aj Tryz.prog 60)=true:=by kernel_rfl
noncomputable def UE:Code:=sub (aj Tryz.prog 60) [1,1,1,0,1,0,0]
noncomputable def UF:Code:=sub (aj Tryz.prog 60) [1,1,1,1,1,1,0,1,0,0]
theorem Ss:ax (al 60) jI UE=true:=by kernel_rfl
def Su (c:af) (sa:Int×Int):St:=ba 64 [(1,.ptr (.O 0) 0 0),(3,(vI sa.2)),(25,.sl (c.am.map (dA Event.enc))),(26,(vI (c.am.length:Int))),(27,(vI sa.1))] [] [.arr true 4 [(af.enc c)]] 0
def OZ (c:af) (tt:Int):St:=ba 64 [(1,.ptr (.O 0) 0 0),(3,(vI tt))] [] [.arr true 4 [(af.enc c)]] 0
def O0 (c:af) (tt:Unit):St:=ba 64 [(2,(vI 2))] [] [] 0
def ML (c:af) (t0:(Int⊕Unit)):Ex×St:=match t0 with | .inl tt=>(.ex 0,OZ c tt) | .inr tt=>(.ret,O0 c tt)
theorem O1 (n:Nat) (c:af):∀ sa r,gw n c sa=some r→aQ Tryz.prog UE (Su c sa) (rk (Su c) (ML c) r):=by
 intro sa r h
 unfold gw at h
 rcases aA h with ⟨ha1,h⟩ | ⟨ha1,h⟩
 ·
  exact kQ h (nA jI [rV 5 [(28,vF)]]) [wK 2 [1,3] [] 1] Ss (cn rfl i3) (fun z=>(aB ha1 z))
 obtain ⟨xa2,gxa2,h⟩:=ab h
 have c75_:=fun (R:Prop) (z:R)=>(aB ha1 (aM (dA Event.enc) gxa2 (aL Event.enc xa2 z)))
 let e76_:LR:=[rV 5 [(28,vT)],rR 6 [(30,[.sl (xa2.map Event.enc)])],rV 7 [(34,(vI (xa2.length:Int)))]]
 rcases ao h with ⟨ha3,h⟩ | ⟨ha3,h⟩
 ·
  exact kQ h (nA jI (e76_++[rV 8 [(38,vT)]])) [wK 1 [2] [] 0] Ss (cn rfl gF) (fun z=>(c75_ _ (aB ha3 z)))
 obtain ⟨ya4,gya4,h⟩:=ab h
 have c77_:=fun (R:Prop) (z:R)=>c75_ _ (aB ha3 (aI (zr n sa.1 xa2 ya4 gya4) z))
 rcases ao h with ⟨ha5,h⟩ | ⟨ha5,h⟩
 ·
  exact kQ h (nA jI (e76_++[aZ 8 [(38,vF),(43,vT)] [(41,(vI ya4))]])) [wK 1 [2] [] 0] Ss (cn rfl gF) (fun z=>(c77_ _ (aB ha5 z)))
 exact kQ h (nA jI (e76_++[aZ 8 [(38,vF),(43,vF)] [(41,(vI ya4))]])) [wK 0 [1,3,25,26,27] [] 1] Ss cR (fun z=>(c77_ _ (aB ha5 z)))

theorem MM:ax (al 60) jI UF=true:=by kernel_rfl
def Km (c:af) (y7:(List Event)) (sa:Int):St:=ba 64 [(1,.ptr (.O 0) 0 0),(6,.sl (y7.map Event.enc)),(52,(vI (y7.length:Int))),(53,(vI sa))] [] [.arr true 4 [(af.enc c)]] 0
def MN (c:af) (y7:(List Event)) (tt:Unit):St:=ba 64 [(1,.ptr (.O 0) 0 0),(6,.sl (y7.map Event.enc))] [] [.arr true 4 [(af.enc c)]] 0
def O2 (c:af) (y7:(List Event)) (tt:Unit):St:=ba 64 [(2,(vI 2))] [] [] 0
def MO (c:af) (y7:(List Event)) (t0:(Unit⊕Unit)):Ex×St:=match t0 with | .inl tt=>(.ex 2,MN c y7 tt) | .inr tt=>(.ret,O2 c y7 tt)
theorem O3 (n:Nat) (c:af) (y7:(List Event)):∀ sa r,ik n c y7 sa=some r→aQ Tryz.prog UF (Km c y7 sa) (rk (Km c y7) (MO c y7) r):=by
 intro sa r h
 unfold ik at h
 rcases aA h with ⟨ha1,h⟩ | ⟨ha1,h⟩
 ·
  exact kQ h (nA jI [rV 15 [(54,vF)]]) [wK 4 [1,6] [] 1] MM (cn rfl i3) (fun z=>(aB ha1 z))
 obtain ⟨ya2,gya2,h⟩:=ab h
 have c78_:=fun (R:Prop) (z:R)=>(aB ha1 (aI (zt n c y7 sa ya2 gya2) z))
 rcases ao h with ⟨ha3,h⟩ | ⟨ha3,h⟩
 ·
  exact kQ h (nA jI [rV 15 [(54,vT)],aZ 17 [(59,vT)] [(58,.v (.bool ya2))]]) [wK 1 [2] [] 0] MM (cn rfl gF) (fun z=>(c78_ _ (aB ha3 z)))
 exact kQ h (nA jI [rV 15 [(54,vT)],aZ 17 [(59,vF)] [(58,.v (.bool ya2))]]) [wK 0 [1,6,52,53] [] 1] MM cR (fun z=>(c78_ _ (aB ha3 z)))

theorem jy (n:Nat) (c:af) (r:Int) (h:ci n c=some r):aw Tryz.prog 60 [(bq af.enc c)] (ew ((vI r))):=by
 unfold ci at h
 obtain ⟨y1,gy1,h⟩:=ab h
 have c79_:=fun (R:Prop) (z:R)=>(aI (yn n c.gc y1 gy1) z)
 rcases ao h with ⟨h2,h⟩ | ⟨h2,h⟩
 ·
  obtain rfl:=aF h
  exact kP (nA jI [aZ 1 [(12,vT)] [(10,.v (.bool y1))]]) qa (fun z=>(c79_ _ (aB h2 z)))
 have c80_:=fun (R:Prop) (z:R)=>c79_ _ (aB h2 (aL (dA Event.enc) c.am z))
 rcases ao h with ⟨h3,h⟩ | ⟨h3,h⟩
 ·
  obtain rfl:=aF h
  exact kP (nA jI [aZ 1 [(12,vF),(15,(vI (c.am.length:Int))),(18,vT)] [(10,.v (.bool y1))]]) qa (fun z=>(c80_ _ (aB h3 z)))
 have c81_:=fun (R:Prop) (z:R)=>c80_ _ (aB h3 (aL (dA Event.enc) c.am z))
 rcases ao h with ⟨h4,h⟩ | ⟨h4,h⟩
 ·
  obtain rfl:=aF h
  exact kP (nA jI [aZ 1 [(12,vF),(15,(vI (c.am.length:Int))),(18,vF),(21,(vI (c.am.length:Int))),(23,vT)] [(10,.v (.bool y1))]]) qa (fun z=>(c81_ _ (aB h4 z)))
 obtain ⟨t5,gt5,h⟩:=ab h
 have c82_:=fun (R:Prop) (z:R)=>c81_ _ (aB h4 (aL (dA Event.enc) c.am z))
 let e83_:LR:=[aZ 1 [(12,vF),(15,(vI (c.am.length:Int))),(18,vF),(21,(vI (c.am.length:Int))),(23,vF)] [(10,.v (.bool y1))]]
 rcases t5 with w6 | w6
 ·
  obtain ⟨y7,gy7,h⟩:=ab h
  have c84_:=fun (R:Prop) (z:R)=>c82_ _ (aI (eo (pl:=al 60) (Su c) (ML c) (O1 n c) n _ (.inl w6) gt5) (aI (o7 n c.gc c.am c.la c.bt y7 gy7) (aL eI c.la z)))
  let e85_:LR:=[rV 4 [(26,(vI (c.am.length:Int)))],(11,⟨[],[],[],[],[],[(45,(.sl (y7.map Event.enc),[.arr true 4 [(af.enc c)]]))],[],[],[]⟩)]
  rcases ao h with ⟨h8,h⟩ | ⟨h8,h⟩
  ·
   obtain rfl:=aF h
   exact kP ⟨jI,(e83_++(e85_++[rV 12 [(48,(vI (c.la.length:Int))),(50,vT)]])),[],[(5,(⟨[1,3,25,26,27],[],1,[],[],[]⟩,l0,(.ex 0),OZ c w6))],[]⟩ qa (fun z=>(c84_ _ (aB h8 z)))
  obtain ⟨t9,gt9,h⟩:=ab h
  have c86_:=fun (R:Prop) (z:R)=>c84_ _ (aB h8 (aL Event.enc y7 z))
  let e87_:LR:=[rV 12 [(48,(vI (c.la.length:Int))),(50,vF)]]
  rcases t9 with w10 | w10
  ·
   obtain ⟨y11,gy11,h⟩:=ab h
   have c88_:=fun (R:Prop) (z:R)=>c86_ _ (aI (eo (pl:=al 60) (Km c y7) (MO c y7) (O3 n c y7) n _ (.inl w10) gt9) (aI (uN n c y7 y11 gy11) z))
   rcases ao h with ⟨h12,h⟩ | ⟨h12,h⟩
   ·
    obtain rfl:=aF h
    exact kP ⟨jI,(e83_++(e85_++(e87_++[rV 14 [(52,(vI (y7.length:Int)))],aZ 20 [(63,vT)] [(62,.v (.bool y11))]]))),[],[(5,(⟨[1,3,25,26,27],[],1,[],[],[]⟩,l0,(.ex 0),OZ c w6)),(15,(⟨[1,6,52,53],[],1,[],[],[]⟩,l0,(.ex 2),MN c y7 w10))],[]⟩ qa (fun z=>(c88_ _ (aB h12 z)))
   obtain rfl:=aF h
   exact kP ⟨jI,(e83_++(e85_++(e87_++[rV 14 [(52,(vI (y7.length:Int)))],aZ 20 [(63,vF)] [(62,.v (.bool y11))]]))),[],[(5,(⟨[1,3,25,26,27],[],1,[],[],[]⟩,l0,(.ex 0),OZ c w6)),(15,(⟨[1,6,52,53],[],1,[],[],[]⟩,l0,(.ex 2),MN c y7 w10))],[]⟩ qa (fun z=>(c88_ _ (aB h12 z)))
  ·
   obtain rfl:=aF h
   exact kP ⟨jI,(e83_++(e85_++(e87_++[rV 14 [(52,(vI (y7.length:Int)))]]))),[],[(5,(⟨[1,3,25,26,27],[],1,[],[],[]⟩,l0,(.ex 0),OZ c w6)),(15,(⟨[1,6,52,53],[],1,[],[],[]⟩,l0,.ret,O2 c y7 w10))],[]⟩ qa (fun z=>(c86_ _ (aI (eo (pl:=al 60) (Km c y7) (MO c y7) (O3 n c y7) n _ (.inr w10) gt9) z)))
 ·
  obtain rfl:=aF h
  exact kP ⟨jI,(e83_++[rV 4 [(26,(vI (c.am.length:Int)))]]),[],[(5,(⟨[1,3,25,26,27],[],1,[],[],[]⟩,l0,.ret,O0 c w6))],[]⟩ qa (fun z=>(c82_ _ (aI (eo (pl:=al 60) (Su c) (ML c) (O1 n c) n _ (.inr w6) gt5) z)))

def LJ:List (Nat×PT):=[]
theorem MP:ax (al 91) LJ (aj Tryz.prog 91)=true:=by kernel_rfl
theorem nQ (l:List Int) (K:AV→Prop):oP pc sc lp cd (nA LJ [(1,⟨[4],[],[],[],[],[],[],[],[]⟩),(3,⟨[],[7],[],[],[],[],[],[],[]⟩)]) 91 [.sl (l.map eI)] K
  = ((l.map eI=[]→K .nilsl)∧(cH 1 (l.map eI)=true)∧(aT (l.map eI)=true)∧(Nat.ble ((l.map eI).length * 8) 140737488355328=true)∧K (.sl (l.map eI))):=by kernel_rfl
theorem fC (n:Nat) (l:List Int) (r:List Int) (h:bW n l=some r):aw Tryz.prog 91 [.sl (l.map eI)] (ew (.sl (r.map eI))):=by
  unfold bW at h
  obtain ⟨h1,h⟩:=ey h
  have e:=Option.some.inj h
  subst e
  exact TZ MP (Eq.mpr (nQ pP sP lP dP l _) ⟨fun e=>J_ _ e,Hf,FG,mS h1,ce.refl _⟩)
def LK:List (Nat×PT):=[(1,(ei [0,1,2,3,4,5,6,7,8,9,10,11,12,13,14]))]
theorem MQ:ax (al 80) LK (aj Tryz.prog 80)=true:=by kernel_rfl
theorem BD (n:Nat) (e:Event) (r:Event) (h:pm n e=some r):aw Tryz.prog 80 [(bq Event.enc e)] (ew ((bq Event.enc r))):=by
 unfold pm at h
 obtain ⟨y1,gy1,h⟩:=ab h
 obtain ⟨y2,gy2,h⟩:=ab h
 obtain ⟨y3,gy3,h⟩:=ab h
 obtain rfl:=aF h
 exact kP (nA LK [aZ 1 [] [(6,.sl (y1.map eI)),(10,.sl (y2.map eI)),(14,.sl (y3.map eI))]]) MQ (fun z=>(aI (fC n e.dg.Addr y1 gy1) (aI (fC n e.dg.Data y2 gy2) (aI (fC n e.dg.Way y3 gy3) z))))

def Az:List (Nat×PT):=[]
theorem Ix:ax (al 61) Az (aj Tryz.prog 61)=true:=by kernel_rfl
noncomputable def O4:Code:=sub (aj Tryz.prog 61) [1,1,1,0,1,0,0]
theorem O5:ax (al 61) Az O4=true:=by kernel_rfl
def MR (y3:(List Event)) (sa:(List Event)×Int):St:=ba 22 [(3,.mf 0),(9,.sl (y3.map Event.enc)),(10,(vI (y3.length:Int))),(11,(vI sa.2))] [] [.arr true 14 (sa.1.map Event.enc)] 0
def O6 (y3:(List Event)) (tt:(List Event)):St:=ba 22 [(3,.mf 0)] [] [.arr true 14 (tt.map Event.enc)] 0
def O7 (y3:(List Event)) (tt:((List Event))):Ex×St:=(.ex 0,O6 y3 tt)
theorem Tb (n:Nat) (y3:(List Event)):∀ sa r,mB n y3 sa=some r→aQ Tryz.prog O4 (MR y3 sa) (rk (MR y3) (O7 y3) r):=by
 intro sa r h
 unfold mB at h
 rcases aA h with ⟨ha1,h⟩ | ⟨ha1,h⟩
 ·
  exact kQ h (nA Az [rV 5 [(12,vF)]]) [wK 2 [3] [] 1] O5 (cn rfl i3) (fun z=>(aB ha1 z))
 obtain ⟨xa2,gxa2,h⟩:=ab h
 obtain ⟨ya3,gya3,h⟩:=ab h
 obtain ⟨ha4,h⟩:=ey h
 exact kQ h (nA Az [rV 5 [(12,vT)],rR 6 [(13,(Event.enc xa2))],(7,⟨[],[19],[],[],[(17,(bq Event.enc ya3))],[],[(19,(0,(sa.1++([ya3]:List Event)).map Event.enc))],[],[]⟩)]) [wK 0 [3,9,10,11] [5] 1] O5 cR (fun z=>(aB ha1 (aM Event.enc gxa2 (aI (BD n xa2 ya3 gya3) (aI (rfl:cH 14 [(Event.enc ya3)]=true) (aI (rfl:aT [(Event.enc ya3)]=true) (aI (iZ ha4:Nat.ble (((sa.1.map Event.enc).length + 1) * 152) 140737488355328=true) (aI (lz Event.enc sa.1 ([ya3]:List Event)) z))))))))

theorem BE (n:Nat) (c:af) (r:(List Event)) (h:np n c=some r):aw Tryz.prog 61 [(bq af.enc c)] (ew (.sl (r.map Event.enc))):=by
 unfold np at h
 obtain ⟨y1,gy1,h⟩:=ab h
 have c89_:=fun (R:Prop) (z:R)=>(aI (jy n c y1 gy1) z)
 rcases ao h with ⟨h2,h⟩ | ⟨h2,h⟩
 ·
  obtain rfl:=aF h
  exact kP (nA Az [aZ 1 [(8,vT)] [(7,(vI y1))]]) Ix (fun z=>(c89_ _ (aB h2 (ce.nil:ce .nilsl (.sl (([]:List Event).map Event.enc))))))
 obtain ⟨y3,gy3,h⟩:=ab h
 obtain ⟨t4,gt4,h⟩:=ab h
 obtain rfl:=aF h
 exact kP ⟨Az,[aZ 1 [(8,vF)] [(7,(vI y1))],(4,⟨[],[],[],[(10,(vI (y3.length:Int)))],[],[(9,(.sl (y3.map Event.enc),[.arr true 4 [(af.enc c)]]))],[],[],[]⟩)],[],[(5,(⟨[3,9,10,11],[],0,[(3,14)],[],[]⟩,l0,(.ex 0),O6 y3 t4))],[]⟩ Ix (fun z=>(c89_ _ (aB h2 (aI (o7 n c.gc c.am c.la c.bt y3 gy3) (aL Event.enc y3 (aI (eo (pl:=al 61) (MR y3) (O7 y3) (Tb n y3) n _ t4 gt4) z))))))

def Iy:List (Nat×PT):=[]
theorem Kn:ax (al 107) Iy (aj Tryz.prog 107)=true:=by kernel_rfl
theorem qN (n:Nat) (x:Int) (y:Int) (r:Int×Int) (h:kV n x y=some r):aw Tryz.prog 107 [(vU x),(vU y)] (ew (.tup [(vU r.1),(vU r.2)])):=by
 unfold kV at h
 obtain rfl:=aF h
 exact kP (nA Iy []) Kn (fun z=>z)

def LL:List (Nat×PT):=[]
theorem MS:ax (al 92) LL (aj Tryz.prog 92)=true:=by kernel_rfl
theorem mT (n:Nat) (x:Int) (y:Int) (r:Int×Int) (h:gx n x y=some r):aw Tryz.prog 92 [(vU x),(vU y)] (ew (.tup [(vU r.1),(vU r.2)])):=by
 unfold gx at h
 obtain ⟨y1,gy1,h⟩:=ab h
 obtain rfl:=aF h
 exact kP (nA LL [aZ 3 [] [(25,.tup [(vU y1.1),(vU y1.2)])]]) MS (fun z=>(aI (qN n x y y1 gy1) z))

def tk:List (Nat×PT):=[(9,(.go 1 (.go 2 (.go 3 (.go 4 (.go 5 (.go 6 (.alt 0 (ei [7,8,9]) (.alt 7 (ei [0,8,9]) (ei []))))))))))]
theorem Iz:ax (al 81) tk (aj Tryz.prog 81)=true:=by kernel_rfl
noncomputable def O8:Code:=sub (aj Tryz.prog 81) [1,1,1,1,1,1,0,0,0]
theorem O9:ax (al 81) tk O8=true:=by kernel_rfl
def MU (sa:(List Int)×Int):St:=ba 48 [(7,.mf 0),(8,(vI sa.2))] [] [.arr true 1 (sa.1.map eI)] 0
def O_ (tt:(List Int)):St:=ba 48 [(7,.mf 0)] [] [.arr true 1 (tt.map eI)] 0
def Pb (tt:((List Int))):Ex×St:=(.ex 0,O_ tt)
theorem Tc (n:Nat):∀ sa r,cN n sa=some r→aQ Tryz.prog O8 (MU sa) (rk (MU) (Pb) r):=by
 intro sa r h
 unfold cN at h
 rcases aA h with ⟨ha1,h⟩ | ⟨ha1,h⟩
 ·
  exact kQ h (nA tk [rV 8 [(36,(vI (sa.1.length:Int))),(37,vF)]]) [wK 2 [7] [] 1] O9 (cn rfl i3) (fun z=>(aL eI sa.1 (aB ha1 z)))
 obtain ⟨ha2,h⟩:=ey h
 obtain ⟨ha3,h⟩:=ey h
 obtain ⟨ha4,h⟩:=ey h
 have d0_:aT (((sa.1.map eI).drop 0).take ((sa.2).toNat))=true:=(by rw [← List.map_drop,← List.map_take]; exact FG)
 have d1_:Nat.ble ((sa.2).toNat + (sa.1.length - (sa.2).toNat)) (sa.1.map eI).length=true:=(by rw [List.length_map]; exact ha4)
 have d2_:AV.v (.int .i64 ((min (((sa.1.map eI).drop 0).take ((sa.2).toNat)).length (sa.1.length - (sa.2).toNat):Nat):Int))=AV.v (.int .i64 ((min ((sa.1.drop 0).take ((sa.2).toNat)).length (sa.1.length - (sa.2).toNat):Nat):Int)):=(by simp [])
 have d3_:(sa.1.map eI).take ((sa.2).toNat)++((((sa.1.map eI).drop 0).take ((sa.2).toNat)).take (sa.1.length - (sa.2).toNat)++(sa.1.map eI).drop ((sa.2).toNat + min (((sa.1.map eI).drop 0).take ((sa.2).toNat)).length (sa.1.length - (sa.2).toNat)))=(sa.1.take ((sa.2).toNat)++(((sa.1.drop 0).take ((sa.2).toNat)).take (sa.1.length - (sa.2).toNat)++sa.1.drop ((sa.2).toNat + min ((sa.1.drop 0).take ((sa.2).toNat)).length (sa.1.length - (sa.2).toNat)))).map eI:=(by simp [List.map_take,List.map_drop])
 exact kQ h (nA tk [rV 8 [(36,(vI (sa.1.length:Int))),(37,vT)],(9,⟨[],[41,44],[],[(41,.msl 0 ((sa.2).toNat) (sa.1.length - (sa.2).toNat) 0),(44,.msl 0 0 ((sa.2).toNat) (sa.1.length - (sa.2).toNat)),(45,.v (.int .i64 ((min ((sa.1.drop 0).take ((sa.2).toNat)).length (sa.1.length - (sa.2).toNat):Nat):Int)))],[],[],[(45,(0,(sa.1.take ((sa.2).toNat)++(((sa.1.drop 0).take ((sa.2).toNat)).take (sa.1.length - (sa.2).toNat)++sa.1.drop ((sa.2).toNat + min ((sa.1.drop 0).take ((sa.2).toNat)).length (sa.1.length - (sa.2).toNat)))).map eI))],[],[]⟩)]) [wK 0 [7,8] [] 1] O9 cR (fun z=>(aL eI sa.1 (aB ha1 (aI (By ha2:(decide ((0:Int)≤sa.2)&&decide (sa.2≤(((sa.1.map eI).length:Nat):Int)))=true) (aI (Dd eI sa.1 _ _ _ _:AV.msl 0 (sa.2).toNat ((sa.1.map eI).length - (sa.2).toNat) 0=AV.msl 0 ((sa.2).toNat) (sa.1.length - (sa.2).toNat) 0) (aI (By ha3:(decide ((0:Int)≤sa.2)&&decide (sa.2≤(((sa.1.map eI).length:Nat):Int)))=true) (aI (FC eI sa.1 _ _ _ _:AV.msl 0 0 ((sa.2).toNat - 0) ((sa.1.map eI).length - (sa.2).toNat)=AV.msl 0 0 ((sa.2).toNat) (sa.1.length - (sa.2).toNat)) (aI d0_ (aI d1_ (aI d2_ (aI d3_ (aI d0_ (aI d1_ (aI d2_ (aI d3_ (aI (rfl:ba 48 [(7,.mf 0),(8,.v (.int .i64 (ah .i64 sa.2 ((min ((sa.1.drop 0).take ((sa.2).toNat)).length (sa.1.length - (sa.2).toNat):Nat):Int)))),(34,(vI sa.2)),(35,.mf 0),(36,(vI (sa.1.length:Int))),(37,vT),(38,(vI sa.2)),(39,.mf 0),(40,(vI sa.2)),(41,.msl 0 ((sa.2).toNat) (sa.1.length - (sa.2).toNat) 0),(42,.mf 0),(43,(vI sa.2)),(44,.msl 0 0 ((sa.2).toNat) (sa.1.length - (sa.2).toNat)),(45,.v (.int .i64 ((min ((sa.1.drop 0).take ((sa.2).toNat)).length (sa.1.length - (sa.2).toNat):Nat):Int))),(46,.v (.int .i64 (ah .i64 sa.2 ((min ((sa.1.drop 0).take ((sa.2).toNat)).length (sa.1.length - (sa.2).toNat):Nat):Int))))] [] [.arr true 1 ((sa.1.take ((sa.2).toNat)++(((sa.1.drop 0).take ((sa.2).toNat)).take (sa.1.length - (sa.2).toNat)++sa.1.drop ((sa.2).toNat + min ((sa.1.drop 0).take ((sa.2).toNat)).length (sa.1.length - (sa.2).toNat)))).map eI)] 0=ba 48 [(7,.mf 0),(8,.v (.int .i64 (ah .i64 sa.2 ((min ((sa.1.drop 0).take ((sa.2).toNat)).length (sa.1.length - (sa.2).toNat):Nat):Int)))),(34,(vI sa.2)),(35,.mf 0),(36,(vI (sa.1.length:Int))),(37,vT),(38,(vI sa.2)),(39,.mf 0),(40,(vI sa.2)),(41,.msl 0 ((sa.2).toNat) (sa.1.length - (sa.2).toNat) 0),(42,.mf 0),(43,(vI sa.2)),(44,.msl 0 0 ((sa.2).toNat) (sa.1.length - (sa.2).toNat)),(45,.v (.int .i64 ((min ((sa.1.drop 0).take ((sa.2).toNat)).length (sa.1.length - (sa.2).toNat):Nat):Int))),(46,.v (.int .i64 (ah .i64 sa.2 ((min ((sa.1.drop 0).take ((sa.2).toNat)).length (sa.1.length - (sa.2).toNat):Nat):Int))))] [] [.arr true 1 ((sa.1.take ((sa.2).toNat)++(((sa.1.drop 0).take ((sa.2).toNat)).take (sa.1.length - (sa.2).toNat)++sa.1.drop ((sa.2).toNat + min ((sa.1.drop 0).take ((sa.2).toNat)).length (sa.1.length - (sa.2).toNat)))).map eI)] 0) z))))))))))))))))

def ig (x:(List Int)) (count:Int) (y:(List Int)):AV×List Ob:=(.mf 0,[.arr true 1 (y.map eI)])
theorem lB (n:Nat) (x:(List Int)) (count:Int) (y:(List Int)) (h:bT n x count=some y):SD Tryz.prog 81 [.sl (x.map eI),(vI count)] [] (fun r' o'=>r'=(ig x count y).1∧o'=(ig x count y).2):=by
 unfold bT at h
 rcases ao h with ⟨h1,h⟩ | ⟨h1,h⟩
 ·
  cases h
 obtain ⟨y2,gy2,h⟩:=ab h
 have c90_:=fun (R:Prop) (z:R)=>(aB h1 (aL eI x (aI (mT n (IntKind.wrap .u64 (x.length:Int)) (IntKind.wrap .u64 count) y2 gy2) z)))
 let e91_:LR:=[rV 1 [(10,vF)],aZ 3 [(14,(vI (x.length:Int)))] [(18,.tup [(vU y2.1),(vU y2.2)])]]
 rcases ao h with ⟨h3,h⟩ | ⟨h3,h⟩
 ·
  cases h
 rcases ao h with ⟨h4,h⟩ | ⟨h4,h⟩
 ·
  cases h
 obtain ⟨h5,h⟩:=ey h
 obtain ⟨t6,gt6,h⟩:=ab h
 obtain rfl:=aF h
 exact kS ⟨tk,(e91_++[rV 4 [(23,vF),(26,vF)],(6,⟨[],[30],[],[],[],[],[(30,(0,(List.replicate ((IntKind.wrap .i64 y2.2)).toNat 0).map eI))],[],[]⟩),(7,⟨[],[],[],[(33,.v (.int .i64 ((min x.length (List.replicate ((IntKind.wrap .i64 y2.2)).toNat 0).length:Nat):Int)))],[],[],[(33,(0,(x.take (List.replicate ((IntKind.wrap .i64 y2.2)).toNat 0).length++(List.replicate ((IntKind.wrap .i64 y2.2)).toNat 0).drop x.length).map eI))],[],[]⟩)]),[],[(8,(⟨[7,8],[],1,[],[],[]⟩,l0,(.ex 0),O_ t6))],[]⟩ Iz ⟨rfl,rfl⟩ (fun z=>(c90_ _ (aB h3 (aB h4 (aI h5 (aI (lA eI _ 0:List.replicate ((IntKind.wrap .i64 y2.2)).toNat [(vI 0)]=(List.replicate ((IntKind.wrap .i64 y2.2)).toNat 0).map eI) (aI (Hf:cH 1 (x.map eI)=true) (aI (FG:aT (x.map eI)=true) (aI ((by simp []):AV.v (.int .i64 ((min (x.map eI).length ((List.replicate ((IntKind.wrap .i64 y2.2)).toNat 0).map eI).length:Nat):Int))=AV.v (.int .i64 ((min x.length (List.replicate ((IntKind.wrap .i64 y2.2)).toNat 0).length:Nat):Int))) (aI ((by simp [List.map_take]):(x.map eI).take ((List.replicate ((IntKind.wrap .i64 y2.2)).toNat 0).map eI).length++((List.replicate ((IntKind.wrap .i64 y2.2)).toNat 0).map eI).drop (x.map eI).length=(x.take (List.replicate ((IntKind.wrap .i64 y2.2)).toNat 0).length++(List.replicate ((IntKind.wrap .i64 y2.2)).toNat 0).drop x.length).map eI) (aI (eo (pl:=al 81) (MU) (Pb) (Tc n) n _ t6 gt6) z)))))))))))

def AA:List (Nat×PT):=[]
theorem IA:ax (al 62) AA (aj Tryz.prog 62)=true:=by kernel_rfl
noncomputable def Pd:Code:=sub (aj Tryz.prog 62) [1,1,1,0,1,0,0]
theorem Pe:ax (al 62) AA Pd=true:=by kernel_rfl
def MW (c:af) (sa:(List Int)×Int):St:=ba 28 [(3,.mf 0),(15,.sl (c.bt.map eI)),(16,(vI (c.bt.length:Int))),(17,(vI sa.2))] [] [.arr true 1 (sa.1.map eI)] 0
def Pf (c:af) (tt:(List Int)):St:=ba 28 [(3,.mf 0)] [] [.arr true 1 (tt.map eI)] 0
def Pg (c:af) (tt:((List Int))):Ex×St:=(.ex 0,Pf c tt)
theorem Td (n:Nat) (c:af):∀ sa r,i9 n c sa=some r→aQ Tryz.prog Pd (MW c sa) (rk (MW c) (Pg c) r):=by
 intro sa r h
 unfold i9 at h
 rcases aA h with ⟨ha1,h⟩ | ⟨ha1,h⟩
 ·
  exact kQ h (nA AA [rV 5 [(18,vF)]]) [wK 2 [3] [] 1] Pe (cn rfl i3) (fun z=>(aB ha1 z))
 obtain ⟨xa2,gxa2,h⟩:=ab h
 obtain ⟨xa3,gxa3,h⟩:=ab h
 exact kQ h (nA AA [rV 5 [(18,vT)],rR 6 [(20,[(vI xa2)])],(7,⟨[],[],[(25,[(vI xa3)]),(1000025,[(vI xa3)])],[],[],[],[(1000025,(0,(sa.1.set (xa2).toNat sa.2).map eI))],[],[]⟩)]) [wK 0 [3,15,16,17] [] 1] Pe cR (fun z=>(aB ha1 (aM eI gxa2 (aM eI gxa3 (aN eI gxa3 (aI (fq eI sa.1 ((xa2).toNat) sa.2) z))))))

theorem v1 (n:Nat) (c:af) (r:(List Int)) (h:kC n c=some r):aw Tryz.prog 62 [(bq af.enc c)] (ew (.sl (r.map eI))):=by
 unfold kC at h
 obtain ⟨y1,gy1,h⟩:=ab h
 have c92_:=fun (R:Prop) (z:R)=>(aI (jy n c y1 gy1) z)
 rcases ao h with ⟨h2,h⟩ | ⟨h2,h⟩
 ·
  obtain rfl:=aF h
  exact kP (nA AA [aZ 1 [(8,vT)] [(7,(vI y1))]]) IA (fun z=>(c92_ _ (aB h2 (ce.nil:ce .nilsl (.sl (([]:List Int).map eI))))))
 obtain ⟨y3,gy3,h⟩:=ab h
 obtain ⟨t4,gt4,h⟩:=ab h
 obtain rfl:=aF h
 exact kP ⟨AA,[aZ 1 [(8,vF)] [(7,(vI y1))],(3,⟨[],[],[],[(12,(vI (c.la.length:Int)))],[],[(13,(.mf 0,[.arr true 1 (y3.map eI)]))],[],[],[]⟩),rV 4 [(16,(vI (c.bt.length:Int)))]],[],[(5,(⟨[3,15,16,17],[1],1,[],[],[]⟩,l0,(.ex 0),Pf c t4))],[]⟩ IA (fun z=>(c92_ _ (aB h2 (aL eI c.la (aI (lB n ([(-1)]:List Int) (c.la.length:Int) y3 gy3) (aL eI c.bt (aI (eo (pl:=al 62) (MW c) (Pg c) (Td n c) n _ t4 gt4) z)))))))

def tl:List (Nat×PT):=[(3,(.go 0 (.go 1 (.go 2 (.go 5 (.go 6 (.alt 3 (.alt 4 (.alt 7 (.alt 8 (ei [9,10,11,12]) (.alt 9 (ei [8,10,11,12]) (ei []))) (.alt 9 (ei [7,8,10,11,12]) (ei []))) (.alt 7 (.alt 4 (.alt 8 (ei [9,10,11,12]) (.alt 9 (ei [8,10,11,12]) (ei []))) (.alt 9 (ei [4,8,10,11,12]) (ei []))) (.alt 9 (ei [4,7,8,10,11,12]) (ei [])))) (.alt 7 (.alt 3 (.alt 4 (.alt 8 (ei [9,10,11,12]) (.alt 9 (ei [8,10,11,12]) (ei []))) (.alt 9 (ei [4,8,10,11,12]) (ei []))) (.alt 9 (ei [3,4,8,10,11,12]) (ei []))) (.alt 9 (ei [3,4,7,8,10,11,12]) (ei [])))))))))),(9,(.go 0 (.go 1 (.go 2 (.go 4 (.go 6 (.go 7 (.go 8 (.go 10 (.go 13 (.go 9 (.go 11 (.go 14 (.alt 3 (.go 12 (.alt 5 (ei [15,16]) (.alt 15 (ei [5,16]) (ei [])))) (.alt 5 (.alt 3 (ei [12,15,16]) (.alt 12 (.alt 3 (ei [15,16]) (.alt 15 (ei [3,16]) (ei []))) (ei []))) (.alt 12 (.alt 3 (.alt 5 (ei [15,16]) (.alt 15 (ei [5,16]) (ei []))) (.alt 5 (.alt 3 (ei [15,16]) (.alt 15 (ei [3,16]) (ei []))) (.alt 15 (ei [3,5,16]) (ei [])))) (ei [])))))))))))))))))]
theorem IB:ax (al 37) tl (aj Tryz.prog 37)=true:=by kernel_rfl
noncomputable def Ph:Code:=sub (aj Tryz.prog 37) [1,1,1,0,1,0,0]
theorem IC:ax (al 37) tl Ph=true:=by kernel_rfl
def MX (oA:(List Cell)) (oB:(List (List Event))) (oC:(List Int)) (oD:(List Int)) (y3:(List Event)) (y4:(List Int)) (sa:(List Int×(List (Option (List Int))))×Int):St:=ba 60 [(3,.ptr (.O 2) 0 0),(27,.sl (oD.map eI)),(28,(vI (oD.length:Int))),(29,(vI sa.2))] [] [.arr true 4 [[.sl (oA.map Cell.enc),.sl (oB.map (dA Event.enc)),.sl (oC.map eI),.sl (oD.map eI)]],.own (some (sa.1.1.map (aS .u64))) 1 (sa.1.2.map (nK eI)) none,.arr false 4 [[.ptr (.O 0) 0 0,.sl (y3.map Event.enc),.sl (y4.map eI),.mp 1]]] 1
def Pi (oA:(List Cell)) (oB:(List (List Event))) (oC:(List Int)) (oD:(List Int)) (y3:(List Event)) (y4:(List Int)) (tt:(List Int×(List (Option (List Int))))):St:=ba 60 [(3,.ptr (.O 2) 0 0)] [] [.arr true 4 [[.sl (oA.map Cell.enc),.sl (oB.map (dA Event.enc)),.sl (oC.map eI),.sl (oD.map eI)]],.own (some (tt.1.map (aS .u64))) 1 (tt.2.map (nK eI)) none,.arr false 4 [[.ptr (.O 0) 0 0,.sl (y3.map Event.enc),.sl (y4.map eI),.mp 1]]] 1
def Pj (oA:(List Cell)) (oB:(List (List Event))) (oC:(List Int)) (oD:(List Int)) (y3:(List Event)) (y4:(List Int)) (tt:((List Int×(List (Option (List Int)))))):Ex×St:=(.ex 0,Pi oA oB oC oD y3 y4 tt)
theorem Te (n:Nat) (oA:(List Cell)) (oB:(List (List Event))) (oC:(List Int)) (oD:(List Int)) (y3:(List Event)) (y4:(List Int)):∀ sa r,kp n oA oB oC oD y3 y4 sa=some r→aQ Tryz.prog Ph (MX oA oB oC oD y3 y4 sa) (rk (MX oA oB oC oD y3 y4) (Pj oA oB oC oD y3 y4) r):=by
 intro sa r h
 unfold kp at h
 rcases aA h with ⟨ha1,h⟩ | ⟨ha1,h⟩
 ·
  exact kQ h (nA tl [rV 5 [(30,vF)]]) [wK 2 [3] [] 3] IC (cn rfl i3) (fun z=>(aB ha1 z))
 obtain ⟨xa2,gxa2,h⟩:=ab h
 obtain ⟨xa3,gxa3,h⟩:=ab h
 obtain ⟨ya4,gya4,h⟩:=ab h
 have c93_:=fun (R:Prop) (z:R)=>(aB ha1 (aM eI gxa2 (aM Event.enc gxa3 (aI (cF n xa3 ya4 gya4) z))))
 let e94_:LR:=[rV 5 [(30,vT)],rR 6 [(31,[(vI xa2)])],rR 7 [(38,(Event.enc xa3))]]
 rcases aA h with ⟨ha5,h⟩ | ⟨ha5,h⟩
 ·
  exact kQ h (nA tl (e94_++[aZ 8 [(41,vF)] [(41,.v (.bool ya4))]])) [wK 0 [3,27,28,29] [6] 3] IC cR (fun z=>(c93_ _ (aB ha5 z)))
 let e95_:LR:=e94_++[aZ 8 [(41,vT)] [(41,.v (.bool ya4))]]
 rcases ko h with ⟨ha6,h⟩ | ⟨za6,ha7,h⟩
 ·
  have d0_:∀ K':Option Nat→Prop,K' none→cU Tryz.prog 40 ((vU xa3.Addr)) (fD (sa.1.1.map (aS .u64))) fun _ r=>K' r:=r8 sa.1.1 xa3.Addr ha6
  have d1_:∀ K':Option Nat→List AV→Prop,K' none ((sa.1.1++[xa3.Addr]).map (aS .u64))→cU Tryz.prog 40 ((vU xa3.Addr)) (fD (sa.1.1.map (aS .u64))) fun kv r=>bA (ru Tryz.prog 40 kv) (match r with | some i=>bA (Instr.sameBits 10000 (((sa.1.1.map (aS .u64))[i]?.bind u9).getD (.bool false)) kv) (K' (some i) ((sa.1.1.map (aS .u64)).set i ((vU xa3.Addr)))) | none=>K' none ((sa.1.1.map (aS .u64))++[(vU xa3.Addr)])):=Ev sa.1.1 xa3.Addr ha6
  have d2_:ba 60 [(3,.ptr (.O 2) 0 0),(5,(vI xa2)),(6,.ptr (.L 6) 0 0),(27,.sl (oD.map eI)),(28,(vI (oD.length:Int))),(29,(vI sa.2)),(30,vT),(31,.fptr [(vI xa2)] 0),(32,(vI xa2)),(33,.ptr (.O 2) 0 0),(34,.ptr (.O 2) 0 0),(35,.ptr (.O 2) 0 1),(36,.sl (y3.map Event.enc)),(37,(vI xa2)),(38,.fptr (Event.enc xa3) 0),(39,(bq Event.enc xa3)),(40,(bq Event.enc xa3)),(41,vT),(42,.ptr (.O 2) 0 0),(43,.ptr (.O 2) 0 0),(44,.ptr (.O 2) 0 3),(45,.mp 1),(46,.ptr (.L 6) 0 3),(47,(vU xa3.Addr)),(48,.ptr (.O 2) 0 0),(49,.ptr (.O 2) 0 0),(50,.ptr (.O 2) 0 3),(51,.mp 1),(52,.ptr (.L 6) 0 3),(53,(vU xa3.Addr)),(54,.nilsl),(55,(vI xa2)),(56,.sl [[(vI xa2)]]),(57,.mf 3)] [(6,(Event.enc xa3))] [.arr true 4 [[.sl (oA.map Cell.enc),.sl (oB.map (dA Event.enc)),.sl (oC.map eI),.sl (oD.map eI)]],.own (some ((sa.1.1++[xa3.Addr]).map (aS .u64))) 1 ((sa.1.2.map (nK eI))++[none]) (some ((sa.1.2.map (nK eI)).length,.mf 3)),.arr false 4 [[.ptr (.O 0) 0 0,.sl (y3.map Event.enc),.sl (y4.map eI),.mp 1]],.arr true 1 (([xa2]:List Int).map eI)] 1=ba 60 [(3,.ptr (.O 2) 0 0),(5,(vI xa2)),(6,.ptr (.L 6) 0 0),(27,.sl (oD.map eI)),(28,(vI (oD.length:Int))),(29,(vI sa.2)),(30,vT),(31,.fptr [(vI xa2)] 0),(32,(vI xa2)),(33,.ptr (.O 2) 0 0),(34,.ptr (.O 2) 0 0),(35,.ptr (.O 2) 0 1),(36,.sl (y3.map Event.enc)),(37,(vI xa2)),(38,.fptr (Event.enc xa3) 0),(39,(bq Event.enc xa3)),(40,(bq Event.enc xa3)),(41,vT),(42,.ptr (.O 2) 0 0),(43,.ptr (.O 2) 0 0),(44,.ptr (.O 2) 0 3),(45,.mp 1),(46,.ptr (.L 6) 0 3),(47,(vU xa3.Addr)),(48,.ptr (.O 2) 0 0),(49,.ptr (.O 2) 0 0),(50,.ptr (.O 2) 0 3),(51,.mp 1),(52,.ptr (.L 6) 0 3),(53,(vU xa3.Addr)),(54,.nilsl),(55,(vI xa2)),(56,.sl [[(vI xa2)]]),(57,.mf 3)] [(6,(Event.enc xa3))] [.arr true 4 [[.sl (oA.map Cell.enc),.sl (oB.map (dA Event.enc)),.sl (oC.map eI),.sl (oD.map eI)]],.own (some ((sa.1.1++[xa3.Addr]).map (aS .u64))) 1 ((sa.1.2.map (nK eI))++[none]) (some ((sa.1.2.map (nK eI)).length,.mf 3)),.arr false 4 [[.ptr (.O 0) 0 0,.sl (y3.map Event.enc),.sl (y4.map eI),.mp 1]],.arr true 1 (([xa2]:List Int).map eI)] 1:=rfl
  exact kQ h (nA tl (e95_++[(9,⟨[],[57],[],[],[],[],[],[],[(54,⟨none,none,[],[]⟩),(1000045,⟨none,none,(sa.1.1++[xa3.Addr]).map (aS .u64),[]⟩),(2000001,⟨none,none,[],(sa.1.2++[some ([xa2]:List Int)]).map (nK eI)⟩)]⟩)])) [wK 0 [3,27,28,29] [6] 3] IC cR (fun z=>(c93_ _ (aB ha5 (aI d0_ (aI (rfl:cH 1 [[(vI xa2)]]=true) (aI (rfl:aT [[(vI xa2)]]=true) (aI (rfl:Nat.ble (1 * 8) 140737488355328=true) (aI d1_ (aI (rfl:cH 1 [[(vI xa2)]]=true) (aI (rfl:aT [[(vI xa2)]]=true) (aI (rfl:Nat.ble (1 * 8) 140737488355328=true) (aI d1_ (aI d2_ (aI d0_ (aI (rfl:cH 1 [[(vI xa2)]]=true) (aI (rfl:aT [[(vI xa2)]]=true) (aI (rfl:Nat.ble (1 * 8) 140737488355328=true) (aI d1_ (aI d0_ (aI (rfl:cH 1 [[(vI xa2)]]=true) (aI (rfl:aT [[(vI xa2)]]=true) (aI (rfl:Nat.ble (1 * 8) 140737488355328=true) (aI d1_ (aI (rfl:cH 1 [[(vI xa2)]]=true) (aI (rfl:aT [[(vI xa2)]]=true) (aI (rfl:Nat.ble (1 * 8) 140737488355328=true) (aI d1_ (aI d2_ (aI d2_ (aI d2_ (aI d0_ (aI (rfl:cH 1 [[(vI xa2)]]=true) (aI (rfl:aT [[(vI xa2)]]=true) (aI (rfl:Nat.ble (1 * 8) 140737488355328=true) (aI d1_ (aI (rfl:cH 1 [[(vI xa2)]]=true) (aI (rfl:aT [[(vI xa2)]]=true) (aI (rfl:Nat.ble (1 * 8) 140737488355328=true) (aI d1_ (aI d2_ (aI (rfl:cH 1 [[(vI xa2)]]=true) (aI (rfl:aT [[(vI xa2)]]=true) (aI (rfl:Nat.ble (1 * 8) 140737488355328=true) (aI d1_ (aI (rfl:cH 1 [[(vI xa2)]]=true) (aI (rfl:aT [[(vI xa2)]]=true) (aI (rfl:Nat.ble (1 * 8) 140737488355328=true) (aI d1_ (aI d2_ (aI d2_ (aI (rfl:cH 1 [[(vI xa2)]]=true) (aI (rfl:aT [[(vI xa2)]]=true) (aI (rfl:Nat.ble (1 * 8) 140737488355328=true) (aI d1_ (aI d2_ (aI d2_ (aI (ME eI sa.1.2:Nat.blt (sa.1.2.map (nK eI)).length ((sa.1.2.map (nK eI))++[none]).length=true) (aI (MD eI sa.1.2 ([xa2]:List Int):((sa.1.2.map (nK eI))++[none]).set (sa.1.2.map (nK eI)).length (some (([xa2]:List Int).map eI))=(sa.1.2++[some ([xa2]:List Int)]).map (nK eI)) z))))))))))))))))))))))))))))))))))))))))))))))))))))))))))
 ·
  obtain ⟨xa8,gxa8,h⟩:=ab h
  rcases ko h with ⟨ha9,h⟩ | ⟨za9,ha10,h⟩
  ·
   have d0_:∀ K':Option Nat→Prop,K' (some za6)→cU Tryz.prog 40 ((vU xa3.Addr)) (fD (sa.1.1.map (aS .u64))) fun _ r=>K' r:=r8 sa.1.1 xa3.Addr ha7
   have d1_:(sa.1.2.map (nK eI))[za6]?=some none:=MC eI gxa8 ha9
   have d2_:∀ K':Option Nat→List AV→Prop,K' (some za6) (sa.1.1.map (aS .u64))→cU Tryz.prog 40 ((vU xa3.Addr)) (fD (sa.1.1.map (aS .u64))) fun kv r=>bA (ru Tryz.prog 40 kv) (match r with | some i=>bA (Instr.sameBits 10000 (((sa.1.1.map (aS .u64))[i]?.bind u9).getD (.bool false)) kv) (K' (some i) ((sa.1.1.map (aS .u64)).set i ((vU xa3.Addr)))) | none=>K' none ((sa.1.1.map (aS .u64))++[(vU xa3.Addr)])):=ym sa.1.1 xa3.Addr ha7
   have d3_:ba 60 [(3,.ptr (.O 2) 0 0),(5,(vI xa2)),(6,.ptr (.L 6) 0 0),(27,.sl (oD.map eI)),(28,(vI (oD.length:Int))),(29,(vI sa.2)),(30,vT),(31,.fptr [(vI xa2)] 0),(32,(vI xa2)),(33,.ptr (.O 2) 0 0),(34,.ptr (.O 2) 0 0),(35,.ptr (.O 2) 0 1),(36,.sl (y3.map Event.enc)),(37,(vI xa2)),(38,.fptr (Event.enc xa3) 0),(39,(bq Event.enc xa3)),(40,(bq Event.enc xa3)),(41,vT),(42,.ptr (.O 2) 0 0),(43,.ptr (.O 2) 0 0),(44,.ptr (.O 2) 0 3),(45,.mp 1),(46,.ptr (.L 6) 0 3),(47,(vU xa3.Addr)),(48,.ptr (.O 2) 0 0),(49,.ptr (.O 2) 0 0),(50,.ptr (.O 2) 0 3),(51,.mp 1),(52,.ptr (.L 6) 0 3),(53,(vU xa3.Addr)),(54,.nilsl),(55,(vI xa2)),(56,.sl [[(vI xa2)]]),(57,.mf 3)] [(6,(Event.enc xa3))] [.arr true 4 [[.sl (oA.map Cell.enc),.sl (oB.map (dA Event.enc)),.sl (oC.map eI),.sl (oD.map eI)]],.own (some (sa.1.1.map (aS .u64))) 1 (sa.1.2.map (nK eI)) (some (za6,.mf 3)),.arr false 4 [[.ptr (.O 0) 0 0,.sl (y3.map Event.enc),.sl (y4.map eI),.mp 1]],.arr true 1 (([xa2]:List Int).map eI)] 1=ba 60 [(3,.ptr (.O 2) 0 0),(5,(vI xa2)),(6,.ptr (.L 6) 0 0),(27,.sl (oD.map eI)),(28,(vI (oD.length:Int))),(29,(vI sa.2)),(30,vT),(31,.fptr [(vI xa2)] 0),(32,(vI xa2)),(33,.ptr (.O 2) 0 0),(34,.ptr (.O 2) 0 0),(35,.ptr (.O 2) 0 1),(36,.sl (y3.map Event.enc)),(37,(vI xa2)),(38,.fptr (Event.enc xa3) 0),(39,(bq Event.enc xa3)),(40,(bq Event.enc xa3)),(41,vT),(42,.ptr (.O 2) 0 0),(43,.ptr (.O 2) 0 0),(44,.ptr (.O 2) 0 3),(45,.mp 1),(46,.ptr (.L 6) 0 3),(47,(vU xa3.Addr)),(48,.ptr (.O 2) 0 0),(49,.ptr (.O 2) 0 0),(50,.ptr (.O 2) 0 3),(51,.mp 1),(52,.ptr (.L 6) 0 3),(53,(vU xa3.Addr)),(54,.nilsl),(55,(vI xa2)),(56,.sl [[(vI xa2)]]),(57,.mf 3)] [(6,(Event.enc xa3))] [.arr true 4 [[.sl (oA.map Cell.enc),.sl (oB.map (dA Event.enc)),.sl (oC.map eI),.sl (oD.map eI)]],.own (some (sa.1.1.map (aS .u64))) 1 (sa.1.2.map (nK eI)) (some (za6,.mf 3)),.arr false 4 [[.ptr (.O 0) 0 0,.sl (y3.map Event.enc),.sl (y4.map eI),.mp 1]],.arr true 1 (([xa2]:List Int).map eI)] 1:=rfl
   exact kQ h (nA tl (e95_++[(9,⟨[],[57],[],[],[],[],[],[],[(54,⟨some za6,none,[],[]⟩),(1000045,⟨some za6,none,sa.1.1.map (aS .u64),[]⟩),(2000001,⟨none,none,[],(sa.1.2.set za6 (some ([xa2]:List Int))).map (nK eI)⟩)]⟩)])) [wK 0 [3,27,28,29] [6] 3] IC cR (fun z=>(c93_ _ (aB ha5 (aI d0_ (aI d1_ (aI (rfl:cH 1 [[(vI xa2)]]=true) (aI (rfl:aT [[(vI xa2)]]=true) (aI (rfl:Nat.ble (1 * 8) 140737488355328=true) (aI d2_ (aI (rfl:cX none za6=true) (aI (rfl:cH 1 [[(vI xa2)]]=true) (aI (rfl:aT [[(vI xa2)]]=true) (aI (rfl:Nat.ble (1 * 8) 140737488355328=true) (aI d2_ (aI (rfl:cX none za6=true) (aI d3_ (aI d0_ (aI d1_ (aI (rfl:cH 1 [[(vI xa2)]]=true) (aI (rfl:aT [[(vI xa2)]]=true) (aI (rfl:Nat.ble (1 * 8) 140737488355328=true) (aI d2_ (aI (rfl:cX none za6=true) (aI d0_ (aI d1_ (aI (rfl:cH 1 [[(vI xa2)]]=true) (aI (rfl:aT [[(vI xa2)]]=true) (aI (rfl:Nat.ble (1 * 8) 140737488355328=true) (aI d2_ (aI (rfl:cX none za6=true) (aI (rfl:cH 1 [[(vI xa2)]]=true) (aI (rfl:aT [[(vI xa2)]]=true) (aI (rfl:Nat.ble (1 * 8) 140737488355328=true) (aI d2_ (aI (rfl:cX none za6=true) (aI d3_ (aI d3_ (aI d3_ (aI d0_ (aI d1_ (aI (rfl:cH 1 [[(vI xa2)]]=true) (aI (rfl:aT [[(vI xa2)]]=true) (aI (rfl:Nat.ble (1 * 8) 140737488355328=true) (aI d2_ (aI (rfl:cX none za6=true) (aI (rfl:cH 1 [[(vI xa2)]]=true) (aI (rfl:aT [[(vI xa2)]]=true) (aI (rfl:Nat.ble (1 * 8) 140737488355328=true) (aI d2_ (aI (rfl:cX none za6=true) (aI d3_ (aI (rfl:cH 1 [[(vI xa2)]]=true) (aI (rfl:aT [[(vI xa2)]]=true) (aI (rfl:Nat.ble (1 * 8) 140737488355328=true) (aI d2_ (aI (rfl:cX none za6=true) (aI (rfl:cH 1 [[(vI xa2)]]=true) (aI (rfl:aT [[(vI xa2)]]=true) (aI (rfl:Nat.ble (1 * 8) 140737488355328=true) (aI d2_ (aI (rfl:cX none za6=true) (aI d3_ (aI d3_ (aI (rfl:cH 1 [[(vI xa2)]]=true) (aI (rfl:aT [[(vI xa2)]]=true) (aI (rfl:Nat.ble (1 * 8) 140737488355328=true) (aI d2_ (aI (rfl:cX none za6=true) (aI d3_ (aI d3_ (aI (LD eI gxa8:Nat.blt za6 (sa.1.2.map (nK eI)).length=true) (aI (Ie eI sa.1.2 _ ([xa2]:List Int):(sa.1.2.map (nK eI)).set za6 (some (([xa2]:List Int).map eI))=(sa.1.2.set za6 (some ([xa2]:List Int))).map (nK eI)) z))))))))))))))))))))))))))))))))))))))))))))))))))))))))))))))))))))))))
  ·
   obtain ⟨ha11,h⟩:=ey h
   have d0_:∀ K':Option Nat→Prop,K' (some za6)→cU Tryz.prog 40 ((vU xa3.Addr)) (fD (sa.1.1.map (aS .u64))) fun _ r=>K' r:=r8 sa.1.1 xa3.Addr ha7
   have d1_:(sa.1.2.map (nK eI))[za6]?=some (some (za9.map eI)):=MB eI gxa8 ha10
   have d2_:Nat.ble (((za9.map eI).length + 1) * 8) 140737488355328=true:=iZ ha11
   have d3_:(za9.map eI)++[[(vI xa2)]]=(za9++([xa2]:List Int)).map eI:=lz eI za9 ([xa2]:List Int)
   have d4_:∀ K':Option Nat→List AV→Prop,K' (some za6) (sa.1.1.map (aS .u64))→cU Tryz.prog 40 ((vU xa3.Addr)) (fD (sa.1.1.map (aS .u64))) fun kv r=>bA (ru Tryz.prog 40 kv) (match r with | some i=>bA (Instr.sameBits 10000 (((sa.1.1.map (aS .u64))[i]?.bind u9).getD (.bool false)) kv) (K' (some i) ((sa.1.1.map (aS .u64)).set i ((vU xa3.Addr)))) | none=>K' none ((sa.1.1.map (aS .u64))++[(vU xa3.Addr)])):=ym sa.1.1 xa3.Addr ha7
   have d5_:ba 60 [(3,.ptr (.O 2) 0 0),(5,(vI xa2)),(6,.ptr (.L 6) 0 0),(27,.sl (oD.map eI)),(28,(vI (oD.length:Int))),(29,(vI sa.2)),(30,vT),(31,.fptr [(vI xa2)] 0),(32,(vI xa2)),(33,.ptr (.O 2) 0 0),(34,.ptr (.O 2) 0 0),(35,.ptr (.O 2) 0 1),(36,.sl (y3.map Event.enc)),(37,(vI xa2)),(38,.fptr (Event.enc xa3) 0),(39,(bq Event.enc xa3)),(40,(bq Event.enc xa3)),(41,vT),(42,.ptr (.O 2) 0 0),(43,.ptr (.O 2) 0 0),(44,.ptr (.O 2) 0 3),(45,.mp 1),(46,.ptr (.L 6) 0 3),(47,(vU xa3.Addr)),(48,.ptr (.O 2) 0 0),(49,.ptr (.O 2) 0 0),(50,.ptr (.O 2) 0 3),(51,.mp 1),(52,.ptr (.L 6) 0 3),(53,(vU xa3.Addr)),(54,.bad),(55,(vI xa2)),(56,.sl [[(vI xa2)]]),(57,.mf 3)] [(6,(Event.enc xa3))] [.arr true 4 [[.sl (oA.map Cell.enc),.sl (oB.map (dA Event.enc)),.sl (oC.map eI),.sl (oD.map eI)]],.own (some (sa.1.1.map (aS .u64))) 1 (sa.1.2.map (nK eI)) (some (za6,.mf 3)),.arr false 4 [[.ptr (.O 0) 0 0,.sl (y3.map Event.enc),.sl (y4.map eI),.mp 1]],.arr true 1 ((za9++([xa2]:List Int)).map eI)] 1=ba 60 [(3,.ptr (.O 2) 0 0),(5,(vI xa2)),(6,.ptr (.L 6) 0 0),(27,.sl (oD.map eI)),(28,(vI (oD.length:Int))),(29,(vI sa.2)),(30,vT),(31,.fptr [(vI xa2)] 0),(32,(vI xa2)),(33,.ptr (.O 2) 0 0),(34,.ptr (.O 2) 0 0),(35,.ptr (.O 2) 0 1),(36,.sl (y3.map Event.enc)),(37,(vI xa2)),(38,.fptr (Event.enc xa3) 0),(39,(bq Event.enc xa3)),(40,(bq Event.enc xa3)),(41,vT),(42,.ptr (.O 2) 0 0),(43,.ptr (.O 2) 0 0),(44,.ptr (.O 2) 0 3),(45,.mp 1),(46,.ptr (.L 6) 0 3),(47,(vU xa3.Addr)),(48,.ptr (.O 2) 0 0),(49,.ptr (.O 2) 0 0),(50,.ptr (.O 2) 0 3),(51,.mp 1),(52,.ptr (.L 6) 0 3),(53,(vU xa3.Addr)),(54,.bad),(55,(vI xa2)),(56,.sl [[(vI xa2)]]),(57,.mf 3)] [(6,(Event.enc xa3))] [.arr true 4 [[.sl (oA.map Cell.enc),.sl (oB.map (dA Event.enc)),.sl (oC.map eI),.sl (oD.map eI)]],.own (some (sa.1.1.map (aS .u64))) 1 (sa.1.2.map (nK eI)) (some (za6,.mf 3)),.arr false 4 [[.ptr (.O 0) 0 0,.sl (y3.map Event.enc),.sl (y4.map eI),.mp 1]],.arr true 1 ((za9++([xa2]:List Int)).map eI)] 1:=rfl
   exact kQ h (nA tl (e95_++[(9,⟨[],[57],[],[],[],[],[(57,(3,(za9++([xa2]:List Int)).map eI))],[],[(54,⟨some za6,(some (za9.map eI)),[],[]⟩),(1000045,⟨some za6,none,sa.1.1.map (aS .u64),[]⟩),(2000001,⟨none,none,[],(sa.1.2.set za6 (some (za9++([xa2]:List Int)))).map (nK eI)⟩)]⟩)])) [wK 0 [3,27,28,29] [6] 3] IC cR (fun z=>(c93_ _ (aB ha5 (aI d0_ (aI d1_ (aI (rfl:cH 1 [[(vI xa2)]]=true) (aI (rfl:aT [[(vI xa2)]]=true) (aI d2_ (aI d3_ (aI d4_ (aI ((zq _):cX (some (za6,.bad)) za6=true) (aI (rfl:cH 1 [[(vI xa2)]]=true) (aI (rfl:aT [[(vI xa2)]]=true) (aI d2_ (aI d3_ (aI d4_ (aI ((zq _):cX (some (za6,.bad)) za6=true) (aI d5_ (aI d0_ (aI d1_ (aI (rfl:cH 1 [[(vI xa2)]]=true) (aI (rfl:aT [[(vI xa2)]]=true) (aI d2_ (aI d3_ (aI d4_ (aI ((zq _):cX (some (za6,.bad)) za6=true) (aI d0_ (aI d1_ (aI (rfl:cH 1 [[(vI xa2)]]=true) (aI (rfl:aT [[(vI xa2)]]=true) (aI d2_ (aI d3_ (aI d4_ (aI ((zq _):cX (some (za6,.bad)) za6=true) (aI (rfl:cH 1 [[(vI xa2)]]=true) (aI (rfl:aT [[(vI xa2)]]=true) (aI d2_ (aI d3_ (aI d4_ (aI ((zq _):cX (some (za6,.bad)) za6=true) (aI d5_ (aI d5_ (aI d5_ (aI d0_ (aI d1_ (aI (rfl:cH 1 [[(vI xa2)]]=true) (aI (rfl:aT [[(vI xa2)]]=true) (aI d2_ (aI d3_ (aI d4_ (aI ((zq _):cX (some (za6,.bad)) za6=true) (aI (rfl:cH 1 [[(vI xa2)]]=true) (aI (rfl:aT [[(vI xa2)]]=true) (aI d2_ (aI d3_ (aI d4_ (aI ((zq _):cX (some (za6,.bad)) za6=true) (aI d5_ (aI (rfl:cH 1 [[(vI xa2)]]=true) (aI (rfl:aT [[(vI xa2)]]=true) (aI d2_ (aI d3_ (aI d4_ (aI ((zq _):cX (some (za6,.bad)) za6=true) (aI (rfl:cH 1 [[(vI xa2)]]=true) (aI (rfl:aT [[(vI xa2)]]=true) (aI d2_ (aI d3_ (aI d4_ (aI ((zq _):cX (some (za6,.bad)) za6=true) (aI d5_ (aI d5_ (aI (rfl:cH 1 [[(vI xa2)]]=true) (aI (rfl:aT [[(vI xa2)]]=true) (aI d2_ (aI d3_ (aI d4_ (aI ((zq _):cX (some (za6,.bad)) za6=true) (aI d5_ (aI d5_ (aI (LD eI gxa8:Nat.blt za6 (sa.1.2.map (nK eI)).length=true) (aI (Ie eI sa.1.2 _ (za9++([xa2]:List Int)):(sa.1.2.map (nK eI)).set za6 (some ((za9++([xa2]:List Int)).map eI))=(sa.1.2.set za6 (some (za9++([xa2]:List Int)))).map (nK eI)) z))))))))))))))))))))))))))))))))))))))))))))))))))))))))))))))))))))))))))))))))))

def tm (oA:(List Cell)) (oB:(List (List Event))) (oC:(List Int)) (oD:(List Int)) (y0:(Unit⊕((List (Int×(List Int)))×(List Event)×(List Int)))):AV×List Ob:=match y0 with | .inl y=>(.nilp,[.arr true 4 [[.sl (oA.map Cell.enc),.sl (oB.map (dA Event.enc)),.sl (oC.map eI),.sl (oD.map eI)]]]) | .inr y=>(.ptr (.O 2) 0 0,[.arr true 4 [[.sl (oA.map Cell.enc),.sl (oB.map (dA Event.enc)),.sl (oC.map eI),.sl (oD.map eI)]],.mapo true (y.1.map (dB (aS .u64) (eN eI))),.arr false 4 [[.ptr (.O 0) 0 0,.sl (y.2.1.map Event.enc),.sl (y.2.2.map eI),.mp 1]]])
theorem qb (n:Nat) (oA:(List Cell)) (oB:(List (List Event))) (oC:(List Int)) (oD:(List Int)) (y:(Unit⊕((List (Int×(List Int)))×(List Event)×(List Int)))) (h:iD n oA oB oC oD=some y):SD Tryz.prog 37 [.ptr (.O 0) 0 0] [.arr true 4 [[.sl (oA.map Cell.enc),.sl (oB.map (dA Event.enc)),.sl (oC.map eI),.sl (oD.map eI)]]] (fun r' o'=>r'=(tm oA oB oC oD y).1∧o'=(tm oA oB oC oD y).2):=by
 unfold iD at h
 obtain ⟨y1,gy1,h⟩:=ab h
 have c96_:=fun (R:Prop) (z:R)=>(aI (jy n (af.mk oA oB oC oD) y1 gy1) z)
 rcases ao h with ⟨h2,h⟩ | ⟨h2,h⟩
 ·
  obtain rfl:=aF h
  exact kS (nA tl [aZ 1 [(11,vT)] [(10,(vI y1))]]) IB ⟨rfl,rfl⟩ (fun z=>(c96_ _ (aB h2 z)))
 obtain ⟨y3,gy3,h⟩:=ab h
 obtain ⟨y4,gy4,h⟩:=ab h
 obtain ⟨t23,gt23,h⟩:=ab h
 obtain ⟨h24,h⟩:=ey h
 obtain rfl:=aF h
 have d0_:pP 61 [.agg [.sl (oA.map Cell.enc),.sl (oB.map (dA Event.enc)),.sl (oC.map eI),.sl (oD.map eI)]] (ew (.sl (y3.map Event.enc))):=(BE n (af.mk oA oB oC oD) y3 gy3)
 have d1_:pP 62 [.agg [.sl (oA.map Cell.enc),.sl (oB.map (dA Event.enc)),.sl (oC.map eI),.sl (oD.map eI)]] (ew (.sl (y4.map eI))):=(v1 n (af.mk oA oB oC oD) y4 gy4)
 have d2_:ba 60 [(0,.ptr (.O 0) 0 0),(2,.nilp),(3,.ptr (.O 2) 0 0),(7,.ptr (.O 0) 0 0),(8,.ptr (.O 0) 0 0),(9,.agg [.sl (oA.map Cell.enc),.sl (oB.map (dA Event.enc)),.sl (oC.map eI),.sl (oD.map eI)]),(10,(vI y1)),(11,vF),(12,.ptr (.O 0) 0 0),(13,.ptr (.O 0) 0 0),(14,.ptr (.O 0) 0 0),(15,.agg [.sl (oA.map Cell.enc),.sl (oB.map (dA Event.enc)),.sl (oC.map eI),.sl (oD.map eI)]),(16,.sl (y3.map Event.enc)),(17,.ptr (.O 0) 0 0),(18,.ptr (.O 0) 0 0),(19,.agg [.sl (oA.map Cell.enc),.sl (oB.map (dA Event.enc)),.sl (oC.map eI),.sl (oD.map eI)]),(20,.sl (y4.map eI)),(21,.mp 1),(22,.agg [.ptr (.O 0) 0 0,.sl (y3.map Event.enc),.sl (y4.map eI),.mp 1]),(23,.ptr (.O 2) 0 0)] [] [.arr true 4 [[.sl (oA.map Cell.enc),.sl (oB.map (dA Event.enc)),.sl (oC.map eI),.sl (oD.map eI)]],.own (some (([]:List Int).map (aS .u64))) 1 (([]:List (Option (List Int))).map (nK eI)) none,.arr false 4 [[.ptr (.O 0) 0 0,.sl (y3.map Event.enc),.sl (y4.map eI),.mp 1]]] 1=ba 60 [(0,.ptr (.O 0) 0 0),(2,.nilp),(3,.ptr (.O 2) 0 0),(7,.ptr (.O 0) 0 0),(8,.ptr (.O 0) 0 0),(9,.agg [.sl (oA.map Cell.enc),.sl (oB.map (dA Event.enc)),.sl (oC.map eI),.sl (oD.map eI)]),(10,(vI y1)),(11,vF),(12,.ptr (.O 0) 0 0),(13,.ptr (.O 0) 0 0),(14,.ptr (.O 0) 0 0),(15,.agg [.sl (oA.map Cell.enc),.sl (oB.map (dA Event.enc)),.sl (oC.map eI),.sl (oD.map eI)]),(16,.sl (y3.map Event.enc)),(17,.ptr (.O 0) 0 0),(18,.ptr (.O 0) 0 0),(19,.agg [.sl (oA.map Cell.enc),.sl (oB.map (dA Event.enc)),.sl (oC.map eI),.sl (oD.map eI)]),(20,.sl (y4.map eI)),(21,.mp 1),(22,.agg [.ptr (.O 0) 0 0,.sl (y3.map Event.enc),.sl (y4.map eI),.mp 1]),(23,.ptr (.O 2) 0 0)] [] [.arr true 4 [[.sl (oA.map Cell.enc),.sl (oB.map (dA Event.enc)),.sl (oC.map eI),.sl (oD.map eI)]],.own (some (([]:List Int).map (aS .u64))) 1 (([]:List (Option (List Int))).map (nK eI)) none,.arr false 4 [[.ptr (.O 0) 0 0,.sl (y3.map Event.enc),.sl (y4.map eI),.mp 1]]] 1:=rfl
 exact kS ⟨tl,[aZ 1 [(11,vF)] [(10,(vI y1))],aZ 3 [] [(16,.sl (y3.map Event.enc)),(20,.sl (y4.map eI))],rV 4 [(28,(vI (oD.length:Int)))],(11,⟨[],[],[],[],[],[],[],[(2000001,(BZ t23.1 t23.2).map (dB (aS .u64) (eN eI)))],[]⟩)],[],[(5,(⟨[3,27,28,29],[],3,[],[],[]⟩,l0,(.ex 0),Pi oA oB oC oD y3 y4 t23))],[]⟩ IB ⟨rfl,rfl⟩ (fun z=>(c96_ _ (aB h2 (aI d0_ (aI d1_ (aI d1_ (aI d2_ (aI d1_ (aI d2_ (aI d0_ (aI d1_ (aI d1_ (aI d2_ (aI d0_ (aI d1_ (aI d2_ (aI d2_ (aI d0_ (aI d1_ (aI d2_ (aI d0_ (aI d1_ (aI d1_ (aI d2_ (aI d0_ (aI d1_ (aI d2_ (aI d0_ (aI d1_ (aI d2_ (aI d2_ (aI d0_ (aI d1_ (aI d2_ (aL eI oD (aI (eo (pl:=al 37) (MX oA oB oC oD y3 y4) (Pj oA oB oC oD y3 y4) (Te n oA oB oC oD y3 y4) n _ t23 gt23) (aI (OX eI (aS .u64) _ _ h24:mI (t23.1.map (aS .u64)) (t23.2.map (nK eI))=(BZ t23.1 t23.2).map (dB (aS .u64) (eN eI))) z)))))))))))))))))))))))))))))))))))))

def LM:List (Nat×PT):=[]
theorem MY:ax (al 38) LM (aj Tryz.prog 38)=true:=by kernel_rfl
theorem iy (n:Nat) (why:Int) (a:Int) (b:Int) (r:bg) (h:eU n why a b=some r):aw Tryz.prog 38 [(vI why),(vI a),(vI b)] (ew ((bq bg.enc r))):=by
 unfold eU at h
 obtain rfl:=aF h
 exact kP (nA LM []) MY (fun z=>z)

noncomputable def Pk:Code:=sub (aj Tryz.prog 81) [1,1,1,1,1,1,0,0,0]
theorem Pl:ax (al 81) tk Pk=true:=by kernel_rfl
def MZ (oA:(List Cell)) (oB:(List (List Event))) (oC:(List Int)) (oD:(List Int)) (oE:(List Event)) (sa:(List Int)×Int):St:=ba 48 [(7,.mf 1),(8,(vI sa.2))] [] [.arr true 7 [[.fptr [.sl (oA.map Cell.enc),.sl (oB.map (dA Event.enc)),.sl (oC.map eI),.sl (oD.map eI)] 0,.sl (oE.map Event.enc),.nilsl,.nilsl,.nilsl,.nilsl,.nilsl]],.arr true 1 (sa.1.map eI)] 1
def Pm (oA:(List Cell)) (oB:(List (List Event))) (oC:(List Int)) (oD:(List Int)) (oE:(List Event)) (tt:(List Int)):St:=ba 48 [(7,.mf 1)] [] [.arr true 7 [[.fptr [.sl (oA.map Cell.enc),.sl (oB.map (dA Event.enc)),.sl (oC.map eI),.sl (oD.map eI)] 0,.sl (oE.map Event.enc),.nilsl,.nilsl,.nilsl,.nilsl,.nilsl]],.arr true 1 (tt.map eI)] 1
def Pn (oA:(List Cell)) (oB:(List (List Event))) (oC:(List Int)) (oD:(List Int)) (oE:(List Event)) (tt:((List Int))):Ex×St:=(.ex 0,Pm oA oB oC oD oE tt)
theorem Tf (n:Nat) (oA:(List Cell)) (oB:(List (List Event))) (oC:(List Int)) (oD:(List Int)) (oE:(List Event)):∀ sa r,bP n oA oB oC oD oE sa=some r→aQ Tryz.prog Pk (MZ oA oB oC oD oE sa) (rk (MZ oA oB oC oD oE) (Pn oA oB oC oD oE) r):=by
 intro sa r h
 unfold bP at h
 rcases aA h with ⟨ha1,h⟩ | ⟨ha1,h⟩
 ·
  exact kQ h (nA tk [rV 8 [(36,(vI (sa.1.length:Int))),(37,vF)]]) [wK 2 [7] [] 2] Pl (cn rfl i3) (fun z=>(aL eI sa.1 (aB ha1 z)))
 obtain ⟨ha2,h⟩:=ey h
 obtain ⟨ha3,h⟩:=ey h
 obtain ⟨ha4,h⟩:=ey h
 have d0_:aT (((sa.1.map eI).drop 0).take ((sa.2).toNat))=true:=(by rw [← List.map_drop,← List.map_take]; exact FG)
 have d1_:Nat.ble ((sa.2).toNat + (sa.1.length - (sa.2).toNat)) (sa.1.map eI).length=true:=(by rw [List.length_map]; exact ha4)
 have d2_:AV.v (.int .i64 ((min (((sa.1.map eI).drop 0).take ((sa.2).toNat)).length (sa.1.length - (sa.2).toNat):Nat):Int))=AV.v (.int .i64 ((min ((sa.1.drop 0).take ((sa.2).toNat)).length (sa.1.length - (sa.2).toNat):Nat):Int)):=(by simp [])
 have d3_:(sa.1.map eI).take ((sa.2).toNat)++((((sa.1.map eI).drop 0).take ((sa.2).toNat)).take (sa.1.length - (sa.2).toNat)++(sa.1.map eI).drop ((sa.2).toNat + min (((sa.1.map eI).drop 0).take ((sa.2).toNat)).length (sa.1.length - (sa.2).toNat)))=(sa.1.take ((sa.2).toNat)++(((sa.1.drop 0).take ((sa.2).toNat)).take (sa.1.length - (sa.2).toNat)++sa.1.drop ((sa.2).toNat + min ((sa.1.drop 0).take ((sa.2).toNat)).length (sa.1.length - (sa.2).toNat)))).map eI:=(by simp [List.map_take,List.map_drop])
 exact kQ h (nA tk [rV 8 [(36,(vI (sa.1.length:Int))),(37,vT)],(9,⟨[],[41,44],[],[(41,.msl 1 ((sa.2).toNat) (sa.1.length - (sa.2).toNat) 0),(44,.msl 1 0 ((sa.2).toNat) (sa.1.length - (sa.2).toNat)),(45,.v (.int .i64 ((min ((sa.1.drop 0).take ((sa.2).toNat)).length (sa.1.length - (sa.2).toNat):Nat):Int)))],[],[],[(45,(1,(sa.1.take ((sa.2).toNat)++(((sa.1.drop 0).take ((sa.2).toNat)).take (sa.1.length - (sa.2).toNat)++sa.1.drop ((sa.2).toNat + min ((sa.1.drop 0).take ((sa.2).toNat)).length (sa.1.length - (sa.2).toNat)))).map eI))],[],[]⟩)]) [wK 0 [7,8] [] 2] Pl cR (fun z=>(aL eI sa.1 (aB ha1 (aI (By ha2:(decide ((0:Int)≤sa.2)&&decide (sa.2≤(((sa.1.map eI).length:Nat):Int)))=true) (aI (Dd eI sa.1 _ _ _ _:AV.msl 1 (sa.2).toNat ((sa.1.map eI).length - (sa.2).toNat) 0=AV.msl 1 ((sa.2).toNat) (sa.1.length - (sa.2).toNat) 0) (aI (By ha3:(decide ((0:Int)≤sa.2)&&decide (sa.2≤(((sa.1.map eI).length:Nat):Int)))=true) (aI (FC eI sa.1 _ _ _ _:AV.msl 1 0 ((sa.2).toNat - 0) ((sa.1.map eI).length - (sa.2).toNat)=AV.msl 1 0 ((sa.2).toNat) (sa.1.length - (sa.2).toNat)) (aI d0_ (aI d1_ (aI d2_ (aI d3_ (aI d0_ (aI d1_ (aI d2_ (aI d3_ (aI (rfl:ba 48 [(7,.mf 1),(8,.v (.int .i64 (ah .i64 sa.2 ((min ((sa.1.drop 0).take ((sa.2).toNat)).length (sa.1.length - (sa.2).toNat):Nat):Int)))),(34,(vI sa.2)),(35,.mf 1),(36,(vI (sa.1.length:Int))),(37,vT),(38,(vI sa.2)),(39,.mf 1),(40,(vI sa.2)),(41,.msl 1 ((sa.2).toNat) (sa.1.length - (sa.2).toNat) 0),(42,.mf 1),(43,(vI sa.2)),(44,.msl 1 0 ((sa.2).toNat) (sa.1.length - (sa.2).toNat)),(45,.v (.int .i64 ((min ((sa.1.drop 0).take ((sa.2).toNat)).length (sa.1.length - (sa.2).toNat):Nat):Int))),(46,.v (.int .i64 (ah .i64 sa.2 ((min ((sa.1.drop 0).take ((sa.2).toNat)).length (sa.1.length - (sa.2).toNat):Nat):Int))))] [] [.arr true 7 [[.fptr [.sl (oA.map Cell.enc),.sl (oB.map (dA Event.enc)),.sl (oC.map eI),.sl (oD.map eI)] 0,.sl (oE.map Event.enc),.nilsl,.nilsl,.nilsl,.nilsl,.nilsl]],.arr true 1 ((sa.1.take ((sa.2).toNat)++(((sa.1.drop 0).take ((sa.2).toNat)).take (sa.1.length - (sa.2).toNat)++sa.1.drop ((sa.2).toNat + min ((sa.1.drop 0).take ((sa.2).toNat)).length (sa.1.length - (sa.2).toNat)))).map eI)] 1=ba 48 [(7,.mf 1),(8,.v (.int .i64 (ah .i64 sa.2 ((min ((sa.1.drop 0).take ((sa.2).toNat)).length (sa.1.length - (sa.2).toNat):Nat):Int)))),(34,(vI sa.2)),(35,.mf 1),(36,(vI (sa.1.length:Int))),(37,vT),(38,(vI sa.2)),(39,.mf 1),(40,(vI sa.2)),(41,.msl 1 ((sa.2).toNat) (sa.1.length - (sa.2).toNat) 0),(42,.mf 1),(43,(vI sa.2)),(44,.msl 1 0 ((sa.2).toNat) (sa.1.length - (sa.2).toNat)),(45,.v (.int .i64 ((min ((sa.1.drop 0).take ((sa.2).toNat)).length (sa.1.length - (sa.2).toNat):Nat):Int))),(46,.v (.int .i64 (ah .i64 sa.2 ((min ((sa.1.drop 0).take ((sa.2).toNat)).length (sa.1.length - (sa.2).toNat):Nat):Int))))] [] [.arr true 7 [[.fptr [.sl (oA.map Cell.enc),.sl (oB.map (dA Event.enc)),.sl (oC.map eI),.sl (oD.map eI)] 0,.sl (oE.map Event.enc),.nilsl,.nilsl,.nilsl,.nilsl,.nilsl]],.arr true 1 ((sa.1.take ((sa.2).toNat)++(((sa.1.drop 0).take ((sa.2).toNat)).take (sa.1.length - (sa.2).toNat)++sa.1.drop ((sa.2).toNat + min ((sa.1.drop 0).take ((sa.2).toNat)).length (sa.1.length - (sa.2).toNat)))).map eI)] 1) z))))))))))))))))

def gO (x:(List Int)) (count:Int) (oA:(List Cell)) (oB:(List (List Event))) (oC:(List Int)) (oD:(List Int)) (oE:(List Event)) (y:(List Int)):AV×List Ob:=(.mf 1,[.arr true 7 [[.fptr [.sl (oA.map Cell.enc),.sl (oB.map (dA Event.enc)),.sl (oC.map eI),.sl (oD.map eI)] 0,.sl (oE.map Event.enc),.nilsl,.nilsl,.nilsl,.nilsl,.nilsl]],.arr true 1 (y.map eI)])
theorem k_ (n:Nat) (x:(List Int)) (count:Int) (oA:(List Cell)) (oB:(List (List Event))) (oC:(List Int)) (oD:(List Int)) (oE:(List Event)) (y:(List Int)) (h:bu n x count oA oB oC oD oE=some y):SD Tryz.prog 81 [.sl (x.map eI),(vI count)] [.arr true 7 [[.fptr [.sl (oA.map Cell.enc),.sl (oB.map (dA Event.enc)),.sl (oC.map eI),.sl (oD.map eI)] 0,.sl (oE.map Event.enc),.nilsl,.nilsl,.nilsl,.nilsl,.nilsl]]] (fun r' o'=>r'=(gO x count oA oB oC oD oE y).1∧o'=(gO x count oA oB oC oD oE y).2):=by
 unfold bu at h
 rcases ao h with ⟨h1,h⟩ | ⟨h1,h⟩
 ·
  cases h
 obtain ⟨y2,gy2,h⟩:=ab h
 have c97_:=fun (R:Prop) (z:R)=>(aB h1 (aL eI x (aI (mT n (IntKind.wrap .u64 (x.length:Int)) (IntKind.wrap .u64 count) y2 gy2) z)))
 let e98_:LR:=[rV 1 [(10,vF)],aZ 3 [(14,(vI (x.length:Int)))] [(18,.tup [(vU y2.1),(vU y2.2)])]]
 rcases ao h with ⟨h3,h⟩ | ⟨h3,h⟩
 ·
  cases h
 rcases ao h with ⟨h4,h⟩ | ⟨h4,h⟩
 ·
  cases h
 obtain ⟨h5,h⟩:=ey h
 obtain ⟨t6,gt6,h⟩:=ab h
 obtain rfl:=aF h
 exact kS ⟨tk,(e98_++[rV 4 [(23,vF),(26,vF)],(6,⟨[],[30],[],[],[],[],[(30,(1,(List.replicate ((IntKind.wrap .i64 y2.2)).toNat 0).map eI))],[],[]⟩),(7,⟨[],[],[],[(33,.v (.int .i64 ((min x.length (List.replicate ((IntKind.wrap .i64 y2.2)).toNat 0).length:Nat):Int)))],[],[],[(33,(1,(x.take (List.replicate ((IntKind.wrap .i64 y2.2)).toNat 0).length++(List.replicate ((IntKind.wrap .i64 y2.2)).toNat 0).drop x.length).map eI))],[],[]⟩)]),[],[(8,(⟨[7,8],[],2,[],[],[]⟩,l0,(.ex 0),Pm oA oB oC oD oE t6))],[]⟩ Iz ⟨rfl,rfl⟩ (fun z=>(c97_ _ (aB h3 (aB h4 (aI h5 (aI (lA eI _ 0:List.replicate ((IntKind.wrap .i64 y2.2)).toNat [(vI 0)]=(List.replicate ((IntKind.wrap .i64 y2.2)).toNat 0).map eI) (aI (Hf:cH 1 (x.map eI)=true) (aI (FG:aT (x.map eI)=true) (aI ((by simp []):AV.v (.int .i64 ((min (x.map eI).length ((List.replicate ((IntKind.wrap .i64 y2.2)).toNat 0).map eI).length:Nat):Int))=AV.v (.int .i64 ((min x.length (List.replicate ((IntKind.wrap .i64 y2.2)).toNat 0).length:Nat):Int))) (aI ((by simp [List.map_take]):(x.map eI).take ((List.replicate ((IntKind.wrap .i64 y2.2)).toNat 0).map eI).length++((List.replicate ((IntKind.wrap .i64 y2.2)).toNat 0).map eI).drop (x.map eI).length=(x.take (List.replicate ((IntKind.wrap .i64 y2.2)).toNat 0).length++(List.replicate ((IntKind.wrap .i64 y2.2)).toNat 0).drop x.length).map eI) (aI (eo (pl:=al 81) (MZ oA oB oC oD oE) (Pn oA oB oC oD oE) (Tf n oA oB oC oD oE) n _ t6 gt6) z)))))))))))

end
end Go.Proofs.YtomahedcdcnnhaaGreatDoor
