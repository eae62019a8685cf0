/- What the functions compute, they compute: printed by a program, path by path. No conditions. -/
import Derived.Test.YtomahedcdcnnhaaGreatDoorP0
import Derived.KernelRfl
namespace Go.Proofs.YtomahedcdcnnhaaGreatDoor
open Go A
set_option linter.unusedVariables false
set_option maxRecDepth 100000
set_option maxHeartbeats 0
section
variable (pc:Nat→List AV→(AV→Prop)→Prop) (sc:Nat→List AV→List Ob→(AV→List Ob→Prop)→Prop) (lp:br→Code→St→(Ex→St→Prop)→Prop) (cd:wH)

def GN:List (Nat×PT):=[(5,(ew [0,1,2,3,4,5,6,7,8])),(6,(ew [0,1,2,3,4,5,6,7,8]))]
theorem GO:ay (ak 29) GN (aj Tryz.prog 29)=true:=by kernel_rfl
theorem nI (n:Nat) (fences:Bool) (r:ae) (h:lB n fences=some r):ax Tryz.prog 29 [.v (.bool fences)] (eF ((bD ae.enc r))):=by
 unfold lB at h
 rcases ap h with ⟨h1,h⟩ | ⟨h1,h⟩
 ·
  obtain rfl:=aK h
  exact kP (nA GN [rV 3 [(12,vT)]]) GO (fun z=>(aB h1 ((aG.agg (aT.cons aG.nil (aT.cons (aG.sl (eS.cons (aT.cons (aG.sl (eS.cons (aT.cons (aG.refl _) (aT.cons (aG.refl _) (aT.cons (aG.refl _) (aT.cons (aG.refl _) (aT.cons (aG.refl _) (aT.cons (aG.refl _) (aT.cons (aG.refl _) (aT.cons (aG.refl _) (aT.cons (aG.refl _) (aT.cons (aG.refl _) (aT.cons (aG.refl _) (aT.cons aG.nil (aT.cons aG.nil (aT.cons aG.nil aT.nil)))))))))))))) (eS.cons (aT.cons (aG.refl _) (aT.cons (aG.refl _) (aT.cons (aG.refl _) (aT.cons (aG.refl _) (aT.cons (aG.refl _) (aT.cons (aG.refl _) (aT.cons (aG.refl _) (aT.cons (aG.refl _) (aT.cons (aG.refl _) (aT.cons (aG.refl _) (aT.cons (aG.refl _) (aT.cons aG.nil (aT.cons aG.nil (aT.cons aG.nil aT.nil)))))))))))))) eS.nil))) aT.nil) (eS.cons (aT.cons (aG.sl (eS.cons (aT.cons (aG.refl _) (aT.cons (aG.refl _) (aT.cons (aG.refl _) (aT.cons (aG.refl _) (aT.cons (aG.refl _) (aT.cons (aG.refl _) (aT.cons (aG.refl _) (aT.cons (aG.refl _) (aT.cons (aG.refl _) (aT.cons (aG.refl _) (aT.cons (aG.refl _) (aT.cons aG.nil (aT.cons aG.nil (aT.cons aG.nil aT.nil)))))))))))))) (eS.cons (aT.cons (aG.refl _) (aT.cons (aG.refl _) (aT.cons (aG.refl _) (aT.cons (aG.refl _) (aT.cons (aG.refl _) (aT.cons (aG.refl _) (aT.cons (aG.refl _) (aT.cons (aG.refl _) (aT.cons (aG.refl _) (aT.cons (aG.refl _) (aT.cons (aG.refl _) (aT.cons aG.nil (aT.cons aG.nil (aT.cons aG.nil aT.nil)))))))))))))) eS.nil))) aT.nil) eS.nil))) (aT.cons (aG.refl _) (aT.cons (aG.refl _) aT.nil))))):aG (.agg [.nilsl,.sl [[.sl [[(vI 0),(vI 0),(vI 2),(vU 8),(vU 0),(vU 1),vF,vF,(vI 0),(vI 0),(vI 0),.nilsl,.nilsl,.nilsl],[(vI 0),(vI 1),(vI 2),(vU 16),(vU 0),(vU 1),vF,vF,(vI 0),(vI 0),(vI 0),.nilsl,.nilsl,.nilsl]]],[.sl [[(vI 1),(vI 0),(vI 1),(vU 16),(vU 1),(vU 0),vF,vF,(vI 0),(vI 0),(vI 0),.nilsl,.nilsl,.nilsl],[(vI 1),(vI 1),(vI 1),(vU 8),(vU 0),(vU 0),vF,vF,(vI 0),(vI 0),(vI 0),.nilsl,.nilsl,.nilsl]]]],.sl [[(vI (-1))],[(vI (-1))],[(vI 1)],[(vI (-1))]],.sl [[(vI 1)],[(vI 2)],[(vI 3)],[(vI 0)]]]) (.agg [.sl (((ae.mk ([]:List Cell) ([([(Event.mk 0 0 2 8 0 1 false false 0 0 0 (Deps.mk ([]:List Int) ([]:List Int) ([]:List Int))),(Event.mk 0 1 2 16 0 1 false false 0 0 0 (Deps.mk ([]:List Int) ([]:List Int) ([]:List Int)))]:List Event),([(Event.mk 1 0 1 16 1 0 false false 0 0 0 (Deps.mk ([]:List Int) ([]:List Int) ([]:List Int))),(Event.mk 1 1 1 8 0 0 false false 0 0 0 (Deps.mk ([]:List Int) ([]:List Int) ([]:List Int)))]:List Event)]:List (List Event)) ([(-1),(-1),1,(-1)]:List Int) ([1,2,3,0]:List Int)).First).map Cell.enc),.sl (((ae.mk ([]:List Cell) ([([(Event.mk 0 0 2 8 0 1 false false 0 0 0 (Deps.mk ([]:List Int) ([]:List Int) ([]:List Int))),(Event.mk 0 1 2 16 0 1 false false 0 0 0 (Deps.mk ([]:List Int) ([]:List Int) ([]:List Int)))]:List Event),([(Event.mk 1 0 1 16 1 0 false false 0 0 0 (Deps.mk ([]:List Int) ([]:List Int) ([]:List Int))),(Event.mk 1 1 1 8 0 0 false false 0 0 0 (Deps.mk ([]:List Int) ([]:List Int) ([]:List Int)))]:List Event)]:List (List Event)) ([(-1),(-1),1,(-1)]:List Int) ([1,2,3,0]:List Int)).Harts).map (cY Event.enc)),.sl (((ae.mk ([]:List Cell) ([([(Event.mk 0 0 2 8 0 1 false false 0 0 0 (Deps.mk ([]:List Int) ([]:List Int) ([]:List Int))),(Event.mk 0 1 2 16 0 1 false false 0 0 0 (Deps.mk ([]:List Int) ([]:List Int) ([]:List Int)))]:List Event),([(Event.mk 1 0 1 16 1 0 false false 0 0 0 (Deps.mk ([]:List Int) ([]:List Int) ([]:List Int))),(Event.mk 1 1 1 8 0 0 false false 0 0 0 (Deps.mk ([]:List Int) ([]:List Int) ([]:List Int)))]:List Event)]:List (List Event)) ([(-1),(-1),1,(-1)]:List Int) ([1,2,3,0]:List Int)).From).map eI),.sl (((ae.mk ([]:List Cell) ([([(Event.mk 0 0 2 8 0 1 false false 0 0 0 (Deps.mk ([]:List Int) ([]:List Int) ([]:List Int))),(Event.mk 0 1 2 16 0 1 false false 0 0 0 (Deps.mk ([]:List Int) ([]:List Int) ([]:List Int)))]:List Event),([(Event.mk 1 0 1 16 1 0 false false 0 0 0 (Deps.mk ([]:List Int) ([]:List Int) ([]:List Int))),(Event.mk 1 1 1 8 0 0 false false 0 0 0 (Deps.mk ([]:List Int) ([]:List Int) ([]:List Int)))]:List Event)]:List (List Event)) ([(-1),(-1),1,(-1)]:List Int) ([1,2,3,0]:List Int)).Order).map eI)])))) (by kernel_rfl)
 obtain rfl:=aK h
 exact kP (nA GN [rV 3 [(12,vF)]]) GO (fun z=>(aB h1 ((aG.agg (aT.cons aG.nil (aT.cons (aG.sl (eS.cons (aT.cons (aG.sl (eS.cons (aT.cons (aG.refl _) (aT.cons (aG.refl _) (aT.cons (aG.refl _) (aT.cons (aG.refl _) (aT.cons (aG.refl _) (aT.cons (aG.refl _) (aT.cons (aG.refl _) (aT.cons (aG.refl _) (aT.cons (aG.refl _) (aT.cons (aG.refl _) (aT.cons (aG.refl _) (aT.cons aG.nil (aT.cons aG.nil (aT.cons aG.nil aT.nil)))))))))))))) (eS.cons (aT.cons (aG.refl _) (aT.cons (aG.refl _) (aT.cons (aG.refl _) (aT.cons (aG.refl _) (aT.cons (aG.refl _) (aT.cons (aG.refl _) (aT.cons (aG.refl _) (aT.cons (aG.refl _) (aT.cons (aG.refl _) (aT.cons (aG.refl _) (aT.cons (aG.refl _) (aT.cons aG.nil (aT.cons aG.nil (aT.cons aG.nil aT.nil)))))))))))))) (eS.cons (aT.cons (aG.refl _) (aT.cons (aG.refl _) (aT.cons (aG.refl _) (aT.cons (aG.refl _) (aT.cons (aG.refl _) (aT.cons (aG.refl _) (aT.cons (aG.refl _) (aT.cons (aG.refl _) (aT.cons (aG.refl _) (aT.cons (aG.refl _) (aT.cons (aG.refl _) (aT.cons aG.nil (aT.cons aG.nil (aT.cons aG.nil aT.nil)))))))))))))) eS.nil)))) aT.nil) (eS.cons (aT.cons (aG.sl (eS.cons (aT.cons (aG.refl _) (aT.cons (aG.refl _) (aT.cons (aG.refl _) (aT.cons (aG.refl _) (aT.cons (aG.refl _) (aT.cons (aG.refl _) (aT.cons (aG.refl _) (aT.cons (aG.refl _) (aT.cons (aG.refl _) (aT.cons (aG.refl _) (aT.cons (aG.refl _) (aT.cons aG.nil (aT.cons aG.nil (aT.cons aG.nil aT.nil)))))))))))))) (eS.cons (aT.cons (aG.refl _) (aT.cons (aG.refl _) (aT.cons (aG.refl _) (aT.cons (aG.refl _) (aT.cons (aG.refl _) (aT.cons (aG.refl _) (aT.cons (aG.refl _) (aT.cons (aG.refl _) (aT.cons (aG.refl _) (aT.cons (aG.refl _) (aT.cons (aG.refl _) (aT.cons aG.nil (aT.cons aG.nil (aT.cons aG.nil aT.nil)))))))))))))) (eS.cons (aT.cons (aG.refl _) (aT.cons (aG.refl _) (aT.cons (aG.refl _) (aT.cons (aG.refl _) (aT.cons (aG.refl _) (aT.cons (aG.refl _) (aT.cons (aG.refl _) (aT.cons (aG.refl _) (aT.cons (aG.refl _) (aT.cons (aG.refl _) (aT.cons (aG.refl _) (aT.cons aG.nil (aT.cons aG.nil (aT.cons aG.nil aT.nil)))))))))))))) eS.nil)))) aT.nil) eS.nil))) (aT.cons (aG.refl _) (aT.cons (aG.refl _) aT.nil))))):aG (.agg [.nilsl,.sl [[.sl [[(vI 0),(vI 0),(vI 2),(vU 8),(vU 0),(vU 1),vF,vF,(vI 0),(vI 0),(vI 0),.nilsl,.nilsl,.nilsl],[(vI 0),(vI 1),(vI 6),(vU 0),(vU 0),(vU 0),vF,vF,(vI 1),(vI 1),(vI 0),.nilsl,.nilsl,.nilsl],[(vI 0),(vI 2),(vI 2),(vU 16),(vU 0),(vU 1),vF,vF,(vI 0),(vI 0),(vI 0),.nilsl,.nilsl,.nilsl]]],[.sl [[(vI 1),(vI 0),(vI 1),(vU 16),(vU 1),(vU 0),vF,vF,(vI 0),(vI 0),(vI 0),.nilsl,.nilsl,.nilsl],[(vI 1),(vI 1),(vI 6),(vU 0),(vU 0),(vU 0),vF,vF,(vI 2),(vI 2),(vI 0),.nilsl,.nilsl,.nilsl],[(vI 1),(vI 2),(vI 1),(vU 8),(vU 0),(vU 0),vF,vF,(vI 0),(vI 0),(vI 0),.nilsl,.nilsl,.nilsl]]]],.sl [[(vI (-1))],[(vI (-1))],[(vI (-1))],[(vI 2)],[(vI (-1))],[(vI (-1))]],.sl [[(vI 2)],[(vI 3)],[(vI 5)],[(vI 0)]]]) (.agg [.sl (((ae.mk ([]:List Cell) ([([(Event.mk 0 0 2 8 0 1 false false 0 0 0 (Deps.mk ([]:List Int) ([]:List Int) ([]:List Int))),(Event.mk 0 1 6 0 0 0 false false 1 1 0 (Deps.mk ([]:List Int) ([]:List Int) ([]:List Int))),(Event.mk 0 2 2 16 0 1 false false 0 0 0 (Deps.mk ([]:List Int) ([]:List Int) ([]:List Int)))]:List Event),([(Event.mk 1 0 1 16 1 0 false false 0 0 0 (Deps.mk ([]:List Int) ([]:List Int) ([]:List Int))),(Event.mk 1 1 6 0 0 0 false false 2 2 0 (Deps.mk ([]:List Int) ([]:List Int) ([]:List Int))),(Event.mk 1 2 1 8 0 0 false false 0 0 0 (Deps.mk ([]:List Int) ([]:List Int) ([]:List Int)))]:List Event)]:List (List Event)) ([(-1),(-1),(-1),2,(-1),(-1)]:List Int) ([2,3,5,0]:List Int)).First).map Cell.enc),.sl (((ae.mk ([]:List Cell) ([([(Event.mk 0 0 2 8 0 1 false false 0 0 0 (Deps.mk ([]:List Int) ([]:List Int) ([]:List Int))),(Event.mk 0 1 6 0 0 0 false false 1 1 0 (Deps.mk ([]:List Int) ([]:List Int) ([]:List Int))),(Event.mk 0 2 2 16 0 1 false false 0 0 0 (Deps.mk ([]:List Int) ([]:List Int) ([]:List Int)))]:List Event),([(Event.mk 1 0 1 16 1 0 false false 0 0 0 (Deps.mk ([]:List Int) ([]:List Int) ([]:List Int))),(Event.mk 1 1 6 0 0 0 false false 2 2 0 (Deps.mk ([]:List Int) ([]:List Int) ([]:List Int))),(Event.mk 1 2 1 8 0 0 false false 0 0 0 (Deps.mk ([]:List Int) ([]:List Int) ([]:List Int)))]:List Event)]:List (List Event)) ([(-1),(-1),(-1),2,(-1),(-1)]:List Int) ([2,3,5,0]:List Int)).Harts).map (cY Event.enc)),.sl (((ae.mk ([]:List Cell) ([([(Event.mk 0 0 2 8 0 1 false false 0 0 0 (Deps.mk ([]:List Int) ([]:List Int) ([]:List Int))),(Event.mk 0 1 6 0 0 0 false false 1 1 0 (Deps.mk ([]:List Int) ([]:List Int) ([]:List Int))),(Event.mk 0 2 2 16 0 1 false false 0 0 0 (Deps.mk ([]:List Int) ([]:List Int) ([]:List Int)))]:List Event),([(Event.mk 1 0 1 16 1 0 false false 0 0 0 (Deps.mk ([]:List Int) ([]:List Int) ([]:List Int))),(Event.mk 1 1 6 0 0 0 false false 2 2 0 (Deps.mk ([]:List Int) ([]:List Int) ([]:List Int))),(Event.mk 1 2 1 8 0 0 false false 0 0 0 (Deps.mk ([]:List Int) ([]:List Int) ([]:List Int)))]:List Event)]:List (List Event)) ([(-1),(-1),(-1),2,(-1),(-1)]:List Int) ([2,3,5,0]:List Int)).From).map eI),.sl (((ae.mk ([]:List Cell) ([([(Event.mk 0 0 2 8 0 1 false false 0 0 0 (Deps.mk ([]:List Int) ([]:List Int) ([]:List Int))),(Event.mk 0 1 6 0 0 0 false false 1 1 0 (Deps.mk ([]:List Int) ([]:List Int) ([]:List Int))),(Event.mk 0 2 2 16 0 1 false false 0 0 0 (Deps.mk ([]:List Int) ([]:List Int) ([]:List Int)))]:List Event),([(Event.mk 1 0 1 16 1 0 false false 0 0 0 (Deps.mk ([]:List Int) ([]:List Int) ([]:List Int))),(Event.mk 1 1 6 0 0 0 false false 2 2 0 (Deps.mk ([]:List Int) ([]:List Int) ([]:List Int))),(Event.mk 1 2 1 8 0 0 false false 0 0 0 (Deps.mk ([]:List Int) ([]:List Int) ([]:List Int)))]:List Event)]:List (List Event)) ([(-1),(-1),(-1),2,(-1),(-1)]:List Int) ([2,3,5,0]:List Int)).Order).map eI)])))) (by kernel_rfl)

def rM:List (Nat×PT):=[(4,(ew [0,1,2,3,4,5,6,7,8,9,10,11,12,13,14,15,16,17,18]))]
theorem GP:ay (ak 75) rM (aj Tryz.prog 75)=true:=by kernel_rfl
noncomputable def Z0:Code:=sub (aj Tryz.prog 75) [1,0,1,0,0]
theorem Z1:ay (ak 75) rM Z0=true:=by kernel_rfl
def Z2 (l:(List Cell)) (sa:Int):St:=bg 32 [(0,.sl (l.map Cell.enc)),(5,.sl (l.map Cell.enc)),(6,(vI (l.length:Int))),(7,(vI sa))] [] [] 0
def Z3 (l:(List Cell)) (tt:Unit):St:=bg 32 [] [] [] 0
def Z4 (l:(List Cell)) (tt:Unit):St:=bg 32 [(2,vF)] [] [] 0
def Z5 (l:(List Cell)) (t0:(Unit⊕Unit)):Ex×St:=match t0 with | .inl tt=>(.ex 0,Z3 l tt) | .inr tt=>(.ret,Z4 l tt)
theorem Z6 (n:Nat) (l:(List Cell)):∀ sa r,l5 n l sa=some r→aV Tryz.prog Z0 (Z2 l sa) (rk (Z2 l) (Z5 l) r):=by
 intro sa r h
 unfold l5 at h
 rcases aD h with ⟨ha1,h⟩ | ⟨ha1,h⟩
 ·
  exact kQ h (nA rM [rV 2 [(8,vF)]]) [wK 2 [] [] 0] Z1 (cG rfl kp) (fun z=>(aB ha1 z)) (by kernel_rfl)
 obtain ⟨xa2,gxa2,h⟩:=ab h
 have Mu:=fun (R:Prop) (z:R)=>(aB ha1 (aM Cell.enc gxa2 z))
 let e2_:LR:=[rV 2 [(8,vT)],rR 3 [(10,(Cell.enc xa2))]]
 rcases ap h with ⟨ha3,h⟩ | ⟨ha3,h⟩
 ·
  exact kQ h (nA rM (e2_++[rV 4 [(16,vT)]])) [wK 1 [2] [4] 0] Z1 (cG rfl gC) (fun z=>(Mu _ (aB ha3 z))) (by kernel_rfl)
 rcases aD h with ⟨ha4,h⟩ | ⟨ha4,h⟩
 ·
  exact kQ h (nA rM (e2_++[rV 4 [(16,vF),(19,vF)]])) [wK 0 [0,5,6,7] [4] 0] Z1 dx (fun z=>(Mu _ (aB ha3 (aB ha4 z)))) (by kernel_rfl)
 obtain ⟨xa5,gxa5,h⟩:=ab h
 have Pp:=fun (R:Prop) (z:R)=>(aB ha3 (aB ha4 (aM Cell.enc gxa5 z)))
 rcases ap h with ⟨ha6,h⟩ | ⟨ha6,h⟩
 ·
  exact kQ h (nA rM (e2_++[(4,⟨[],[],[(23,(Cell.enc xa5))],[(16,vF),(19,vT),(30,vT)],[],[],[],[],[]⟩)])) [wK 1 [2] [4] 0] Z1 (cG rfl gC) (fun z=>(Mu _ (Pp _ (aB ha6 z)))) (by kernel_rfl)
 exact kQ h (nA rM (e2_++[(4,⟨[],[],[(23,(Cell.enc xa5))],[(16,vF),(19,vT),(30,vF)],[],[],[],[],[]⟩)])) [wK 0 [0,5,6,7] [4] 0] Z1 dx (fun z=>(Mu _ (Pp _ (aB ha6 z)))) (by kernel_rfl)

theorem wU (n:Nat) (l:(List Cell)) (r:Bool) (h:kJ n l=some r):ax Tryz.prog 75 [.sl (l.map Cell.enc)] (eF (.v (.bool r))):=by
 unfold kJ at h
 obtain ⟨t1,gt1,h⟩:=ab h
 rcases t1 with w2 | w2
 ·
  obtain rfl:=aK h
  exact kP ⟨rM,[rV 1 [(6,(vI (l.length:Int)))]],[],[(2,(⟨[0,5,6,7],[],0,[],[],[]⟩,l0,(.ex 0),Z3 l w2))],[]⟩ GP (fun z=>(aL Cell.enc l (aI (eP (pl:=ak 75) (Z2 l) (Z5 l) (Z6 n l) n _ (.inl w2) gt1) z))) (by kernel_rfl)
 ·
  obtain rfl:=aK h
  exact kP ⟨rM,[rV 1 [(6,(vI (l.length:Int)))]],[],[(2,(⟨[0,5,6,7],[],0,[],[],[]⟩,l0,.ret,Z4 l w2))],[]⟩ GP (fun z=>(aL Cell.enc l (aI (eP (pl:=ak 75) (Z2 l) (Z5 l) (Z6 n l) n _ (.inr w2) gt1) z))) (by kernel_rfl)

def qc:List (Nat×PT):=[]
theorem nv:ay (ak 65) qc (aj Tryz.prog 65)=true:=by kernel_rfl
theorem mj (n:Nat) (kind:Int) (r:Int) (h:jd n kind=some r):ax Tryz.prog 65 [(vI kind)] (eF ((vU r))):=by
 unfold jd at h
 rcases ap h with ⟨h1,h⟩ | ⟨h1,h⟩
 ·
  obtain rfl:=aK h
  exact kP (nA qc [rV 1 [(5,vT)]]) nv (fun z=>(aB h1 z)) (by kernel_rfl)
 rcases ap h with ⟨h2,h⟩ | ⟨h2,h⟩
 ·
  obtain rfl:=aK h
  exact kP (nA qc [rV 1 [(5,vF),(8,vT)]]) nv (fun z=>(aB h1 (aB h2 z))) (by kernel_rfl)
 have Jn:=fun (R:Prop) (z:R)=>(aB h1 (aB h2 z))
 let e5_:LR:=[rV 1 [(5,vF),(8,vF)]]
 rcases ap h with ⟨h3,h⟩ | ⟨h3,h⟩
 ·
  obtain rfl:=aK h
  exact kP (nA qc (e5_++[rV 3 [(10,(vI 0))]])) nv (fun z=>(Jn _ (aE .i64 h3 z))) (by kernel_rfl)
 rcases ap h with ⟨h3,h⟩ | ⟨h3,h⟩
 ·
  obtain rfl:=aK h
  exact kP (nA qc (e5_++[rV 3 [(10,(vI 1))]])) nv (fun z=>(Jn _ (aE .i64 h3 z))) (by kernel_rfl)
 rcases ap h with ⟨h3,h⟩ | ⟨h3,h⟩
 ·
  obtain rfl:=aK h
  exact kP (nA qc (e5_++[rV 3 [(10,(vI 2))]])) nv (fun z=>(Jn _ (aE .i64 h3 z))) (by kernel_rfl)
 rcases ap h with ⟨h3,h⟩ | ⟨h3,h⟩
 ·
  obtain rfl:=aK h
  exact kP (nA qc (e5_++[rV 3 [(10,(vI 3))]])) nv (fun z=>(Jn _ (aE .i64 h3 z))) (by kernel_rfl)
 rcases ap h with ⟨h3,h⟩ | ⟨h3,h⟩
 ·
  obtain rfl:=aK h
  exact kP (nA qc (e5_++[rV 3 [(10,(vI 4))]])) nv (fun z=>(Jn _ (aE .i64 h3 z))) (by kernel_rfl)
 rcases ap h with ⟨h3,h⟩ | ⟨h3,h⟩
 ·
  obtain rfl:=aK h
  exact kP (nA qc (e5_++[rV 3 [(10,(vI 5))]])) nv (fun z=>(Jn _ (aE .i64 h3 z))) (by kernel_rfl)
 rcases ap h with ⟨h3,h⟩ | ⟨h3,h⟩
 ·
  obtain rfl:=aK h
  exact kP (nA qc (e5_++[rV 3 [(10,(vI 6))]])) nv (fun z=>(Jn _ (aE .i64 h3 z))) (by kernel_rfl)
 cases h

def oX:List (Nat×PT):=[(6,(ew [0,1,2,3,4,5,6,7,8]))]
theorem Aj:ay (ak 130) oX (aj Tryz.prog 130)=true:=by kernel_rfl
noncomputable def Z7:Code:=sub (aj Tryz.prog 130) [1,1,0,1,0,0]
theorem Z8:ay (ak 130) oX Z7=true:=by kernel_rfl
def Z9 (s1_:(List Int)) (s2_:(List Int)) (sa:Int):St:=bg 26 [(0,.sl (s1_.map eI)),(1,.sl (s2_.map eI)),(12,(vI (s1_.length:Int))),(13,(vI sa))] [] [] 0
def QN (s1_:(List Int)) (s2_:(List Int)) (tt:Unit):St:=bg 26 [] [] [] 0
def QO (s1_:(List Int)) (s2_:(List Int)) (tt:Unit):St:=bg 26 [(4,vF)] [] [] 0
def PD (s1_:(List Int)) (s2_:(List Int)) (t0:(Unit⊕Unit)):Ex×St:=match t0 with | .inl tt=>(.ex 0,QN s1_ s2_ tt) | .inr tt=>(.ret,QO s1_ s2_ tt)
theorem QP (n:Nat) (s1_:(List Int)) (s2_:(List Int)):∀ sa r,bk n s1_ s2_ sa=some r→aV Tryz.prog Z7 (Z9 s1_ s2_ sa) (rk (Z9 s1_ s2_) (PD s1_ s2_) r):=by
 intro sa r h
 unfold bk at h
 rcases aD h with ⟨ha1,h⟩ | ⟨ha1,h⟩
 ·
  exact kQ h (nA oX [rV 4 [(14,vF)]]) [wK 2 [] [] 0] Z8 (cG rfl kp) (fun z=>(aB ha1 z)) (by kernel_rfl)
 obtain ⟨xa2,gxa2,h⟩:=ab h
 obtain ⟨xa3,gxa3,h⟩:=ab h
 have c6_:=fun (R:Prop) (z:R)=>(aB ha1 (aM eI gxa2 (aM eI gxa3 z)))
 rcases ap h with ⟨ha4,h⟩ | ⟨ha4,h⟩
 ·
  exact kQ h (nA oX [rV 4 [(14,vT)],(6,⟨[],[],[(18,[(vI xa2)]),(22,[(vI xa3)])],[(24,vT)],[],[],[],[],[]⟩)]) [wK 1 [4] [] 0] Z8 (cG rfl gC) (fun z=>(c6_ _ (aB ha4 z))) (by kernel_rfl)
 exact kQ h (nA oX [rV 4 [(14,vT)],(6,⟨[],[],[(18,[(vI xa2)]),(22,[(vI xa3)])],[(24,vF)],[],[],[],[],[]⟩)]) [wK 0 [0,1,12,13] [] 0] Z8 dx (fun z=>(c6_ _ (aB ha4 z))) (by kernel_rfl)

theorem eL (n:Nat) (s1_:(List Int)) (s2_:(List Int)) (r:Bool) (h:bO n s1_ s2_=some r):ax Tryz.prog 130 [.sl (s1_.map eI),.sl (s2_.map eI)] (eF (.v (.bool r))):=by
 unfold bO at h
 rcases ap h with ⟨h1,h⟩ | ⟨h1,h⟩
 ·
  obtain rfl:=aK h
  exact kP (nA oX [rV 1 [(7,(vI (s1_.length:Int))),(9,(vI (s2_.length:Int))),(10,vT)]]) Aj (fun z=>(aL eI s1_ (aL eI s2_ (aB h1 z)))) (by kernel_rfl)
 obtain ⟨t2,gt2,h⟩:=ab h
 have d0_:AV.v (.int .i64 (((s1_.map eI).length:Nat):Int))=AV.v (.int .i64 (s1_.length:Int)):=rL _ _
 have c7_:=fun (R:Prop) (z:R)=>(aI d0_ (aL eI s2_ (aB h1 (aI d0_ z))))
 rcases t2 with w3 | w3
 ·
  obtain rfl:=aK h
  exact kP ⟨oX,[rV 1 [(7,(vI (s1_.length:Int))),(9,(vI (s2_.length:Int))),(10,vF)],rV 3 [(12,(vI (s1_.length:Int)))]],[],[(4,(⟨[0,1,12,13],[],0,[],[],[]⟩,l0,(.ex 0),QN s1_ s2_ w3))],[]⟩ Aj (fun z=>(c7_ _ (aI (eP (pl:=ak 130) (Z9 s1_ s2_) (PD s1_ s2_) (QP n s1_ s2_) n _ (.inl w3) gt2) z))) (by kernel_rfl)
 ·
  obtain rfl:=aK h
  exact kP ⟨oX,[rV 1 [(7,(vI (s1_.length:Int))),(9,(vI (s2_.length:Int))),(10,vF)],rV 3 [(12,(vI (s1_.length:Int)))]],[],[(4,(⟨[0,1,12,13],[],0,[],[],[]⟩,l0,.ret,QO s1_ s2_ w3))],[]⟩ Aj (fun z=>(c7_ _ (aI (eP (pl:=ak 130) (Z9 s1_ s2_) (PD s1_ s2_) (QP n s1_ s2_) n _ (.inr w3) gt2) z))) (by kernel_rfl)

def GQ:List (Nat×PT):=[]
theorem IF:ay (ak 131) GQ (aj Tryz.prog 131)=true:=by kernel_rfl
theorem mR (n:Nat) (e:Event) (r:aS) (h:iw n e=some r):ax Tryz.prog 131 [(bD Event.enc e)] (eF ((bD aS.enc r))):=by
 unfold iw at h
 obtain rfl:=aK h
 exact kP (nA GQ []) IF (fun z=>z) (by kernel_rfl)

def tj:List (Nat×PT):=[(1,(ew [0,1,2,3,4,5,6,7])),(5,(ew [0,1,2,3,4,5,6,7]))]
theorem rN:ay (ak 100) tj (aj Tryz.prog 100)=true:=by kernel_rfl
theorem wV (n:Nat) (a:Event) (b:Event) (r:Bool) (h:kK n a b=some r):ax Tryz.prog 100 [(bD Event.enc a),(bD Event.enc b)] (eF (.v (.bool r))):=by
 unfold kK at h
 obtain ⟨y1,gy1,h⟩:=ab h
 have c8_:=fun (R:Prop) (z:R)=>(aI (eL n a.Deps.Addr b.Deps.Addr y1 gy1) z)
 rcases ap h with ⟨h2,h⟩ | ⟨h2,h⟩
 ·
  obtain rfl:=aK h
  exact kP (nA tj [bi 2 [(18,vT)] [(16,.v (.bool y1))]]) rN (fun z=>(c8_ _ (aB h2 z))) (by kernel_rfl)
 obtain ⟨y3,gy3,h⟩:=ab h
 have c9_:=fun (R:Prop) (z:R)=>(aB h2 (aI (eL n a.Deps.Data b.Deps.Data y3 gy3) z))
 rcases ap h with ⟨h4,h⟩ | ⟨h4,h⟩
 ·
  obtain rfl:=aK h
  exact kP (nA tj [bi 2 [(18,vF),(26,vT)] [(16,.v (.bool y1)),(23,.v (.bool y3))]]) rN (fun z=>(c8_ _ (c9_ _ (aB h4 z)))) (by kernel_rfl)
 obtain ⟨y5,gy5,h⟩:=ab h
 have c10_:=fun (R:Prop) (z:R)=>(aB h4 (aI (eL n a.Deps.Way b.Deps.Way y5 gy5) z))
 rcases ap h with ⟨h6,h⟩ | ⟨h6,h⟩
 ·
  obtain rfl:=aK h
  exact kP (nA tj [bi 2 [(18,vF),(26,vF),(33,vT)] [(16,.v (.bool y1)),(23,.v (.bool y3)),(31,.v (.bool y5))]]) rN (fun z=>(c8_ _ (c9_ _ (c10_ _ (aB h6 z))))) (by kernel_rfl)
 obtain ⟨y7,gy7,h⟩:=ab h
 obtain ⟨y8,gy8,h⟩:=ab h
 have c11_:=fun (R:Prop) (z:R)=>(aB h6 (aI (mR n a y7 gy7) (aI (mR n b y8 gy8) z)))
 rcases ap h with ⟨h9,h⟩ | ⟨h9,h⟩
 ·
  obtain rfl:=aK h
  exact kP (nA tj [bi 2 [(18,vF),(26,vF),(33,vF)] [(16,.v (.bool y1)),(23,.v (.bool y3)),(31,.v (.bool y5))],(5,⟨[],[40],[],[(40,vT)],[(36,(bD aS.enc y7)),(39,(bD aS.enc y8))],[],[],[],[]⟩)]) rN (fun z=>(c8_ _ (c9_ _ (c10_ _ (c11_ _ (aI ((j0 y7 y8).trans (congrArg (fun b=>some (Value.bool b)) h9):nV Tryz.prog .eql 148 [(.int .i64 y7.hart),(.int .i64 y7.at_),(.int .i64 y7.kind),(.int .i64 y7.pred),(.int .i64 y7.succ),(.int .i64 y7.pair),(.int .u64 y7.addr),(.int .u64 y7.load),(.int .u64 y7.store),(.bool y7.aq),(.bool y7.rl)] [(.int .i64 y8.hart),(.int .i64 y8.at_),(.int .i64 y8.kind),(.int .i64 y8.pred),(.int .i64 y8.succ),(.int .i64 y8.pair),(.int .u64 y8.addr),(.int .u64 y8.load),(.int .u64 y8.store),(.bool y8.aq),(.bool y8.rl)]=some (.bool true)) (aI (rfl:AV.v (.bool true)=AV.v (.bool true)) z))))))) (by kernel_rfl)
 obtain rfl:=aK h
 exact kP (nA tj [bi 2 [(18,vF),(26,vF),(33,vF)] [(16,.v (.bool y1)),(23,.v (.bool y3)),(31,.v (.bool y5))],(5,⟨[],[40],[],[(40,vF)],[(36,(bD aS.enc y7)),(39,(bD aS.enc y8))],[],[],[],[]⟩)]) rN (fun z=>(c8_ _ (c9_ _ (c10_ _ (c11_ _ (aI ((j0 y7 y8).trans (congrArg (fun b=>some (Value.bool b)) h9):nV Tryz.prog .eql 148 [(.int .i64 y7.hart),(.int .i64 y7.at_),(.int .i64 y7.kind),(.int .i64 y7.pred),(.int .i64 y7.succ),(.int .i64 y7.pair),(.int .u64 y7.addr),(.int .u64 y7.load),(.int .u64 y7.store),(.bool y7.aq),(.bool y7.rl)] [(.int .i64 y8.hart),(.int .i64 y8.at_),(.int .i64 y8.kind),(.int .i64 y8.pred),(.int .i64 y8.succ),(.int .i64 y8.pair),(.int .u64 y8.addr),(.int .u64 y8.load),(.int .u64 y8.store),(.bool y8.aq),(.bool y8.rl)]=some (.bool false)) (aI (rfl:AV.v (.bool false)=AV.v (.bool false)) z))))))) (by kernel_rfl)

def qV:List (Nat×PT):=[]
theorem D8:ay (ak 132) qV (aj Tryz.prog 132)=true:=by kernel_rfl
noncomputable def QQ:Code:=sub (aj Tryz.prog 132) [1,1,0,1,0,0]
theorem PE:ay (ak 132) qV QQ=true:=by kernel_rfl
def Pk (l:(List Int)) (sa:Int×Int):St:=bg 17 [(3,(vI sa.1)),(6,.sl (l.map eI)),(7,(vI (l.length:Int))),(8,(vI sa.2))] [] [] 0
def QR (l:(List Int)) (tt:Unit):St:=bg 17 [] [] [] 0
def QS (l:(List Int)) (tt:Unit):St:=bg 17 [(2,vF)] [] [] 0
def PF (l:(List Int)) (t0:(Unit⊕Unit)):Ex×St:=match t0 with | .inl tt=>(.ex 0,QR l tt) | .inr tt=>(.ret,QS l tt)
theorem QT (n:Nat) (l:(List Int)):∀ sa r,cI n l sa=some r→aV Tryz.prog QQ (Pk l sa) (rk (Pk l) (PF l) r):=by
 intro sa r h
 unfold cI at h
 rcases aD h with ⟨ha1,h⟩ | ⟨ha1,h⟩
 ·
  exact kQ h (nA qV [rV 3 [(9,vF)]]) [wK 2 [] [] 0] PE (cG rfl kp) (fun z=>(aB ha1 z)) (by kernel_rfl)
 obtain ⟨xa2,gxa2,h⟩:=ab h
 have c12_:=fun (R:Prop) (z:R)=>(aB ha1 (aM eI gxa2 z))
 rcases ap h with ⟨ha3,h⟩ | ⟨ha3,h⟩
 ·
  exact kQ h (nA qV [rV 3 [(9,vT)],rR 4 [(10,[(vI xa2)])],rV 5 [(14,vT)]]) [wK 1 [2] [] 0] PE (cG rfl gC) (fun z=>(c12_ _ (aB ha3 z))) (by kernel_rfl)
 exact kQ h (nA qV [rV 3 [(9,vT)],rR 4 [(10,[(vI xa2)])],rV 5 [(14,vF)]]) [wK 0 [3,6,7,8] [] 0] PE dx (fun z=>(c12_ _ (aB ha3 z))) (by kernel_rfl)

theorem tk (n:Nat) (l:(List Int)) (r:Bool) (h:iy n l=some r):ax Tryz.prog 132 [.sl (l.map eI)] (eF (.v (.bool r))):=by
 unfold iy at h
 obtain ⟨t1,gt1,h⟩:=ab h
 rcases t1 with w2 | w2
 ·
  obtain rfl:=aK h
  exact kP ⟨qV,[rV 2 [(7,(vI (l.length:Int)))]],[],[(3,(⟨[3,6,7,8],[],0,[],[],[]⟩,l0,(.ex 0),QR l w2))],[]⟩ D8 (fun z=>(aL eI l (aI (eP (pl:=ak 132) (Pk l) (PF l) (QT n l) n _ (.inl w2) gt1) z))) (by kernel_rfl)
 ·
  obtain rfl:=aK h
  exact kP ⟨qV,[rV 2 [(7,(vI (l.length:Int)))]],[],[(3,(⟨[3,6,7,8],[],0,[],[],[]⟩,l0,.ret,QS l w2))],[]⟩ D8 (fun z=>(aL eI l (aI (eP (pl:=ak 132) (Pk l) (PF l) (QT n l) n _ (.inr w2) gt1) z))) (by kernel_rfl)

def Ak:List (Nat×PT):=[]
theorem Al:ay (ak 101) Ak (aj Tryz.prog 101)=true:=by kernel_rfl
theorem eA (n:Nat) (l:(List Int)) (at_:Int) (r:Bool) (h:dL n l at_=some r):ax Tryz.prog 101 [.sl (l.map eI),(vI at_)] (eF (.v (.bool r))):=by
 unfold dL at h
 obtain ⟨y1,gy1,h⟩:=ab h
 have c13_:=fun (R:Prop) (z:R)=>(aI (tk n l y1 gy1) z)
 rcases aD h with ⟨h2,h⟩ | ⟨h2,h⟩
 ·
  obtain rfl:=aK h
  exact kP (nA Ak [bi 1 [(7,vF)] [(6,.v (.bool y1))]]) Al (fun z=>(c13_ _ (aB h2 z))) (by kernel_rfl)
 have c14_:=fun (R:Prop) (z:R)=>(aB h2 (aL eI l z))
 rcases ap h with ⟨h3,h⟩ | ⟨h3,h⟩
 ·
  obtain rfl:=aK h
  exact kP (nA Ak [bi 1 [(7,vT),(9,(vI (l.length:Int))),(11,vT)] [(6,.v (.bool y1))]]) Al (fun z=>(c13_ _ (c14_ _ (aB h3 z)))) (by kernel_rfl)
 obtain ⟨x4,gx4,h⟩:=ab h
 obtain rfl:=aK h
 exact kP (nA Ak [(1,⟨[],[],[(16,[(vI x4)])],[(7,vT),(9,(vI (l.length:Int))),(11,vF),(14,(vI (l.length:Int)))],[(6,.v (.bool y1))],[],[],[],[]⟩)]) Al (fun z=>(c13_ _ (c14_ _ (aB h3 (aL eI l (aM eI gx4 z)))))) (by kernel_rfl)

def cZ:List (Nat×PT):=[(5,(ew [0,1,2,3,4,5,6,7])),(6,(ew [0,1,2,3,4,5,6,7,8,9,10])),(10,(ew [0,1,2,3,4,5,6,7,8])),(12,(ew [0,1,2,3,4,5,6,7]))]
theorem GR:ay (ak 87) cZ (aj Tryz.prog 87)=true:=by kernel_rfl
noncomputable def PG:Code:=sub (aj Tryz.prog 87) [1,1,1,1,1]
noncomputable def PH:Code:=sub PG [1]
noncomputable def PI:Code:=sub PH [1]
noncomputable def PK:Code:=sub PI [1]
noncomputable def QU:Code:=sub PK [1]
theorem za:ay (ak 87) cZ QU=true:=by kernel_rfl
def RV (e:Event) (y1:Int) (sf:Int×(List Int)×(List Int)×(List Int)×Int×Int×Int×Bool×Bool×Int×Int):St:=bg 134 [(1,.ptr (.L 1) 0 0),(3,(vU y1)),(4,.ptr (.L 4) 0 0),(5,.ptr (.L 5) 0 0)] [(5,[(vI e.Hart),(vI e.At),(vI e.Kind),(vU sf.2.2.2.2.1),(vU sf.2.2.2.2.2.1),(vU sf.2.2.2.2.2.2.1),.v (.bool sf.2.2.2.2.2.2.2.1),.v (.bool sf.2.2.2.2.2.2.2.2.1),(vI sf.2.2.2.2.2.2.2.2.2.1),(vI sf.2.2.2.2.2.2.2.2.2.2),(vI sf.1),.sl (sf.2.1.map eI),.sl (sf.2.2.1.map eI),.sl (sf.2.2.2.1.map eI)]),(4,(Deps.enc e.Deps)),(1,(Event.enc e))] [] 0
def PL (e:Event) (y1:Int) (tt:Int):St:=bg 134 [(2,(vI tt))] [] [] 0
def RX (e:Event) (y1:Int) (tt:Int):Ex×St:=(.ret,PL e y1 tt)
theorem QV (n:Nat) (e:Event) (y1:Int):∀ sf t,dh n e y1 sf=some t→aV Tryz.prog QU (RV e y1 sf) (pk (RX e y1) t):=by
 intro sf t h
 unfold dh at h
 rcases ap h with ⟨hf1,h⟩ | ⟨hf1,h⟩
 ·
  exact kQ h (nA cZ [rV 15 [(67,vT)]]) [wK 1 [2] [5,4,1] 0] za (ko rfl) (fun z=>(aB hf1 z)) (by kernel_rfl)
 let e15_:LR:=[rV 15 [(67,vF)]]
 rcases ap h with ⟨hf2,h⟩ | ⟨hf2,h⟩
 ·
  exact kQ h (nA cZ (e15_++[rV 16 [(67,vT)]])) [wK 1 [2] [5,4,1] 0] za (ko rfl) (fun z=>(aB hf1 (aB hf2 z))) (by kernel_rfl)
 have c16_:=fun (R:Prop) (z:R)=>(aB hf1 (aB hf2 z))
 let e17_:LR:=[rV 16 [(67,vF)]]
 rcases ap h with ⟨hf3,h⟩ | ⟨hf3,h⟩
 ·
  exact kQ h (nA cZ (e15_++(e17_++[rV 17 [(67,vT)]]))) [wK 1 [2] [5,4,1] 0] za (ko rfl) (fun z=>(c16_ _ (aB hf3 z))) (by kernel_rfl)
 let e18_:LR:=[rV 17 [(67,vF)]]
 rcases ap h with ⟨hf4,h⟩ | ⟨hf4,h⟩
 ·
  exact kQ h (nA cZ (e15_++(e17_++(e18_++[rV 18 [(67,vT)]])))) [wK 1 [2] [5,4,1] 0] za (ko rfl) (fun z=>(c16_ _ (aB hf3 (aB hf4 z)))) (by kernel_rfl)
 obtain ⟨yf5,gyf5,h⟩:=ab h
 have c19_:=fun (R:Prop) (z:R)=>(aB hf3 (aB hf4 (aI (wV n (Event.mk e.Hart e.At e.Kind sf.2.2.2.2.1 sf.2.2.2.2.2.1 sf.2.2.2.2.2.2.1 sf.2.2.2.2.2.2.2.1 sf.2.2.2.2.2.2.2.2.1 sf.2.2.2.2.2.2.2.2.2.1 sf.2.2.2.2.2.2.2.2.2.2 sf.1 (Deps.mk sf.2.1 sf.2.2.1 sf.2.2.2.1)) e yf5 gyf5) z)))
 let e20_:LR:=[rV 18 [(67,vF)]]
 rcases ap h with ⟨hf6,h⟩ | ⟨hf6,h⟩
 ·
  exact kQ h (nA cZ (e15_++(e17_++(e18_++(e20_++[bi 19 [(67,vT)] [(81,.v (.bool yf5))]]))))) [wK 1 [2] [5,4,1] 0] za (ko rfl) (fun z=>(c16_ _ (c19_ _ (aB hf6 z)))) (by kernel_rfl)
 let e21_:LR:=[bi 19 [(67,vF)] [(81,.v (.bool yf5))]]
 rcases ap h with ⟨hf7,h⟩ | ⟨hf7,h⟩
 ·
  exact kQ h (nA cZ (e15_++(e17_++(e18_++(e20_++(e21_++[rV 21 [(83,vT)]])))))) [wK 1 [2] [5,4,1] 0] za (ko rfl) (fun z=>(c16_ _ (c19_ _ (aB hf6 (aB hf7 z))))) (by kernel_rfl)
 have c22_:=fun (R:Prop) (z:R)=>(aB hf6 (aB hf7 z))
 let e23_:LR:=[rV 21 [(83,vF)]]
 rcases ap h with ⟨hf8,h⟩ | ⟨hf8,h⟩
 ·
  exact kQ h (nA cZ (e15_++(e17_++(e18_++(e20_++(e21_++(e23_++[rV 22 [(83,vT)]]))))))) [wK 1 [2] [5,4,1] 0] za (ko rfl) (fun z=>(c16_ _ (c19_ _ (c22_ _ (aB hf8 z))))) (by kernel_rfl)
 let e24_:LR:=[rV 22 [(83,vF)]]
 rcases ap h with ⟨hf9,h⟩ | ⟨hf9,h⟩
 ·
  exact kQ h (nA cZ (e15_++(e17_++(e18_++(e20_++(e21_++(e23_++(e24_++[rV 23 [(83,vT)]])))))))) [wK 1 [2] [5,4,1] 0] za (ko rfl) (fun z=>(c16_ _ (c19_ _ (c22_ _ (aB hf8 (aB hf9 z)))))) (by kernel_rfl)
 have c25_:=fun (R:Prop) (z:R)=>(aB hf8 (aB hf9 z))
 let e26_:LR:=[rV 23 [(83,vF)]]
 rcases ap h with ⟨hf10,h⟩ | ⟨hf10,h⟩
 ·
  exact kQ h (nA cZ (e15_++(e17_++(e18_++(e20_++(e21_++(e23_++(e24_++(e26_++[rV 24 [(83,vT)]]))))))))) [wK 1 [2] [5,4,1] 0] za (ko rfl) (fun z=>(c16_ _ (c19_ _ (c22_ _ (c25_ _ (aB hf10 z)))))) (by kernel_rfl)
 let e27_:LR:=[rV 24 [(83,vF)]]
 rcases ap h with ⟨hf11,h⟩ | ⟨hf11,h⟩
 ·
  exact kQ h (nA cZ (e15_++(e17_++(e18_++(e20_++(e21_++(e23_++(e24_++(e26_++(e27_++[rV 25 [(83,vT)]])))))))))) [wK 1 [2] [5,4,1] 0] za (ko rfl) (fun z=>(c16_ _ (c19_ _ (c22_ _ (c25_ _ (aB hf10 (aB hf11 z))))))) (by kernel_rfl)
 have c28_:=fun (R:Prop) (z:R)=>(aB hf10 (aB hf11 z))
 let e29_:LR:=[rV 25 [(83,vF)]]
 rcases aD h with ⟨hf12,h⟩ | ⟨hf12,h⟩
 ·
  obtain ⟨yf13,gyf13,h⟩:=ab h
  have c36_:=fun (R:Prop) (z:R)=>(aB hf12 (aI (eA n e.Deps.Addr e.At yf13 gyf13) z))
  let e37_:LR:=[rV 27 [(104,vF)]]
  rcases ap h with ⟨hf14,h⟩ | ⟨hf14,h⟩
  ·
   exact kQ h (nA cZ (e15_++(e17_++(e18_++(e20_++(e21_++(e23_++(e24_++(e26_++(e27_++(e29_++(e37_++[bi 28 [(100,vT)] [(120,.v (.bool yf13))]])))))))))))) [wK 1 [2] [5,4,1] 0] za (ko rfl) (fun z=>(c16_ _ (c19_ _ (c22_ _ (c25_ _ (c28_ _ (c36_ _ (aB hf14 z)))))))) (by kernel_rfl)
  obtain ⟨yf15,gyf15,h⟩:=ab h
  have c38_:=fun (R:Prop) (z:R)=>(aB hf14 (aI (eA n e.Deps.Data e.At yf15 gyf15) z))
  let e39_:LR:=[bi 28 [(100,vF)] [(120,.v (.bool yf13))]]
  rcases ap h with ⟨hf16,h⟩ | ⟨hf16,h⟩
  ·
   exact kQ h (nA cZ (e15_++(e17_++(e18_++(e20_++(e21_++(e23_++(e24_++(e26_++(e27_++(e29_++(e37_++(e39_++[bi 29 [(100,vT)] [(126,.v (.bool yf15))]]))))))))))))) [wK 1 [2] [5,4,1] 0] za (ko rfl) (fun z=>(c16_ _ (c19_ _ (c22_ _ (c25_ _ (c28_ _ (c36_ _ (c38_ _ (aB hf16 z))))))))) (by kernel_rfl)
  obtain ⟨yf17,gyf17,h⟩:=ab h
  have c40_:=fun (R:Prop) (z:R)=>(aB hf16 (aI (eA n e.Deps.Way e.At yf17 gyf17) z))
  rcases ap h with ⟨hf18,h⟩ | ⟨hf18,h⟩
  ·
   exact kQ h (nA cZ (e15_++(e17_++(e18_++(e20_++(e21_++(e23_++(e24_++(e26_++(e27_++(e29_++(e37_++(e39_++[bi 29 [(100,vF)] [(126,.v (.bool yf15))],bi 30 [(100,vT)] [(132,.v (.bool yf17))]]))))))))))))) [wK 1 [2] [5,4,1] 0] za (ko rfl) (fun z=>(c16_ _ (c19_ _ (c22_ _ (c25_ _ (c28_ _ (c36_ _ (c38_ _ (c40_ _ (aB hf18 z)))))))))) (by kernel_rfl)
  exact kQ h (nA cZ (e15_++(e17_++(e18_++(e20_++(e21_++(e23_++(e24_++(e26_++(e27_++(e29_++(e37_++(e39_++[bi 29 [(100,vF)] [(126,.v (.bool yf15))],bi 30 [(100,vF)] [(132,.v (.bool yf17))]]))))))))))))) [wK 1 [2] [5,4,1] 0] za (ko rfl) (fun z=>(c16_ _ (c19_ _ (c22_ _ (c25_ _ (c28_ _ (c36_ _ (c38_ _ (c40_ _ (aB hf18 z)))))))))) (by kernel_rfl)
 rcases ap h with ⟨hf13,h⟩ | ⟨hf13,h⟩
 ·
  exact kQ h (nA cZ (e15_++(e17_++(e18_++(e20_++(e21_++(e23_++(e24_++(e26_++(e27_++(e29_++[rV 27 [(104,vT),(108,vT)]]))))))))))) [wK 1 [2] [5,4,1] 0] za (ko rfl) (fun z=>(c16_ _ (c19_ _ (c22_ _ (c25_ _ (c28_ _ (aB hf12 (aB hf13 z)))))))) (by kernel_rfl)
 have c30_:=fun (R:Prop) (z:R)=>(aB hf12 (aB hf13 z))
 rcases ap h with ⟨hf14,h⟩ | ⟨hf14,h⟩
 ·
  exact kQ h (nA cZ (e15_++(e17_++(e18_++(e20_++(e21_++(e23_++(e24_++(e26_++(e27_++(e29_++[rV 27 [(100,vT),(104,vT),(108,vF)]]))))))))))) [wK 1 [2] [5,4,1] 0] za (ko rfl) (fun z=>(c16_ _ (c19_ _ (c22_ _ (c25_ _ (c28_ _ (c30_ _ (aB hf14 z)))))))) (by kernel_rfl)
 obtain ⟨yf15,gyf15,h⟩:=ab h
 have c31_:=fun (R:Prop) (z:R)=>(aB hf14 (aI (eA n e.Deps.Addr e.At yf15 gyf15) z))
 let e32_:LR:=[rV 27 [(100,vF),(104,vT),(108,vF)]]
 rcases ap h with ⟨hf16,h⟩ | ⟨hf16,h⟩
 ·
  exact kQ h (nA cZ (e15_++(e17_++(e18_++(e20_++(e21_++(e23_++(e24_++(e26_++(e27_++(e29_++(e32_++[bi 28 [(100,vT)] [(120,.v (.bool yf15))]])))))))))))) [wK 1 [2] [5,4,1] 0] za (ko rfl) (fun z=>(c16_ _ (c19_ _ (c22_ _ (c25_ _ (c28_ _ (c30_ _ (c31_ _ (aB hf16 z))))))))) (by kernel_rfl)
 obtain ⟨yf17,gyf17,h⟩:=ab h
 have c33_:=fun (R:Prop) (z:R)=>(aB hf16 (aI (eA n e.Deps.Data e.At yf17 gyf17) z))
 let e34_:LR:=[bi 28 [(100,vF)] [(120,.v (.bool yf15))]]
 rcases ap h with ⟨hf18,h⟩ | ⟨hf18,h⟩
 ·
  exact kQ h (nA cZ (e15_++(e17_++(e18_++(e20_++(e21_++(e23_++(e24_++(e26_++(e27_++(e29_++(e32_++(e34_++[bi 29 [(100,vT)] [(126,.v (.bool yf17))]]))))))))))))) [wK 1 [2] [5,4,1] 0] za (ko rfl) (fun z=>(c16_ _ (c19_ _ (c22_ _ (c25_ _ (c28_ _ (c30_ _ (c31_ _ (c33_ _ (aB hf18 z)))))))))) (by kernel_rfl)
 obtain ⟨yf19,gyf19,h⟩:=ab h
 have c35_:=fun (R:Prop) (z:R)=>(aB hf18 (aI (eA n e.Deps.Way e.At yf19 gyf19) z))
 rcases ap h with ⟨hf20,h⟩ | ⟨hf20,h⟩
 ·
  exact kQ h (nA cZ (e15_++(e17_++(e18_++(e20_++(e21_++(e23_++(e24_++(e26_++(e27_++(e29_++(e32_++(e34_++[bi 29 [(100,vF)] [(126,.v (.bool yf17))],bi 30 [(100,vT)] [(132,.v (.bool yf19))]]))))))))))))) [wK 1 [2] [5,4,1] 0] za (ko rfl) (fun z=>(c16_ _ (c19_ _ (c22_ _ (c25_ _ (c28_ _ (c30_ _ (c31_ _ (c33_ _ (c35_ _ (aB hf20 z))))))))))) (by kernel_rfl)
 exact kQ h (nA cZ (e15_++(e17_++(e18_++(e20_++(e21_++(e23_++(e24_++(e26_++(e27_++(e29_++(e32_++(e34_++[bi 29 [(100,vF)] [(126,.v (.bool yf17))],bi 30 [(100,vF)] [(132,.v (.bool yf19))]]))))))))))))) [wK 1 [2] [5,4,1] 0] za (ko rfl) (fun z=>(c16_ _ (c19_ _ (c22_ _ (c25_ _ (c28_ _ (c30_ _ (c31_ _ (c33_ _ (c35_ _ (aB hf20 z))))))))))) (by kernel_rfl)

theorem QW:ay (ak 87) cZ PK=true:=by kernel_rfl
def RY (e:Event) (y1:Int) (se:(List Int)×(List Int)×(List Int)×Int×Int×Int×Bool×Bool×Int×Int):St:=bg 134 [(1,.ptr (.L 1) 0 0),(3,(vU y1)),(4,.ptr (.L 4) 0 0),(5,.ptr (.L 5) 0 0)] [(5,[(vI e.Hart),(vI e.At),(vI e.Kind),(vU se.2.2.2.1),(vU se.2.2.2.2.1),(vU se.2.2.2.2.2.1),.v (.bool se.2.2.2.2.2.2.1),.v (.bool se.2.2.2.2.2.2.2.1),(vI se.2.2.2.2.2.2.2.2.1),(vI se.2.2.2.2.2.2.2.2.2),(vI 0),.sl (se.1.map eI),.sl (se.2.1.map eI),.sl (se.2.2.1.map eI)]),(4,(Deps.enc e.Deps)),(1,(Event.enc e))] [] 0
def PM (e:Event) (y1:Int) (tt:Int):St:=bg 134 [(2,(vI tt))] [] [] 0
def RZ (e:Event) (y1:Int) (tt:Int):Ex×St:=(.ret,PM e y1 tt)
theorem QX (n:Nat) (e:Event) (y1:Int):∀ se t,dV n e y1 se=some t→aV Tryz.prog PK (RY e y1 se) (pk (RZ e y1) t):=by
 intro se t h
 unfold dV at h
 rcases ap h with ⟨he1,h⟩ | ⟨he1,h⟩
 ·
  obtain ⟨te2,gte2,h⟩:=ab h
  exact kQ h ⟨cZ,[rV 13 [(63,vT)]],[],[],[(15,(⟨[1,3,4,5],[],0,[],[],[]⟩,l0,.ret,PL e y1 te2))]⟩ [wK 1 [2] [] 0] QW (ko rfl) (fun z=>(aB he1 (aI (QV n e y1 _ te2 gte2) z))) (by kernel_rfl)
 obtain ⟨te2,gte2,h⟩:=ab h
 exact kQ h ⟨cZ,[rV 13 [(63,vF)]],[],[],[(15,(⟨[1,3,4,5],[],0,[],[],[]⟩,l0,.ret,PL e y1 te2))]⟩ [wK 1 [2] [] 0] QW (ko rfl) (fun z=>(aB he1 (aI (QV n e y1 _ te2 gte2) z))) (by kernel_rfl)

theorem QY:ay (ak 87) cZ PI=true:=by kernel_rfl
def R0 (e:Event) (y1:Int) (sd:(List Int)×(List Int)×(List Int)×Int×Int×Int×Int×Int):St:=bg 134 [(1,.ptr (.L 1) 0 0),(3,(vU y1)),(4,.ptr (.L 4) 0 0),(5,.ptr (.L 5) 0 0)] [(5,[(vI e.Hart),(vI e.At),(vI e.Kind),(vU sd.2.2.2.1),(vU sd.2.2.2.2.1),(vU sd.2.2.2.2.2.1),vF,vF,(vI sd.2.2.2.2.2.2.1),(vI sd.2.2.2.2.2.2.2),(vI 0),.sl (sd.1.map eI),.sl (sd.2.1.map eI),.sl (sd.2.2.1.map eI)]),(4,(Deps.enc e.Deps)),(1,(Event.enc e))] [] 0
def PN (e:Event) (y1:Int) (tt:Int):St:=bg 134 [(2,(vI tt))] [] [] 0
def R1 (e:Event) (y1:Int) (tt:Int):Ex×St:=(.ret,PN e y1 tt)
theorem QZ (n:Nat) (e:Event) (y1:Int):∀ sd t,dW n e y1 sd=some t→aV Tryz.prog PI (R0 e y1 sd) (pk (R1 e y1) t):=by
 intro sd t h
 unfold dW at h
 rcases ap h with ⟨hd1,h⟩ | ⟨hd1,h⟩
 ·
  obtain ⟨td2,gtd2,h⟩:=ab h
  exact kQ h ⟨cZ,[rV 11 [(54,vT)]],[],[],[(13,(⟨[1,3,4,5],[],0,[],[],[]⟩,l0,.ret,PM e y1 td2))]⟩ [wK 1 [2] [] 0] QY (ko rfl) (fun z=>(aB hd1 (aI (QX n e y1 _ td2 gtd2) z))) (by kernel_rfl)
 obtain ⟨td2,gtd2,h⟩:=ab h
 exact kQ h ⟨cZ,[rV 11 [(54,vF)]],[],[],[(13,(⟨[1,3,4,5],[],0,[],[],[]⟩,l0,.ret,PM e y1 td2))]⟩ [wK 1 [2] [] 0] QY (ko rfl) (fun z=>(aB hd1 (aI (QX n e y1 _ td2 gtd2) z))) (by kernel_rfl)

theorem Q1:ay (ak 87) cZ PH=true:=by kernel_rfl
def R2 (e:Event) (y1:Int) (sb:(List Int)×(List Int)×Int×Int×Int×Int):St:=bg 134 [(1,.ptr (.L 1) 0 0),(3,(vU y1)),(4,.ptr (.L 4) 0 0),(5,.ptr (.L 5) 0 0)] [(5,[(vI e.Hart),(vI e.At),(vI e.Kind),(vU sb.2.2.1),(vU sb.2.2.2.1),(vU 0),vF,vF,(vI sb.2.2.2.2.1),(vI sb.2.2.2.2.2),(vI 0),.sl (sb.1.map eI),.nilsl,.sl (sb.2.1.map eI)]),(4,(Deps.enc e.Deps)),(1,(Event.enc e))] [] 0
def PO (e:Event) (y1:Int) (tt:Int):St:=bg 134 [(2,(vI tt))] [] [] 0
def R3 (e:Event) (y1:Int) (tt:Int):Ex×St:=(.ret,PO e y1 tt)
theorem Q2 (n:Nat) (e:Event) (y1:Int):∀ sb t,dX n e y1 sb=some t→aV Tryz.prog PH (R2 e y1 sb) (pk (R3 e y1) t):=by
 intro sb t h
 unfold dX at h
 rcases ap h with ⟨hb1,h⟩ | ⟨hb1,h⟩
 ·
  obtain ⟨tb2,gtb2,h⟩:=ab h
  exact kQ h ⟨cZ,[rV 9 [(44,vT)]],[],[],[(11,(⟨[1,3,4,5],[],0,[],[],[]⟩,l0,.ret,PN e y1 tb2))]⟩ [wK 1 [2] [] 0] Q1 (ko rfl) (fun z=>(aB hb1 (aI (QZ n e y1 _ tb2 gtb2) z))) (by kernel_rfl)
 obtain ⟨tb2,gtb2,h⟩:=ab h
 exact kQ h ⟨cZ,[rV 9 [(44,vF)]],[],[],[(11,(⟨[1,3,4,5],[],0,[],[],[]⟩,⟨[],[(5,[(vI e.Hart),(vI e.At),(vI e.Kind),(vU sb.2.2.1),(vU sb.2.2.2.1),(vU 0),vF,vF,(vI sb.2.2.2.2.1),(vI sb.2.2.2.2.2),(vI 0),.sl (sb.1.map eI),.sl (([]:List Int).map eI),.sl (sb.2.1.map eI)])],[]⟩,.ret,PN e y1 tb2))]⟩ [wK 1 [2] [] 0] Q1 (ko rfl) (fun z=>(aB hb1 (aI ((aT.cons (aG.refl _) (aT.cons (aG.refl _) (aT.cons (aG.refl _) (aT.cons (aG.refl _) (aT.cons (aG.refl _) (aT.cons (aG.refl _) (aT.cons (aG.refl _) (aT.cons (aG.refl _) (aT.cons (aG.refl _) (aT.cons (aG.refl _) (aT.cons (aG.refl _) (aT.cons (aG.refl _) (aT.cons aG.nil (aT.cons (aG.refl _) aT.nil)))))))))))))):aT [(vI e.Hart),(vI e.At),(vI e.Kind),(vU sb.2.2.1),(vU sb.2.2.2.1),(vU 0),vF,vF,(vI sb.2.2.2.2.1),(vI sb.2.2.2.2.2),(vI 0),.sl (sb.1.map eI),.nilsl,.sl (sb.2.1.map eI)] [(vI e.Hart),(vI e.At),(vI e.Kind),(vU sb.2.2.1),(vU sb.2.2.2.1),(vU 0),vF,vF,(vI sb.2.2.2.2.1),(vI sb.2.2.2.2.2),(vI 0),.sl (sb.1.map eI),.sl (([]:List Int).map eI),.sl (sb.2.1.map eI)]) (aI (QZ n e y1 _ tb2 gtb2) z)))) (by kernel_rfl)

theorem Q3:ay (ak 87) cZ PG=true:=by kernel_rfl
def R4 (e:Event) (y1:Int) (sa:(List Int)×(List Int)×Int×Int×Int):St:=bg 134 [(1,.ptr (.L 1) 0 0),(3,(vU y1)),(4,.ptr (.L 4) 0 0),(5,.ptr (.L 5) 0 0)] [(5,[(vI e.Hart),(vI e.At),(vI e.Kind),(vU sa.2.2.1),(vU 0),(vU 0),vF,vF,(vI sa.2.2.2.1),(vI sa.2.2.2.2),(vI 0),.sl (sa.1.map eI),.nilsl,.sl (sa.2.1.map eI)]),(4,(Deps.enc e.Deps)),(1,(Event.enc e))] [] 0
def PP (e:Event) (y1:Int) (tt:Int):St:=bg 134 [(2,(vI tt))] [] [] 0
def R5 (e:Event) (y1:Int) (tt:Int):Ex×St:=(.ret,PP e y1 tt)
theorem Q4 (n:Nat) (e:Event) (y1:Int):∀ sa t,dY n e y1 sa=some t→aV Tryz.prog PG (R4 e y1 sa) (pk (R5 e y1) t):=by
 intro sa t h
 unfold dY at h
 rcases ap h with ⟨ha1,h⟩ | ⟨ha1,h⟩
 ·
  obtain ⟨ta2,gta2,h⟩:=ab h
  exact kQ h ⟨cZ,[rV 7 [(38,vT)]],[],[],[(9,(⟨[1,3,4,5],[],0,[],[],[]⟩,l0,.ret,PO e y1 ta2))]⟩ [wK 1 [2] [] 0] Q3 (ko rfl) (fun z=>(aB ha1 (aI (Q2 n e y1 _ ta2 gta2) z))) (by kernel_rfl)
 obtain ⟨ta2,gta2,h⟩:=ab h
 exact kQ h ⟨cZ,[rV 7 [(38,vF)]],[],[],[(9,(⟨[1,3,4,5],[],0,[],[],[]⟩,l0,.ret,PO e y1 ta2))]⟩ [wK 1 [2] [] 0] Q3 (ko rfl) (fun z=>(aB ha1 (aI (Q2 n e y1 _ ta2 gta2) z))) (by kernel_rfl)

theorem uM (n:Nat) (e:Event) (r:Int) (h:g9 n e=some r):ax Tryz.prog 87 [(bD Event.enc e)] (eF ((vI r))):=by
 unfold g9 at h
 obtain ⟨y1,gy1,h⟩:=ab h
 have c41_:=fun (R:Prop) (z:R)=>(aI (mj n e.Kind y1 gy1) z)
 rcases aD h with ⟨h2,h⟩ | ⟨h2,h⟩
 ·
  obtain ⟨t3,gt3,h⟩:=ab h
  obtain rfl:=aK h
  exact kP ⟨cZ,[bi 1 [] [(8,(vU y1))],rV 4 [(20,vF)]],[],[],[(7,(⟨[1,3,4,5],[],0,[],[],[]⟩,l0,.ret,PP e y1 t3))]⟩ GR (fun z=>(c41_ _ (aB h2 (aI (Q4 n e y1 _ t3 gt3) z)))) (by kernel_rfl)
 obtain ⟨t3,gt3,h⟩:=ab h
 obtain rfl:=aK h
 exact kP ⟨cZ,[bi 1 [] [(8,(vU y1))],rV 4 [(20,vT)]],[],[],[(7,(⟨[1,3,4,5],[],0,[],[],[]⟩,⟨[],[(5,[(vI e.Hart),(vI e.At),(vI e.Kind),(vU 0),(vU 0),(vU 0),vF,vF,(vI e.Pred),(vI e.Succ),(vI 0),.sl (([]:List Int).map eI),.nilsl,.sl (([]:List Int).map eI)])],[]⟩,.ret,PP e y1 t3))]⟩ GR (fun z=>(c41_ _ (aB h2 (aI ((aT.cons (aG.refl _) (aT.cons (aG.refl _) (aT.cons (aG.refl _) (aT.cons (aG.refl _) (aT.cons (aG.refl _) (aT.cons (aG.refl _) (aT.cons (aG.refl _) (aT.cons (aG.refl _) (aT.cons (aG.refl _) (aT.cons (aG.refl _) (aT.cons (aG.refl _) (aT.cons aG.nil (aT.cons (aG.refl _) (aT.cons aG.nil aT.nil)))))))))))))):aT [(vI e.Hart),(vI e.At),(vI e.Kind),(vU 0),(vU 0),(vU 0),vF,vF,(vI e.Pred),(vI e.Succ),(vI 0),.nilsl,.nilsl,.nilsl] [(vI e.Hart),(vI e.At),(vI e.Kind),(vU 0),(vU 0),(vU 0),vF,vF,(vI e.Pred),(vI e.Succ),(vI 0),.sl (([]:List Int).map eI),.nilsl,.sl (([]:List Int).map eI)]) (aI (Q4 n e y1 _ t3 gt3) z))))) (by kernel_rfl)

def mS:List (Nat×PT):=[(11,(ew [0,1,2,3,4,5,6,7,8,9,10,11,12,13]))]
theorem GT:ay (ak 76) mS (aj Tryz.prog 76)=true:=by kernel_rfl
noncomputable def Q5:Code:=sub (aj Tryz.prog 76) [1,1,0,1,0,0]
theorem IG:ay (ak 76) mS Q5=true:=by kernel_rfl
def Pl (hart:Int) (l:(List Event)) (sa:Int×Int):St:=bg 52 [(0,(vI hart)),(1,.sl (l.map Event.enc)),(5,(vI sa.2)),(8,.sl (l.map Event.enc)),(9,(vI (l.length:Int))),(10,(vI sa.1))] [] [] 0
def Q6 (hart:Int) (l:(List Event)) (tt:Unit):St:=bg 52 [] [] [] 0
def Q7 (hart:Int) (l:(List Event)) (tt:Unit):St:=bg 52 [(4,(vI 4))] [] [] 0
def PR (hart:Int) (l:(List Event)) (t0:(Unit⊕Unit)):Ex×St:=match t0 with | .inl tt=>(.ex 0,Q6 hart l tt) | .inr tt=>(.ret,Q7 hart l tt)
theorem Q8 (n:Nat) (hart:Int) (l:(List Event)):∀ sa r,iz n hart l sa=some r→aV Tryz.prog Q5 (Pl hart l sa) (rk (Pl hart l) (PR hart l) r):=by
 intro sa r h
 unfold iz at h
 rcases aD h with ⟨ha1,h⟩ | ⟨ha1,h⟩
 ·
  exact kQ h (nA mS [rV 3 [(11,vF)]]) [wK 2 [] [] 0] IG (cG rfl kp) (fun z=>(aB ha1 z)) (by kernel_rfl)
 obtain ⟨xa2,gxa2,h⟩:=ab h
 obtain ⟨ya3,gya3,h⟩:=ab h
 have c42_:=fun (R:Prop) (z:R)=>(aB ha1 (aM Event.enc gxa2 (aI (uM n xa2 ya3 gya3) z)))
 let e43_:LR:=[rV 3 [(11,vT)],rR 4 [(13,(Event.enc xa2))]]
 rcases ap h with ⟨ha4,h⟩ | ⟨ha4,h⟩
 ·
  exact kQ h (nA mS (e43_++[bi 5 [(18,vT)] [(16,(vI ya3))]])) [wK 1 [4] [7] 0] IG (cG rfl gC) (fun z=>(c42_ _ (aB ha4 z))) (by kernel_rfl)
 rcases ap h with ⟨ha5,h⟩ | ⟨ha5,h⟩
 ·
  exact kQ h (nA mS (e43_++[bi 5 [(18,vF),(24,vT)] [(16,(vI ya3))]])) [wK 1 [4] [7] 0] IG (cG rfl gC) (fun z=>(c42_ _ (aB ha4 (aB ha5 z)))) (by kernel_rfl)
 have c44_:=fun (R:Prop) (z:R)=>(aB ha4 (aB ha5 z))
 rcases ap h with ⟨ha6,h⟩ | ⟨ha6,h⟩
 ·
  exact kQ h (nA mS (e43_++[bi 5 [(18,vF),(24,vF),(29,vT)] [(16,(vI ya3))]])) [wK 1 [4] [7] 0] IG (cG rfl gC) (fun z=>(c42_ _ (c44_ _ (aB ha6 z)))) (by kernel_rfl)
 let e45_:LR:=[bi 5 [(18,vF),(24,vF),(29,vF)] [(16,(vI ya3))]]
 rcases ap h with ⟨ha7,h⟩ | ⟨ha7,h⟩
 ·
  exact kQ h (nA mS (e43_++(e45_++[rV 8 [(32,vT)]]))) [wK 0 [0,1,5,8,9,10] [7] 0] IG dx (fun z=>(c42_ _ (c44_ _ (aB ha6 (aB ha7 z))))) (by kernel_rfl)
 have c46_:=fun (R:Prop) (z:R)=>(aB ha6 (aB ha7 z))
 let e47_:LR:=[rV 8 [(32,vF)]]
 rcases aD h with ⟨ha8,h⟩ | ⟨ha8,h⟩
 ·
  exact kQ h (nA mS (e43_++(e45_++(e47_++[rV 10 [(35,vF)]])))) [wK 0 [0,1,5,8,9,10] [7] 0] IG dx (fun z=>(c42_ _ (c44_ _ (c46_ _ (aB ha8 z))))) (by kernel_rfl)
 let e48_:LR:=[rV 10 [(35,vT)]]
 rcases ap h with ⟨ha9,h⟩ | ⟨ha9,h⟩
 ·
  exact kQ h (nA mS (e43_++(e45_++(e47_++(e48_++[rV 11 [(41,vT)]]))))) [wK 1 [4] [7] 0] IG (cG rfl gC) (fun z=>(c42_ _ (c44_ _ (c46_ _ (aB ha8 (aB ha9 z)))))) (by kernel_rfl)
 obtain ⟨xa10,gxa10,h⟩:=ab h
 have c49_:=fun (R:Prop) (z:R)=>(aB ha8 (aB ha9 (aM Event.enc gxa10 z)))
 rcases ap h with ⟨ha11,h⟩ | ⟨ha11,h⟩
 ·
  exact kQ h (nA mS (e43_++(e45_++(e47_++(e48_++[(11,⟨[],[],[(44,(Event.enc xa10))],[(41,vF),(50,vT)],[],[],[],[],[]⟩)]))))) [wK 1 [4] [7] 0] IG (cG rfl gC) (fun z=>(c42_ _ (c44_ _ (c46_ _ (c49_ _ (aB ha11 z)))))) (by kernel_rfl)
 exact kQ h (nA mS (e43_++(e45_++(e47_++(e48_++[(11,⟨[],[],[(44,(Event.enc xa10))],[(41,vF),(50,vF)],[],[],[],[],[]⟩)]))))) [wK 0 [0,1,5,8,9,10] [7] 0] IG dx (fun z=>(c42_ _ (c44_ _ (c46_ _ (c49_ _ (aB ha11 z)))))) (by kernel_rfl)

theorem xV (n:Nat) (hart:Int) (l:(List Event)) (r:Int) (h:g_ n hart l=some r):ax Tryz.prog 76 [(vI hart),.sl (l.map Event.enc)] (eF ((vI r))):=by
 unfold g_ at h
 obtain ⟨t1,gt1,h⟩:=ab h
 rcases t1 with w2 | w2
 ·
  obtain rfl:=aK h
  exact kP ⟨mS,[rV 2 [(9,(vI (l.length:Int)))]],[],[(3,(⟨[0,1,5,8,9,10],[],0,[],[],[]⟩,l0,(.ex 0),Q6 hart l w2))],[]⟩ GT (fun z=>(aL Event.enc l (aI (eP (pl:=ak 76) (Pl hart l) (PR hart l) (Q8 n hart l) n _ (.inl w2) gt1) z))) (by kernel_rfl)
 ·
  obtain rfl:=aK h
  exact kP ⟨mS,[rV 2 [(9,(vI (l.length:Int)))]],[],[(3,(⟨[0,1,5,8,9,10],[],0,[],[],[]⟩,l0,.ret,Q7 hart l w2))],[]⟩ GT (fun z=>(aL Event.enc l (aI (eP (pl:=ak 76) (Pl hart l) (PR hart l) (Q8 n hart l) n _ (.inr w2) gt1) z))) (by kernel_rfl)

def C7:List (Nat×PT):=[]
theorem D9:ay (ak 102) C7 (aj Tryz.prog 102)=true:=by kernel_rfl
def dS (n_:Int) (y0:((Nat×Nat×Nat×(List Event))⊕Unit)):AV×List Ob:=match y0 with | .inl y=>(.msl 0 y.1 y.2.1 y.2.2.1,[.arr true 14 (y.2.2.2.map Event.enc)]) | .inr y=>(.nilsl,[])
theorem dq (n:Nat) (n_:Int) (y:((Nat×Nat×Nat×(List Event))⊕Unit)) (h:bF n n_=some y):SD Tryz.prog 102 [.nilsl,(vI n_)] [] (fun r' o'=>r'=(dS n_ y).1∧o'=(dS n_ y).2):=by
 unfold bF at h
 rcases ap h with ⟨h1,h⟩ | ⟨h1,h⟩
 ·
  cases h
 rcases aD h with ⟨h2,h⟩ | ⟨h2,h⟩
 ·
  obtain rfl:=aK h
  exact kS (nA C7 [rV 1 [(6,vF)],rV 4 [(16,vF)]]) D9 ⟨rfl,rfl⟩ (fun z=>(aB h1 (aB h2 z))) (by kernel_rfl)
 obtain ⟨h3,h⟩:=ep h
 obtain ⟨h4,h⟩:=ep h
 obtain rfl:=aK h
 exact kS ⟨C7,[rV 1 [(6,vF)],rV 4 [(16,vT)],(5,⟨[],[22,25],[],[(25,.msl 0 0 0 (((cj .i64 n_ 0)).toNat))],[],[],[],[],[]⟩)],[(5,⟨[],[],[(0,(List.replicate ((cj .i64 n_ 0)).toNat (Event.mk 0 0 0 0 0 0 false false 0 0 0 (Deps.mk ([]:List Int) ([]:List Int) ([]:List Int)))).map Event.enc)]⟩)],[],[]⟩ D9 ⟨rfl,rfl⟩ (fun z=>(aB h1 (aB h2 (aI h3 (aI ((by rw [List.length_replicate]; exact h4):(decide ((0:Int)≤0)&&decide (0≤(((List.replicate ((cj .i64 n_ 0)).toNat ([(vI 0),(vI 0),(vI 0),(vU 0),(vU 0),(vU 0),vF,vF,(vI 0),(vI 0),(vI 0),.nilsl,.nilsl,.nilsl]:List AV)).length:Nat):Int)))=true) (aI (Ix _ _ _ _ _ _:AV.msl 0 0 (0 - 0) ((List.replicate ((cj .i64 n_ 0)).toNat ([(vI 0),(vI 0),(vI 0),(vU 0),(vU 0),(vU 0),vF,vF,(vI 0),(vI 0),(vI 0),.nilsl,.nilsl,.nilsl]:List AV)).length - 0)=AV.msl 0 0 0 (((cj .i64 n_ 0)).toNat)) (aI (KC Event.enc _ (aT.cons (aG.refl _) (aT.cons (aG.refl _) (aT.cons (aG.refl _) (aT.cons (aG.refl _) (aT.cons (aG.refl _) (aT.cons (aG.refl _) (aT.cons (aG.refl _) (aT.cons (aG.refl _) (aT.cons (aG.refl _) (aT.cons (aG.refl _) (aT.cons (aG.refl _) (aT.cons aG.nil (aT.cons aG.nil (aT.cons aG.nil aT.nil)))))))))))))):eS (List.replicate ((cj .i64 n_ 0)).toNat ([(vI 0),(vI 0),(vI 0),(vU 0),(vU 0),(vU 0),vF,vF,(vI 0),(vI 0),(vI 0),.nilsl,.nilsl,.nilsl]:List AV)) ((List.replicate ((cj .i64 n_ 0)).toNat (Event.mk 0 0 0 0 0 0 false false 0 0 0 (Deps.mk ([]:List Int) ([]:List Int) ([]:List Int)))).map Event.enc)) z))))))) (by kernel_rfl)

def nJ:List (Nat×PT):=[]
theorem GU:ay (ak 88) nJ (aj Tryz.prog 88)=true:=by kernel_rfl
noncomputable def Q9:Code:=sub (aj Tryz.prog 88) [1,1,0,1,0,0]
noncomputable def Q_:Code:=sub (aj Tryz.prog 88) [1,1,1,1,0,1,0,0]
noncomputable def Ra:Code:=sub (aj Tryz.prog 88) [1,1,1,1,0,1,0,0]
theorem Rb:ay (ak 88) nJ Q9=true:=by kernel_rfl
def PS (slices:(List (List Event))) (sa:Int×Int):St:=bg 36 [(0,.sl (slices.map (cY Event.enc))),(3,(vI sa.2)),(9,.sl (slices.map (cY Event.enc))),(10,(vI (slices.length:Int))),(11,(vI sa.1))] [] [] 0
def PU (slices:(List (List Event))) (tt:Int):St:=bg 36 [(0,.sl (slices.map (cY Event.enc))),(3,(vI tt))] [] [] 0
def Rc (slices:(List (List Event))) (tt:Int):Ex×St:=(.ex 0,PU slices tt)
theorem R6 (n:Nat) (slices:(List (List Event))):∀ sa r,bw n slices sa=some r→aV Tryz.prog Q9 (PS slices sa) (rk (PS slices) (Rc slices) r):=by
 intro sa r h
 unfold bw at h
 rcases aD h with ⟨ha1,h⟩ | ⟨ha1,h⟩
 ·
  exact kQ h (nA nJ [rV 3 [(12,vF)]]) [wK 2 [0,3] [] 0] Rb (cG rfl kp) (fun z=>(aB ha1 z)) (by kernel_rfl)
 obtain ⟨xa2,gxa2,h⟩:=ab h
 have c50_:=fun (R:Prop) (z:R)=>(aB ha1 (aM (cY Event.enc) gxa2 (aL Event.enc xa2 z)))
 rcases ap h with ⟨ha3,h⟩ | ⟨ha3,h⟩
 ·
  cases h
 exact kQ h (nA nJ [rV 3 [(12,vT)],rR 4 [(13,[.sl (xa2.map Event.enc)])],rV 5 [(17,(vI (xa2.length:Int)))],rV 6 [(20,vF)]]) [wK 0 [0,3,9,10,11] [] 0] Rb dx (fun z=>(c50_ _ (aB ha3 z))) (by kernel_rfl)

theorem Re:ay (ak 88) nJ Q_=true:=by kernel_rfl
def PV (slices:(List (List Event))) (wa3:Nat×Nat×Nat×(List Event)) (sa:Nat×Nat×(List Event)×Int):St:=bg 36 [(6,.msl 0 wa3.1 sa.1 sa.2.1),(25,.sl (slices.map (cY Event.enc))),(26,(vI (slices.length:Int))),(27,(vI sa.2.2.2))] [] [.arr true 14 (sa.2.2.1.map Event.enc)] 0
def Rf (slices:(List (List Event))) (wa3:Nat×Nat×Nat×(List Event)) (tt:Nat×Nat×(List Event)):St:=bg 36 [(6,.msl 0 wa3.1 tt.1 tt.2.1)] [] [.arr true 14 (tt.2.2.map Event.enc)] 0
def Rh (slices:(List (List Event))) (wa3:Nat×Nat×Nat×(List Event)) (tt:(Nat×Nat×(List Event))):Ex×St:=(.ex 2,Rf slices wa3 tt)
theorem R7 (n:Nat) (slices:(List (List Event))) (wa3:Nat×Nat×Nat×(List Event)):∀ sa r,bz n slices wa3 sa=some r→aV Tryz.prog Q_ (PV slices wa3 sa) (rk (PV slices wa3) (Rh slices wa3) r):=by
 intro sa r h
 unfold bz at h
 rcases aD h with ⟨ha1,h⟩ | ⟨ha1,h⟩
 ·
  exact kQ h (nA nJ [rV 11 [(28,vF)]]) [wK 4 [6] [] 1] Re (cG rfl kp) (fun z=>(aB ha1 z)) (by kernel_rfl)
 obtain ⟨xa2,gxa2,h⟩:=ab h
 obtain ⟨ha3,h⟩:=ep h
 obtain ⟨ha4,h⟩:=ep h
 exact kQ h (nA nJ [rV 11 [(28,vT)],rR 12 [(29,[.sl (xa2.map Event.enc)])],(13,⟨[],[33],[],[(33,.msl 0 wa3.1 (sa.1 + xa2.length) (sa.2.1 - xa2.length))],[],[],[(33,(0,(sa.2.2.1.take (wa3.1 + sa.1)++(xa2++sa.2.2.1.drop (wa3.1 + sa.1 + xa2.length))).map Event.enc))],[],[]⟩)]) [wK 0 [6,25,26,27] [] 1] Re dx (fun z=>(aB ha1 (aM (cY Event.enc) gxa2 (aI (FJ:cA 14 (xa2.map Event.enc)=true) (aI (D7:aR (xa2.map Event.enc)=true) (aI (Fh ha3:Nat.ble (xa2.map Event.enc).length sa.2.1=true) (aI (Fi ha4:Nat.ble (wa3.1 + sa.1 + sa.2.1) (sa.2.2.1.map Event.enc).length=true) (aI (Iu Event.enc xa2 _ _ _ _:AV.msl 0 wa3.1 (sa.1 + (xa2.map Event.enc).length) (sa.2.1 - (xa2.map Event.enc).length)=AV.msl 0 wa3.1 (sa.1 + xa2.length) (sa.2.1 - xa2.length)) (aI (Iv Event.enc sa.2.2.1 xa2 _:(sa.2.2.1.map Event.enc).take (wa3.1 + sa.1)++((xa2.map Event.enc)++(sa.2.2.1.map Event.enc).drop (wa3.1 + sa.1 + (xa2.map Event.enc).length))=(sa.2.2.1.take (wa3.1 + sa.1)++(xa2++sa.2.2.1.drop (wa3.1 + sa.1 + xa2.length))).map Event.enc) z))))))))) (by kernel_rfl)

theorem Ri:ay (ak 88) nJ Ra=true:=by kernel_rfl
def PW (slices:(List (List Event))) (sa:(List Event)×Int):St:=bg 36 [(6,.mf 0),(25,.sl (slices.map (cY Event.enc))),(26,(vI (slices.length:Int))),(27,(vI sa.2))] [] [.arr true 14 (sa.1.map Event.enc)] 0
def Rj (slices:(List (List Event))) (tt:(List Event)):St:=bg 36 [(6,.mf 0)] [] [.arr true 14 (tt.map Event.enc)] 0
def Rk (slices:(List (List Event))) (tt:((List Event))):Ex×St:=(.ex 2,Rj slices tt)
theorem R8 (n:Nat) (slices:(List (List Event))):∀ sa r,bd n slices sa=some r→aV Tryz.prog Ra (PW slices sa) (rk (PW slices) (Rk slices) r):=by
 intro sa r h
 unfold bd at h
 rcases aD h with ⟨ha1,h⟩ | ⟨ha1,h⟩
 ·
  exact kQ h (nA nJ [rV 11 [(28,vF)]]) [wK 4 [6] [] 1] Ri (cG rfl kp) (fun z=>(aB ha1 z)) (by kernel_rfl)
 obtain ⟨xa2,gxa2,h⟩:=ab h
 obtain ⟨ha3,h⟩:=ep h
 exact kQ h (nA nJ [rV 11 [(28,vT)],rR 12 [(29,[.sl (xa2.map Event.enc)])],(13,⟨[],[33],[],[],[],[],[(33,(0,(sa.1++xa2).map Event.enc))],[],[]⟩)]) [wK 0 [6,25,26,27] [] 1] Ri dx (fun z=>(aB ha1 (aM (cY Event.enc) gxa2 (aI (FJ:cA 14 (xa2.map Event.enc)=true) (aI (D7:aR (xa2.map Event.enc)=true) (aI (Fj ha3:Nat.ble (((sa.1.map Event.enc).length + (xa2.map Event.enc).length) * 152) 140737488355328=true) (aI (lV Event.enc sa.1 xa2) z))))))) (by kernel_rfl)

theorem dr (n:Nat) (slices:(List (List Event))) (r:(List Event)) (h:aW n slices=some r):ax Tryz.prog 88 [.sl (slices.map (cY Event.enc))] (eF (.sl (r.map Event.enc))):=by
 unfold aW at h
 obtain ⟨t1,gt1,h⟩:=ab h
 obtain ⟨y2,gy2,h⟩:=ab h
 have c51_:=fun (R:Prop) (z:R)=>(aL (cY Event.enc) slices (aI (eP (pl:=ak 88) (PS slices) (Rc slices) (R6 n slices) n _ t1 gt1) z))
 rcases y2 with wa3 | wb3
 ·
  obtain ⟨t4,gt4,h⟩:=ab h
  obtain rfl:=aK h
  exact kP ⟨nJ,[rV 2 [(10,(vI (slices.length:Int)))],(9,⟨[],[],[],[],[],[(24,(.msl 0 wa3.1 wa3.2.1 wa3.2.2.1,[.arr true 14 (wa3.2.2.2.map Event.enc)]))],[],[],[]⟩),rV 10 [(26,(vI (slices.length:Int)))]],[],[(3,(⟨[0,3,9,10,11],[],0,[],[],[]⟩,l0,(.ex 0),PU slices t1)),(11,(⟨[6,25,26,27],[],1,[],[],[]⟩,l0,(.ex 2),Rf slices wa3 t4))],[]⟩ GU (fun z=>(c51_ _ (aI (dq n t1 (.inl wa3) gy2) (aL (cY Event.enc) slices (aI (eP (pl:=ak 88) (PV slices wa3) (Rh slices wa3) (R7 n slices wa3) n _ t4 gt4) ((KB Event.enc t4.2.2 _ _):aG (.sl (((t4.2.2.map Event.enc).drop wa3.1).take t4.1)) (.sl (((t4.2.2.drop wa3.1).take t4.1).map Event.enc)))))))) (by kernel_rfl)
 ·
  obtain ⟨t4,gt4,h⟩:=ab h
  obtain rfl:=aK h
  exact kP ⟨nJ,[rV 2 [(10,(vI (slices.length:Int)))],(9,⟨[],[],[],[],[],[(24,(.nilsl,[]))],[],[],[]⟩),rV 10 [(26,(vI (slices.length:Int)))]],[],[(3,(⟨[0,3,9,10,11],[],0,[],[],[]⟩,l0,(.ex 0),PU slices t1)),(11,(⟨[6,25,26,27],[],0,[(6,14)],[],[]⟩,l0,(.ex 2),Rj slices t4))],[]⟩ GU (fun z=>(c51_ _ (aI (dq n t1 (.inr wb3) gy2) (aL (cY Event.enc) slices (aI (eP (pl:=ak 88) (PW slices) (Rk slices) (R8 n slices) n _ t4 gt4) z))))) (by kernel_rfl)

def JS:List (Nat×PT):=[]
theorem KL:ay (ak 77) JS (aj Tryz.prog 77)=true:=by kernel_rfl
def qd (oA:(List Cell)) (oB:(List (List Event))) (oC:(List Int)) (oD:(List Int)) (y:(List Event)):AV×List Ob:=(.sl (y.map Event.enc),[.arr true 4 [[.sl (oA.map Cell.enc),.sl (oB.map (cY Event.enc)),.sl (oC.map eI),.sl (oD.map eI)]]])
theorem nK (n:Nat) (oA:(List Cell)) (oB:(List (List Event))) (oC:(List Int)) (oD:(List Int)) (y:(List Event)) (h:hG n oA oB oC oD=some y):SD Tryz.prog 77 [.ptr (.O 0) 0 0] [.arr true 4 [[.sl (oA.map Cell.enc),.sl (oB.map (cY Event.enc)),.sl (oC.map eI),.sl (oD.map eI)]]] (fun r' o'=>r'=(qd oA oB oC oD y).1∧o'=(qd oA oB oC oD y).2):=by
 unfold hG at h
 obtain ⟨y1,gy1,h⟩:=ab h
 obtain rfl:=aK h
 exact kS (nA JS [bi 1 [] [(7,.sl (y1.map Event.enc))]]) KL ⟨rfl,rfl⟩ (fun z=>(aI (dr n oB y1 gy1) z)) (by kernel_rfl)

def JU:List (Nat×PT):=[]
theorem KM:ay (ak 46) JU (aj Tryz.prog 46)=true:=by kernel_rfl
theorem bE (n:Nat) (e:Event) (r:Bool) (h:bI n e=some r):ax Tryz.prog 46 [(bD Event.enc e)] (eF (.v (.bool r))):=by
 unfold bI at h
 obtain ⟨y1,gy1,h⟩:=ab h
 obtain rfl:=aK h
 exact kP (nA JU [bi 1 [] [(5,(vU y1))]]) KM (fun z=>(aI (mj n e.Kind y1 gy1) z)) (by kernel_rfl)

def GV:List (Nat×PT):=[]
theorem IH:ay (ak 133) GV (aj Tryz.prog 133)=true:=by kernel_rfl
theorem j1 (n:Nat) (x:Int) (r:Bool) (h:eU n x=some r):ax Tryz.prog 133 [(vU x)] (eF (.v (.bool r))):=by
 unfold eU at h
 obtain rfl:=aK h
 exact kP (nA GV []) IH (fun z=>z) (by kernel_rfl)

def qW:List (Nat×PT):=[]
theorem pL:ay (ak 105) qW (aj Tryz.prog 105)=true:=by kernel_rfl
theorem nw (n:Nat) (x:Int) (y:Int) (r:Int) (h:dZ n x y=some r):ax Tryz.prog 105 [(vU x),(vU y)] (eF ((vI r))):=by
 unfold dZ at h
 obtain ⟨y1,gy1,h⟩:=ab h
 obtain ⟨y2,gy2,h⟩:=ab h
 have c52_:=fun (R:Prop) (z:R)=>(aI (j1 n x y1 gy1) (aI (j1 n y y2 gy2) z))
 let e53_:LR:=[bi 1 [] [(8,.v (.bool y1))],bi 2 [] [(10,.v (.bool y2))]]
 rcases ap h with ⟨h3,h⟩ | ⟨h3,h⟩
 ·
  rcases ap h with ⟨h4,h⟩ | ⟨h4,h⟩
  ·
   obtain rfl:=aK h
   exact kP (nA qW (e53_++[rV 3 [(11,vT)],rV 4 [(12,vT)]])) pL (fun z=>(c52_ _ (aB h3 (aB h4 z)))) (by kernel_rfl)
  obtain rfl:=aK h
  exact kP (nA qW (e53_++[rV 3 [(11,vT)],rV 4 [(12,vF)]])) pL (fun z=>(c52_ _ (aB h3 (aB h4 z)))) (by kernel_rfl)
 let e54_:LR:=[rV 3 [(11,vF)]]
 rcases ap h with ⟨h4,h⟩ | ⟨h4,h⟩
 ·
  obtain rfl:=aK h
  exact kP (nA qW (e53_++(e54_++[rV 7 [(13,vT)]]))) pL (fun z=>(c52_ _ (aB h3 (aB h4 z)))) (by kernel_rfl)
 have c55_:=fun (R:Prop) (z:R)=>(aB h3 (aB h4 z))
 let e56_:LR:=[rV 7 [(13,vF)]]
 rcases ap h with ⟨h5,h⟩ | ⟨h5,h⟩
 ·
  obtain rfl:=aK h
  exact kP (nA qW (e53_++(e54_++(e56_++[rV 9 [(16,vT)]])))) pL (fun z=>(c52_ _ (c55_ _ (aB h5 z)))) (by kernel_rfl)
 rcases ap h with ⟨h6,h⟩ | ⟨h6,h⟩
 ·
  obtain rfl:=aK h
  exact kP (nA qW (e53_++(e54_++(e56_++[rV 9 [(16,vF)],rV 11 [(19,vT)]])))) pL (fun z=>(c52_ _ (c55_ _ (aB h5 (aB h6 z))))) (by kernel_rfl)
 obtain rfl:=aK h
 exact kP (nA qW (e53_++(e54_++(e56_++[rV 9 [(16,vF)],rV 11 [(19,vF)]])))) pL (fun z=>(c52_ _ (c55_ _ (aB h5 (aB h6 z))))) (by kernel_rfl)

def GW:List (Nat×PT):=[]
theorem II:ay (ak 104) GW (aj Tryz.prog 104)=true:=by kernel_rfl
theorem mT (n:Nat) (x:Cell) (a:Int) (r:Int) (h:gf n x a=some r):ax Tryz.prog 104 [(bD Cell.enc x),(vU a)] (eF ((vI r))):=by
 unfold gf at h
 obtain ⟨y1,gy1,h⟩:=ab h
 obtain rfl:=aK h
 exact kP (nA GW [bi 1 [] [(8,(vI y1))]]) II (fun z=>(aI (nw n x.Addr a y1 gy1) z)) (by kernel_rfl)

def qX:List (Nat×PT):=[]
theorem D_:ay (ak 103) qX (aj Tryz.prog 103)=true:=by kernel_rfl
noncomputable def Rm:Code:=sub (aj Tryz.prog 103) [1,1,1,0,0,0]
theorem PX:ay (ak 103) qX Rm=true:=by kernel_rfl
def PY (x:(List Cell)) (target:Int) (sa:Int×Int):St:=bg 49 [(0,.sl (x.map Cell.enc)),(1,(vU target)),(2,.fn 104 [] []),(8,(vI (x.length:Int))),(9,(vI sa.2)),(10,(vI sa.1))] [] [] 0
def PZ (x:(List Cell)) (target:Int) (tt:Int):St:=bg 49 [(0,.sl (x.map Cell.enc)),(1,(vU target)),(2,.fn 104 [] []),(8,(vI (x.length:Int))),(9,(vI tt))] [] [] 0
def Rn (x:(List Cell)) (target:Int) (tt:Int):Ex×St:=(.ex 0,PZ x target tt)
theorem R9 (n:Nat) (x:(List Cell)) (target:Int):∀ sa r,aF n x target sa=some r→aV Tryz.prog Rm (PY x target sa) (rk (PY x target) (Rn x target) r):=by
 intro sa r h
 unfold aF at h
 rcases aD h with ⟨ha1,h⟩ | ⟨ha1,h⟩
 ·
  exact kQ h (nA qX [rV 3 [(17,vF)]]) [wK 2 [0,1,2,8,9] [] 0] PX (cG rfl kp) (fun z=>(aB ha1 z)) (by kernel_rfl)
 obtain ⟨xa2,gxa2,h⟩:=ab h
 obtain ⟨ya3,gya3,h⟩:=ab h
 have c57_:=fun (R:Prop) (z:R)=>(aB ha1 (aM Cell.enc gxa2 (aI (mT n xa2 target ya3 gya3) z)))
 rcases ap h with ⟨ha4,h⟩ | ⟨ha4,h⟩
 ·
  exact kQ h (nA qX [rV 3 [(17,vT)],(5,⟨[],[],[(27,(Cell.enc xa2))],[(31,vT)],[(30,(vI ya3))],[],[],[],[]⟩)]) [wK 0 [0,1,2,8,9,10] [] 0] PX dx (fun z=>(c57_ _ (aB ha4 z))) (by kernel_rfl)
 exact kQ h (nA qX [rV 3 [(17,vT)],(5,⟨[],[],[(27,(Cell.enc xa2))],[(31,vF)],[(30,(vI ya3))],[],[],[],[]⟩)]) [wK 0 [0,1,2,8,9,10] [] 0] PX dx (fun z=>(c57_ _ (aB ha4 z))) (by kernel_rfl)

theorem dJ (n:Nat) (x:(List Cell)) (target:Int) (r:Int×Bool) (h:a8 n x target=some r):ax Tryz.prog 103 [.sl (x.map Cell.enc),(vU target),.fn 104 [] []] (eF (.tup [(vI r.1),.v (.bool r.2)])):=by
 unfold a8 at h
 obtain ⟨t1,gt1,h⟩:=ab h
 have c58_:=fun (R:Prop) (z:R)=>(aL Cell.enc x (aI (eP (pl:=ak 103) (PY x target) (Rn x target) (R9 n x target) n _ t1 gt1) z))
 rcases aD h with ⟨h2,h⟩ | ⟨h2,h⟩
 ·
  obtain rfl:=aK h
  exact kP ⟨qX,[rV 1 [(13,(vI (x.length:Int)))],rV 8 [(39,vF)]],[],[(3,(⟨[0,1,2,8,9,10],[],0,[],[],[]⟩,l0,(.ex 0),PZ x target t1))],[]⟩ D_ (fun z=>(c58_ _ (aB h2 z))) (by kernel_rfl)
 obtain ⟨x3,gx3,h⟩:=ab h
 obtain ⟨y4,gy4,h⟩:=ab h
 obtain rfl:=aK h
 exact kP ⟨qX,[rV 1 [(13,(vI (x.length:Int)))],(8,⟨[],[],[(43,(Cell.enc x3))],[(39,vT)],[(46,(vI y4))],[],[],[],[]⟩)],[],[(3,(⟨[0,1,2,8,9,10],[],0,[],[],[]⟩,l0,(.ex 0),PZ x target t1))],[]⟩ D_ (fun z=>(c58_ _ (aB h2 (aM Cell.enc gx3 (aI (mT n x3 target y4 gy4) z))))) (by kernel_rfl)

def GX:List (Nat×PT):=[]
theorem GY:ay (ak 89) GX (aj Tryz.prog 89)=true:=by kernel_rfl
theorem wW (n:Nat) (l:(List Cell)) (addr:Int) (r:Int) (h:je n l addr=some r):ax Tryz.prog 89 [.sl (l.map Cell.enc),(vU addr)] (eF ((vU r))):=by
 unfold je at h
 obtain ⟨y1,gy1,h⟩:=ab h
 have c59_:=fun (R:Prop) (z:R)=>(aI (dJ n l addr y1 gy1) z)
 rcases ap h with ⟨h2,h⟩ | ⟨h2,h⟩
 ·
  obtain rfl:=aK h
  exact kP (nA GX [bi 1 [] [(10,.tup [(vI y1.1),.v (.bool y1.2)])],rV 2 [(14,vT)]]) GY (fun z=>(c59_ _ (aB h2 z))) (by kernel_rfl)
 obtain ⟨x3,gx3,h⟩:=ab h
 obtain rfl:=aK h
 exact kP (nA GX [bi 1 [] [(10,.tup [(vI y1.1),.v (.bool y1.2)])],rV 2 [(14,vF)],rR 4 [(17,(Cell.enc x3))]]) GY (fun z=>(c59_ _ (aB h2 (aM Cell.enc gx3 z)))) (by kernel_rfl)

def JV:List (Nat×PT):=[]
theorem KN:ay (ak 63) JV (aj Tryz.prog 63)=true:=by kernel_rfl
theorem cq (n:Nat) (e:Event) (r:Bool) (h:ce n e=some r):ax Tryz.prog 63 [(bD Event.enc e)] (eF (.v (.bool r))):=by
 unfold ce at h
 obtain ⟨y1,gy1,h⟩:=ab h
 obtain rfl:=aK h
 exact kP (nA JV [bi 1 [] [(5,(vU y1))]]) KN (fun z=>(aI (mj n e.Kind y1 gy1) z)) (by kernel_rfl)

def rO:List (Nat×PT):=[(1,(ew [0,1,2,3,4,5,6,7,8,9,10,11,12,13])),(5,(ew [0,1,2,3,4,5,6,7,8,9,10]))]
theorem oY:ay (ak 78) rO (aj Tryz.prog 78)=true:=by kernel_rfl
theorem xW (n:Nat) (c:ae) (all:(List Event)) (n_:Int) (r:Bool) (h:hJ n c all n_=some r):ax Tryz.prog 78 [.fptr (ae.enc c) 0,.sl (all.map Event.enc),(vI n_)] (eF (.v (.bool r))):=by
 unfold hJ at h
 obtain ⟨x1,gx1,h⟩:=ab h
 obtain ⟨x2,gx2,h⟩:=ab h
 obtain ⟨y3,gy3,h⟩:=ab h
 have c60_:=fun (R:Prop) (z:R)=>(aM Event.enc gx1 (aM eI gx2 (aI (bE n x1 y3 gy3) z)))
 let e61_:LR:=[rR 1 [(12,(Event.enc x1)),(19,[(vI x2)])]]
 rcases ap h with ⟨h4,h⟩ | ⟨h4,h⟩
 ·
  obtain rfl:=aK h
  exact kP (nA rO (e61_++[bi 2 [(21,vT)] [(23,.v (.bool y3))]])) oY (fun z=>(c60_ _ (aB h4 z))) (by kernel_rfl)
 let e62_:LR:=[bi 2 [(21,vF)] [(23,.v (.bool y3))]]
 rcases ap h with ⟨h5,h⟩ | ⟨h5,h⟩
 ·
  obtain ⟨y6,gy6,h⟩:=ab h
  obtain rfl:=aK h
  exact kP (nA rO (e61_++(e62_++[rV 4 [(27,vT)],bi 5 [] [(38,(vU y6))]]))) oY (fun z=>(c60_ _ (aB h4 (aB h5 (aI (wW n c.First x1.Addr y6 gy6) z))))) (by kernel_rfl)
 have c63_:=fun (R:Prop) (z:R)=>(aB h4 (aB h5 z))
 let e64_:LR:=[rV 4 [(27,vF)]]
 rcases ap h with ⟨h6,h⟩ | ⟨h6,h⟩
 ·
  obtain rfl:=aK h
  exact kP (nA rO (e61_++(e62_++(e64_++[rV 6 [(43,vT)]])))) oY (fun z=>(c60_ _ (c63_ _ (aB h6 z)))) (by kernel_rfl)
 have c65_:=fun (R:Prop) (z:R)=>(aB h6 (aL Event.enc all z))
 rcases ap h with ⟨h7,h⟩ | ⟨h7,h⟩
 ·
  obtain rfl:=aK h
  exact kP (nA rO (e61_++(e62_++(e64_++[rV 6 [(43,vF),(46,(vI (all.length:Int))),(49,vT)]])))) oY (fun z=>(c60_ _ (c63_ _ (c65_ _ (aB h7 z))))) (by kernel_rfl)
 rcases ap h with ⟨h8,h⟩ | ⟨h8,h⟩
 ·
  obtain rfl:=aK h
  exact kP (nA rO (e61_++(e62_++(e64_++[rV 6 [(40,vT),(43,vF),(46,(vI (all.length:Int))),(49,vF)]])))) oY (fun z=>(c60_ _ (c63_ _ (c65_ _ (aB h7 (aB h8 z)))))) (by kernel_rfl)
 obtain ⟨x9,gx9,h⟩:=ab h
 obtain ⟨y10,gy10,h⟩:=ab h
 have c66_:=fun (R:Prop) (z:R)=>(aB h7 (aB h8 (aM Event.enc gx9 (aI (cq n x9 y10 gy10) z))))
 let e67_:LR:=[rV 6 [(40,vF),(43,vF),(46,(vI (all.length:Int))),(49,vF)],rR 8 [(56,(Event.enc x9))]]
 rcases aD h with ⟨h11,h⟩ | ⟨h11,h⟩
 ·
  obtain rfl:=aK h
  exact kP (nA rO (e61_++(e62_++(e64_++(e67_++[bi 9 [(60,vF)] [(59,.v (.bool y10))]]))))) oY (fun z=>(c60_ _ (c63_ _ (c65_ _ (c66_ _ (aB h11 z)))))) (by kernel_rfl)
 rcases ap h with ⟨h12,h⟩ | ⟨h12,h⟩
 ·
  obtain rfl:=aK h
  exact kP (nA rO (e61_++(e62_++(e64_++(e67_++[bi 9 [(60,vT),(67,vT)] [(59,.v (.bool y10))]]))))) oY (fun z=>(c60_ _ (c63_ _ (c65_ _ (c66_ _ (aB h11 (aB h12 z))))))) (by kernel_rfl)
 obtain rfl:=aK h
 exact kP (nA rO (e61_++(e62_++(e64_++(e67_++[bi 9 [(60,vT),(67,vF)] [(59,.v (.bool y10))]]))))) oY (fun z=>(c60_ _ (c63_ _ (c65_ _ (c66_ _ (aB h11 (aB h12 z))))))) (by kernel_rfl)

def GZ:List (Nat×PT):=[]
theorem G0:ay (ak 90) GZ (aj Tryz.prog 90)=true:=by kernel_rfl
theorem jq (n:Nat) (e:Event) (r:Bool) (h:fe n e=some r):ax Tryz.prog 90 [(bD Event.enc e)] (eF (.v (.bool r))):=by
 unfold fe at h
 obtain ⟨y1,gy1,h⟩:=ab h
 have c68_:=fun (R:Prop) (z:R)=>(aI (bE n e y1 gy1) z)
 rcases ap h with ⟨h2,h⟩ | ⟨h2,h⟩
 ·
  obtain rfl:=aK h
  exact kP (nA GZ [bi 1 [(5,vT)] [(4,.v (.bool y1))]]) G0 (fun z=>(c68_ _ (aB h2 z))) (by kernel_rfl)
 obtain ⟨y3,gy3,h⟩:=ab h
 obtain rfl:=aK h
 exact kP (nA GZ [bi 1 [(5,vF)] [(4,.v (.bool y1)),(7,.v (.bool y3))]]) G0 (fun z=>(c68_ _ (aB h2 (aI (cq n e y3 gy3) z)))) (by kernel_rfl)

def mU:List (Nat×PT):=[]
theorem G1:ay (ak 79) mU (aj Tryz.prog 79)=true:=by kernel_rfl
noncomputable def Ro:Code:=sub (aj Tryz.prog 79) [1,1,1,0,1,0,0]
noncomputable def Rp:Code:=sub (aj Tryz.prog 79) [1,1,1,1,0,1,0,0]
theorem P0:ay (ak 79) mU Ro=true:=by kernel_rfl
def P1 (c:ae) (all:(List Event)) (sa:(List Bool)×Int×Int):St:=bg 61 [(0,.fptr (ae.enc c) 0),(5,.mf 0),(6,(vI sa.2.2)),(14,.sl (all.map Event.enc)),(15,(vI (all.length:Int))),(16,(vI sa.2.1))] [] [.arr true 1 (sa.1.map eo)] 0
def P2 (c:ae) (all:(List Event)) (tt:(List Bool)×Int):St:=bg 61 [(0,.fptr (ae.enc c) 0),(5,.mf 0),(6,(vI tt.2))] [] [.arr true 1 (tt.1.map eo)] 0
def Rq (c:ae) (all:(List Event)) (tt:((List Bool)×Int)):Ex×St:=(.ex 0,P2 c all tt)
theorem Sa (n:Nat) (c:ae) (all:(List Event)):∀ sa r,fw n c all sa=some r→aV Tryz.prog Ro (P1 c all sa) (rk (P1 c all) (Rq c all) r):=by
 intro sa r h
 unfold fw at h
 rcases aD h with ⟨ha1,h⟩ | ⟨ha1,h⟩
 ·
  exact kQ h (nA mU [rV 4 [(17,vF)]]) [wK 2 [0,5,6] [] 1] P0 (cG rfl kp) (fun z=>(aB ha1 z)) (by kernel_rfl)
 obtain ⟨xa2,gxa2,h⟩:=ab h
 obtain ⟨ya3,gya3,h⟩:=ab h
 have c69_:=fun (R:Prop) (z:R)=>(aB ha1 (aM Event.enc gxa2 (aI (jq n xa2 ya3 gya3) z)))
 rcases aD h with ⟨ha4,h⟩ | ⟨ha4,h⟩
 ·
  exact kQ h (nA mU [rV 4 [(17,vT)],rR 5 [(19,(Event.enc xa2))],bi 6 [(22,vF)] [(22,.v (.bool ya3))]]) [wK 0 [0,5,6,14,15,16] [8] 1] P0 dx (fun z=>(c69_ _ (aB ha4 z))) (by kernel_rfl)
 obtain ⟨xa5,gxa5,h⟩:=ab h
 exact kQ h (nA mU [rV 4 [(17,vT)],rR 5 [(19,(Event.enc xa2))],bi 6 [(22,vT)] [(22,.v (.bool ya3))],(7,⟨[],[],[(25,[.v (.bool xa5)]),(1000025,[.v (.bool xa5)])],[],[],[],[(1000025,(0,(sa.1.set (sa.2.1).toNat true).map eo))],[],[]⟩)]) [wK 0 [0,5,6,14,15,16] [8] 1] P0 dx (fun z=>(c69_ _ (aB ha4 (aM eo gxa5 (aN eo gxa5 (aI (fO eo sa.1 ((sa.2.1).toNat) true) z)))))) (by kernel_rfl)

theorem MK:ay (ak 79) mU Rp=true:=by kernel_rfl
def Pm (c:ae) (sa:(List Bool)×Int×Int):St:=bg 61 [(5,.mf 0),(6,(vI sa.2.2)),(32,.sl (c.Order.map eI)),(33,(vI (c.Order.length:Int))),(34,(vI sa.2.1))] [] [.arr true 1 (sa.1.map eo)] 0
def Rr (c:ae) (tt:Int):St:=bg 61 [(6,(vI tt))] [] [] 0
def Rs (c:ae) (tt:Unit):St:=bg 61 [(4,vF)] [] [] 0
def P3 (c:ae) (t0:(Int⊕Unit)):Ex×St:=match t0 with | .inl tt=>(.ex 2,Rr c tt) | .inr tt=>(.ret,Rs c tt)
theorem Rt (n:Nat) (c:ae):∀ sa r,fx n c sa=some r→aV Tryz.prog Rp (Pm c sa) (rk (Pm c) (P3 c) r):=by
 intro sa r h
 unfold fx at h
 rcases aD h with ⟨ha1,h⟩ | ⟨ha1,h⟩
 ·
  exact kQ h (nA mU [rV 11 [(35,vF)]]) [wK 4 [6] [] 0] MK (cG rfl kp) (fun z=>(aB ha1 z)) (by kernel_rfl)
 obtain ⟨xa2,gxa2,h⟩:=ab h
 have c70_:=fun (R:Prop) (z:R)=>(aB ha1 (aM eI gxa2 z))
 let e71_:LR:=[rV 11 [(35,vT)],rR 12 [(36,[(vI xa2)])]]
 rcases ap h with ⟨ha3,h⟩ | ⟨ha3,h⟩
 ·
  exact kQ h (nA mU (e71_++[rV 13 [(40,vT)]])) [wK 1 [4] [] 0] MK (cG rfl gC) (fun z=>(c70_ _ (aB ha3 z))) (by kernel_rfl)
 have c72_:=fun (R:Prop) (z:R)=>(aB ha3 (aL eo sa.1 z))
 rcases ap h with ⟨ha4,h⟩ | ⟨ha4,h⟩
 ·
  exact kQ h (nA mU (e71_++[rV 13 [(40,vF),(43,(vI (sa.1.length:Int))),(46,vT)]])) [wK 1 [4] [] 0] MK (cG rfl gC) (fun z=>(c70_ _ (c72_ _ (aB ha4 z)))) (by kernel_rfl)
 obtain ⟨xa5,gxa5,h⟩:=ab h
 have c73_:=fun (R:Prop) (z:R)=>(aB ha4 (aM eo gxa5 (aN eo gxa5 z)))
 rcases ap h with ⟨ha6,h⟩ | ⟨ha6,h⟩
 ·
  exact kQ h (nA mU (e71_++[(13,⟨[],[],[(49,[.v (.bool xa5)]),(50,[.v (.bool xa5)])],[(40,vF),(43,(vI (sa.1.length:Int))),(46,vF),(52,vT)],[],[],[],[],[]⟩)])) [wK 1 [4] [] 0] MK (cG rfl gC) (fun z=>(c70_ _ (c72_ _ (c73_ _ (aB ha6 z))))) (by kernel_rfl)
 exact kQ h (nA mU (e71_++[(13,⟨[],[],[(49,[.v (.bool xa5)]),(50,[.v (.bool xa5)])],[(40,vF),(43,(vI (sa.1.length:Int))),(46,vF),(52,vF)],[],[],[],[],[]⟩),(15,⟨[],[],[(55,[.v (.bool xa5)]),(1000055,[.v (.bool xa5)])],[],[],[],[(1000055,(0,(sa.1.set (xa2).toNat false).map eo))],[],[]⟩)])) [wK 0 [5,6,32,33,34] [] 1] MK dx (fun z=>(c70_ _ (c72_ _ (c73_ _ (aB ha6 (aM eo gxa5 (aN eo gxa5 (aI (fO eo sa.1 ((xa2).toNat) false) z)))))))) (by kernel_rfl)

theorem tl (n:Nat) (c:ae) (all:(List Event)) (r:Bool) (h:dD n c all=some r):ax Tryz.prog 79 [.fptr (ae.enc c) 0,.sl (all.map Event.enc)] (eF (.v (.bool r))):=by
 unfold dD at h
 obtain ⟨h1,h⟩:=ep h
 obtain ⟨t2,gt2,h⟩:=ab h
 obtain ⟨t3,gt3,h⟩:=ab h
 have d0_:AV.v (.int .i64 (((all.map Event.enc).length:Nat):Int))=AV.v (.int .i64 (all.length:Int)):=rL _ _
 have c74_:=fun (R:Prop) (z:R)=>(aI d0_ (aI h1 (aI (lW eo _ false:List.replicate ((all.length:Int)).toNat [vF]=(List.replicate ((all.length:Int)).toNat false).map eo) (aI d0_ (aI (eP (pl:=ak 79) (P1 c all) (Rq c all) (Sa n c all) n _ t2 gt2) (aL eI c.Order z))))))
 rcases t3 with w4 | w4
 ·
  obtain rfl:=aK h
  exact kP ⟨mU,[(1,⟨[],[13],[],[(12,(vI (all.length:Int)))],[],[],[(13,(0,(List.replicate ((all.length:Int)).toNat false).map eo))],[],[]⟩),rV 3 [(15,(vI (all.length:Int)))],rV 10 [(33,(vI (c.Order.length:Int)))]],[],[(4,(⟨[0,5,6,14,15,16],[],1,[],[],[]⟩,l0,(.ex 0),P2 c all t2)),(11,(⟨[5,6,32,33,34],[],1,[],[],[]⟩,l0,(.ex 2),Rr c w4))],[]⟩ G1 (fun z=>(c74_ _ (aI (eP (pl:=ak 79) (Pm c) (P3 c) (Rt n c) n _ (.inl w4) gt3) z))) (by kernel_rfl)
 ·
  obtain rfl:=aK h
  exact kP ⟨mU,[(1,⟨[],[13],[],[(12,(vI (all.length:Int)))],[],[],[(13,(0,(List.replicate ((all.length:Int)).toNat false).map eo))],[],[]⟩),rV 3 [(15,(vI (all.length:Int)))],rV 10 [(33,(vI (c.Order.length:Int)))]],[],[(4,(⟨[0,5,6,14,15,16],[],1,[],[],[]⟩,l0,(.ex 0),P2 c all t2)),(11,(⟨[5,6,32,33,34],[],1,[],[],[]⟩,l0,.ret,Rs c w4))],[]⟩ G1 (fun z=>(c74_ _ (aI (eP (pl:=ak 79) (Pm c) (P3 c) (Rt n c) n _ (.inr w4) gt3) z))) (by kernel_rfl)

def i9:List (Nat×PT):=[]
theorem oZ:ay (ak 60) i9 (aj Tryz.prog 60)=true:=by kernel_rfl
noncomputable def Ru:Code:=sub (aj Tryz.prog 60) [1,1,1,0,1,0,0]
noncomputable def Rv:Code:=sub (aj Tryz.prog 60) [1,1,1,1,1,1,0,1,0,0]
theorem Pn:ay (ak 60) i9 Ru=true:=by kernel_rfl
def Po (c:ae) (sa:Int×Int):St:=bg 64 [(1,.ptr (.O 0) 0 0),(3,(vI sa.2)),(25,.sl (c.Harts.map (cY Event.enc))),(26,(vI (c.Harts.length:Int))),(27,(vI sa.1))] [] [.arr true 4 [(ae.enc c)]] 0
def ML (c:ae) (tt:Int):St:=bg 64 [(1,.ptr (.O 0) 0 0),(3,(vI tt))] [] [.arr true 4 [(ae.enc c)]] 0
def MM (c:ae) (tt:Unit):St:=bg 64 [(2,(vI 2))] [] [] 0
def KO (c:ae) (t0:(Int⊕Unit)):Ex×St:=match t0 with | .inl tt=>(.ex 0,ML c tt) | .inr tt=>(.ret,MM c tt)
theorem MN (n:Nat) (c:ae):∀ sa r,fE n c sa=some r→aV Tryz.prog Ru (Po c sa) (rk (Po c) (KO c) r):=by
 intro sa r h
 unfold fE at h
 rcases aD h with ⟨ha1,h⟩ | ⟨ha1,h⟩
 ·
  exact kQ h (nA i9 [rV 5 [(28,vF)]]) [wK 2 [1,3] [] 1] Pn (cG rfl kp) (fun z=>(aB ha1 z)) (by kernel_rfl)
 obtain ⟨xa2,gxa2,h⟩:=ab h
 have c75_:=fun (R:Prop) (z:R)=>(aB ha1 (aM (cY Event.enc) gxa2 (aL Event.enc xa2 z)))
 let e76_:LR:=[rV 5 [(28,vT)],rR 6 [(30,[.sl (xa2.map Event.enc)])],rV 7 [(34,(vI (xa2.length:Int)))]]
 rcases ap h with ⟨ha3,h⟩ | ⟨ha3,h⟩
 ·
  exact kQ h (nA i9 (e76_++[rV 8 [(38,vT)]])) [wK 1 [2] [] 0] Pn (cG rfl gC) (fun z=>(c75_ _ (aB ha3 z))) (by kernel_rfl)
 obtain ⟨ya4,gya4,h⟩:=ab h
 have c77_:=fun (R:Prop) (z:R)=>(aB ha3 (aI (xV n sa.1 xa2 ya4 gya4) z))
 rcases ap h with ⟨ha5,h⟩ | ⟨ha5,h⟩
 ·
  exact kQ h (nA i9 (e76_++[bi 8 [(38,vF),(43,vT)] [(41,(vI ya4))]])) [wK 1 [2] [] 0] Pn (cG rfl gC) (fun z=>(c75_ _ (c77_ _ (aB ha5 z)))) (by kernel_rfl)
 exact kQ h (nA i9 (e76_++[bi 8 [(38,vF),(43,vF)] [(41,(vI ya4))]])) [wK 0 [1,3,25,26,27] [] 1] Pn dx (fun z=>(c75_ _ (c77_ _ (aB ha5 z)))) (by kernel_rfl)

theorem KP:ay (ak 60) i9 Rv=true:=by kernel_rfl
def IJ (c:ae) (y7:(List Event)) (sa:Int):St:=bg 64 [(1,.ptr (.O 0) 0 0),(6,.sl (y7.map Event.enc)),(52,(vI (y7.length:Int))),(53,(vI sa))] [] [.arr true 4 [(ae.enc c)]] 0
def KQ (c:ae) (y7:(List Event)) (tt:Unit):St:=bg 64 [(1,.ptr (.O 0) 0 0),(6,.sl (y7.map Event.enc))] [] [.arr true 4 [(ae.enc c)]] 0
def MO (c:ae) (y7:(List Event)) (tt:Unit):St:=bg 64 [(2,(vI 2))] [] [] 0
def KR (c:ae) (y7:(List Event)) (t0:(Unit⊕Unit)):Ex×St:=match t0 with | .inl tt=>(.ex 2,KQ c y7 tt) | .inr tt=>(.ret,MO c y7 tt)
theorem MP (n:Nat) (c:ae) (y7:(List Event)):∀ sa r,gK n c y7 sa=some r→aV Tryz.prog Rv (IJ c y7 sa) (rk (IJ c y7) (KR c y7) r):=by
 intro sa r h
 unfold gK at h
 rcases aD h with ⟨ha1,h⟩ | ⟨ha1,h⟩
 ·
  exact kQ h (nA i9 [rV 15 [(54,vF)]]) [wK 4 [1,6] [] 1] KP (cG rfl kp) (fun z=>(aB ha1 z)) (by kernel_rfl)
 obtain ⟨ya2,gya2,h⟩:=ab h
 have c78_:=fun (R:Prop) (z:R)=>(aB ha1 (aI (xW n c y7 sa ya2 gya2) z))
 rcases ap h with ⟨ha3,h⟩ | ⟨ha3,h⟩
 ·
  exact kQ h (nA i9 [rV 15 [(54,vT)],bi 17 [(59,vT)] [(58,.v (.bool ya2))]]) [wK 1 [2] [] 0] KP (cG rfl gC) (fun z=>(c78_ _ (aB ha3 z))) (by kernel_rfl)
 exact kQ h (nA i9 [rV 15 [(54,vT)],bi 17 [(59,vF)] [(58,.v (.bool ya2))]]) [wK 0 [1,6,52,53] [] 1] KP dx (fun z=>(c78_ _ (aB ha3 z))) (by kernel_rfl)

theorem iV (n:Nat) (c:ae) (r:Int) (h:bY n c=some r):ax Tryz.prog 60 [(bD ae.enc c)] (eF ((vI r))):=by
 unfold bY at h
 obtain ⟨y1,gy1,h⟩:=ab h
 have c79_:=fun (R:Prop) (z:R)=>(aI (wU n c.First y1 gy1) z)
 rcases ap h with ⟨h2,h⟩ | ⟨h2,h⟩
 ·
  obtain rfl:=aK h
  exact kP (nA i9 [bi 1 [(12,vT)] [(10,.v (.bool y1))]]) oZ (fun z=>(c79_ _ (aB h2 z))) (by kernel_rfl)
 have c80_:=fun (R:Prop) (z:R)=>(aB h2 (aL (cY Event.enc) c.Harts z))
 rcases ap h with ⟨h3,h⟩ | ⟨h3,h⟩
 ·
  obtain rfl:=aK h
  exact kP (nA i9 [bi 1 [(12,vF),(15,(vI (c.Harts.length:Int))),(18,vT)] [(10,.v (.bool y1))]]) oZ (fun z=>(c79_ _ (c80_ _ (aB h3 z)))) (by kernel_rfl)
 have c81_:=fun (R:Prop) (z:R)=>(aB h3 (aL (cY Event.enc) c.Harts z))
 rcases ap h with ⟨h4,h⟩ | ⟨h4,h⟩
 ·
  obtain rfl:=aK h
  exact kP (nA i9 [bi 1 [(12,vF),(15,(vI (c.Harts.length:Int))),(18,vF),(21,(vI (c.Harts.length:Int))),(23,vT)] [(10,.v (.bool y1))]]) oZ (fun z=>(c79_ _ (c80_ _ (c81_ _ (aB h4 z))))) (by kernel_rfl)
 obtain ⟨t5,gt5,h⟩:=ab h
 have c82_:=fun (R:Prop) (z:R)=>(aB h4 (aL (cY Event.enc) c.Harts z))
 let e83_:LR:=[bi 1 [(12,vF),(15,(vI (c.Harts.length:Int))),(18,vF),(21,(vI (c.Harts.length:Int))),(23,vF)] [(10,.v (.bool y1))]]
 rcases t5 with w6 | w6
 ·
  obtain ⟨y7,gy7,h⟩:=ab h
  have c84_:=fun (R:Prop) (z:R)=>(aI (eP (pl:=ak 60) (Po c) (KO c) (MN n c) n _ (.inl w6) gt5) (aI (nK n c.First c.Harts c.From c.Order y7 gy7) (aL eI c.From z)))
  let e85_:LR:=[rV 4 [(26,(vI (c.Harts.length:Int)))],(11,⟨[],[],[],[],[],[(45,(.sl (y7.map Event.enc),[.arr true 4 [(ae.enc c)]]))],[],[],[]⟩)]
  rcases ap h with ⟨h8,h⟩ | ⟨h8,h⟩
  ·
   obtain rfl:=aK h
   exact kP ⟨i9,(e83_++(e85_++[rV 12 [(48,(vI (c.From.length:Int))),(50,vT)]])),[],[(5,(⟨[1,3,25,26,27],[],1,[],[],[]⟩,l0,(.ex 0),ML c w6))],[]⟩ oZ (fun z=>(c79_ _ (c80_ _ (c81_ _ (c82_ _ (c84_ _ (aB h8 z))))))) (by kernel_rfl)
  obtain ⟨t9,gt9,h⟩:=ab h
  have c86_:=fun (R:Prop) (z:R)=>(aB h8 (aL Event.enc y7 z))
  let e87_:LR:=[rV 12 [(48,(vI (c.From.length:Int))),(50,vF)]]
  rcases t9 with w10 | w10
  ·
   obtain ⟨y11,gy11,h⟩:=ab h
   have c88_:=fun (R:Prop) (z:R)=>(aI (eP (pl:=ak 60) (IJ c y7) (KR c y7) (MP n c y7) n _ (.inl w10) gt9) (aI (tl n c y7 y11 gy11) z))
   rcases ap h with ⟨h12,h⟩ | ⟨h12,h⟩
   ·
    obtain rfl:=aK h
    exact kP ⟨i9,(e83_++(e85_++(e87_++[rV 14 [(52,(vI (y7.length:Int)))],bi 20 [(63,vT)] [(62,.v (.bool y11))]]))),[],[(5,(⟨[1,3,25,26,27],[],1,[],[],[]⟩,l0,(.ex 0),ML c w6)),(15,(⟨[1,6,52,53],[],1,[],[],[]⟩,l0,(.ex 2),KQ c y7 w10))],[]⟩ oZ (fun z=>(c79_ _ (c80_ _ (c81_ _ (c82_ _ (c84_ _ (c86_ _ (c88_ _ (aB h12 z))))))))) (by kernel_rfl)
   obtain rfl:=aK h
   exact kP ⟨i9,(e83_++(e85_++(e87_++[rV 14 [(52,(vI (y7.length:Int)))],bi 20 [(63,vF)] [(62,.v (.bool y11))]]))),[],[(5,(⟨[1,3,25,26,27],[],1,[],[],[]⟩,l0,(.ex 0),ML c w6)),(15,(⟨[1,6,52,53],[],1,[],[],[]⟩,l0,(.ex 2),KQ c y7 w10))],[]⟩ oZ (fun z=>(c79_ _ (c80_ _ (c81_ _ (c82_ _ (c84_ _ (c86_ _ (c88_ _ (aB h12 z))))))))) (by kernel_rfl)
  ·
   obtain rfl:=aK h
   exact kP ⟨i9,(e83_++(e85_++(e87_++[rV 14 [(52,(vI (y7.length:Int)))]]))),[],[(5,(⟨[1,3,25,26,27],[],1,[],[],[]⟩,l0,(.ex 0),ML c w6)),(15,(⟨[1,6,52,53],[],1,[],[],[]⟩,l0,.ret,MO c y7 w10))],[]⟩ oZ (fun z=>(c79_ _ (c80_ _ (c81_ _ (c82_ _ (c84_ _ (c86_ _ (aI (eP (pl:=ak 60) (IJ c y7) (KR c y7) (MP n c y7) n _ (.inr w10) gt9) z)))))))) (by kernel_rfl)
 ·
  obtain rfl:=aK h
  exact kP ⟨i9,(e83_++[rV 4 [(26,(vI (c.Harts.length:Int)))]]),[],[(5,(⟨[1,3,25,26,27],[],1,[],[],[]⟩,l0,.ret,MM c w6))],[]⟩ oZ (fun z=>(c79_ _ (c80_ _ (c81_ _ (c82_ _ (aI (eP (pl:=ak 60) (Po c) (KO c) (MN n c) n _ (.inr w6) gt5) z)))))) (by kernel_rfl)

def JW:List (Nat×PT):=[]
theorem KS:ay (ak 91) JW (aj Tryz.prog 91)=true:=by kernel_rfl
theorem mV (l:List Int) (K:AV→Prop):oP pc sc lp cd (nA JW [(1,⟨[4],[],[],[],[],[],[],[],[]⟩),(3,⟨[],[7],[],[],[],[],[],[],[]⟩)]) 91 [.sl (l.map eI)] K
  = ((l.map eI=[]→K .nilsl)∧(cA 1 (l.map eI)=true)∧(aR (l.map eI)=true)∧(Nat.ble ((l.map eI).length * 8) 140737488355328=true)∧K (.sl (l.map eI))):=by kernel_rfl
theorem eM (n:Nat) (l:List Int) (r:List Int) (h:bP n l=some r):ax Tryz.prog 91 [.sl (l.map eI)] (eF (.sl (r.map eI))):=by
  unfold bP at h
  obtain ⟨h1,h⟩:=ep h
  have e:=Option.some.inj h
  subst e
  exact QL KS (Eq.mpr (mV pP sP lP dP l _) ⟨fun e=>Iw _ e,FJ,D7,lX h1,aG.refl _⟩)
def JX:List (Nat×PT):=[(1,(ew [0,1,2,3,4,5,6,7,8,9,10,11,12,13,14]))]
theorem KT:ay (ak 80) JX (aj Tryz.prog 80)=true:=by kernel_rfl
theorem Am (n:Nat) (e:Event) (r:Event) (h:nS n e=some r):ax Tryz.prog 80 [(bD Event.enc e)] (eF ((bD Event.enc r))):=by
 unfold nS at h
 obtain ⟨y1,gy1,h⟩:=ab h
 obtain ⟨y2,gy2,h⟩:=ab h
 obtain ⟨y3,gy3,h⟩:=ab h
 obtain rfl:=aK h
 exact kP (nA JX [bi 1 [] [(6,.sl (y1.map eI)),(10,.sl (y2.map eI)),(14,.sl (y3.map eI))]]) KT (fun z=>(aI (eM n e.Deps.Addr y1 gy1) (aI (eM n e.Deps.Data y2 gy2) (aI (eM n e.Deps.Way y3 gy3) z)))) (by kernel_rfl)

def zb:List (Nat×PT):=[]
theorem G2:ay (ak 61) zb (aj Tryz.prog 61)=true:=by kernel_rfl
noncomputable def MQ:Code:=sub (aj Tryz.prog 61) [1,1,1,0,1,0,0]
theorem MR:ay (ak 61) zb MQ=true:=by kernel_rfl
def KU (y3:(List Event)) (sa:(List Event)×Int):St:=bg 22 [(3,.mf 0),(9,.sl (y3.map Event.enc)),(10,(vI (y3.length:Int))),(11,(vI sa.2))] [] [.arr true 14 (sa.1.map Event.enc)] 0
def MS (y3:(List Event)) (tt:(List Event)):St:=bg 22 [(3,.mf 0)] [] [.arr true 14 (tt.map Event.enc)] 0
def MU (y3:(List Event)) (tt:((List Event))):Ex×St:=(.ex 0,MS y3 tt)
theorem P4 (n:Nat) (y3:(List Event)):∀ sa r,lC n y3 sa=some r→aV Tryz.prog MQ (KU y3 sa) (rk (KU y3) (MU y3) r):=by
 intro sa r h
 unfold lC at h
 rcases aD h with ⟨ha1,h⟩ | ⟨ha1,h⟩
 ·
  exact kQ h (nA zb [rV 5 [(12,vF)]]) [wK 2 [3] [] 1] MR (cG rfl kp) (fun z=>(aB ha1 z)) (by kernel_rfl)
 obtain ⟨xa2,gxa2,h⟩:=ab h
 obtain ⟨ya3,gya3,h⟩:=ab h
 obtain ⟨ha4,h⟩:=ep h
 exact kQ h (nA zb [rV 5 [(12,vT)],rR 6 [(13,(Event.enc xa2))],(7,⟨[],[19],[],[],[(17,(bD Event.enc ya3))],[],[(19,(0,(sa.1++([ya3]:List Event)).map Event.enc))],[],[]⟩)]) [wK 0 [3,9,10,11] [5] 1] MR dx (fun z=>(aB ha1 (aM Event.enc gxa2 (aI (Am n xa2 ya3 gya3) (aI (rfl:cA 14 [(Event.enc ya3)]=true) (aI (rfl:aR [(Event.enc ya3)]=true) (aI (jp ha4:Nat.ble (((sa.1.map Event.enc).length + 1) * 152) 140737488355328=true) (aI (lV Event.enc sa.1 ([ya3]:List Event)) z)))))))) (by kernel_rfl)

theorem Ao (n:Nat) (c:ae) (r:(List Event)) (h:mt n c=some r):ax Tryz.prog 61 [(bD ae.enc c)] (eF (.sl (r.map Event.enc))):=by
 unfold mt at h
 obtain ⟨y1,gy1,h⟩:=ab h
 have c89_:=fun (R:Prop) (z:R)=>(aI (iV n c y1 gy1) z)
 rcases ap h with ⟨h2,h⟩ | ⟨h2,h⟩
 ·
  obtain rfl:=aK h
  exact kP (nA zb [bi 1 [(8,vT)] [(7,(vI y1))]]) G2 (fun z=>(c89_ _ (aB h2 (aG.nil:aG .nilsl (.sl (([]:List Event).map Event.enc)))))) (by kernel_rfl)
 obtain ⟨y3,gy3,h⟩:=ab h
 obtain ⟨t4,gt4,h⟩:=ab h
 obtain rfl:=aK h
 exact kP ⟨zb,[bi 1 [(8,vF)] [(7,(vI y1))],(4,⟨[],[],[],[(10,(vI (y3.length:Int)))],[],[(9,(.sl (y3.map Event.enc),[.arr true 4 [(ae.enc c)]]))],[],[],[]⟩)],[],[(5,(⟨[3,9,10,11],[],0,[(3,14)],[],[]⟩,l0,(.ex 0),MS y3 t4))],[]⟩ G2 (fun z=>(c89_ _ (aB h2 (aI (nK n c.First c.Harts c.From c.Order y3 gy3) (aL Event.enc y3 (aI (eP (pl:=ak 61) (KU y3) (MU y3) (P4 n y3) n _ t4 gt4) z)))))) (by kernel_rfl)

def G3:List (Nat×PT):=[]
theorem IK:ay (ak 107) G3 (aj Tryz.prog 107)=true:=by kernel_rfl
theorem pO (n:Nat) (x:Int) (y:Int) (r:Int×Int) (h:j7 n x y=some r):ax Tryz.prog 107 [(vU x),(vU y)] (eF (.tup [(vU r.1),(vU r.2)])):=by
 unfold j7 at h
 obtain rfl:=aK h
 exact kP (nA G3 []) IK (fun z=>z) (by kernel_rfl)

def JY:List (Nat×PT):=[]
theorem KV:ay (ak 92) JY (aj Tryz.prog 92)=true:=by kernel_rfl
theorem lY (n:Nat) (x:Int) (y:Int) (r:Int×Int) (h:fF n x y=some r):ax Tryz.prog 92 [(vU x),(vU y)] (eF (.tup [(vU r.1),(vU r.2)])):=by
 unfold fF at h
 obtain ⟨y1,gy1,h⟩:=ab h
 obtain rfl:=aK h
 exact kP (nA JY [bi 3 [] [(25,.tup [(vU y1.1),(vU y1.2)])]]) KV (fun z=>(aI (pO n x y y1 gy1) z)) (by kernel_rfl)

def rP:List (Nat×PT):=[(9,(.go 1 (.go 2 (.go 3 (.go 4 (.go 5 (.go 6 (.alt 0 (ew [7,8,9]) (.alt 7 (ew [0,8,9]) (ew []))))))))))]
theorem G4:ay (ak 81) rP (aj Tryz.prog 81)=true:=by kernel_rfl
noncomputable def MW:Code:=sub (aj Tryz.prog 81) [1,1,1,1,1,1,0,0,0]
theorem MX:ay (ak 81) rP MW=true:=by kernel_rfl
def KW (sa:(List Int)×Int):St:=bg 48 [(7,.mf 0),(8,(vI sa.2))] [] [.arr true 1 (sa.1.map eI)] 0
def MY (tt:(List Int)):St:=bg 48 [(7,.mf 0)] [] [.arr true 1 (tt.map eI)] 0
def MZ (tt:((List Int))):Ex×St:=(.ex 0,MY tt)
theorem P5 (n:Nat):∀ sa r,cD n sa=some r→aV Tryz.prog MW (KW sa) (rk (KW) (MZ) r):=by
 intro sa r h
 unfold cD at h
 rcases aD h with ⟨ha1,h⟩ | ⟨ha1,h⟩
 ·
  exact kQ h (nA rP [rV 8 [(36,(vI (sa.1.length:Int))),(37,vF)]]) [wK 2 [7] [] 1] MX (cG rfl kp) (fun z=>(aL eI sa.1 (aB ha1 z))) (by kernel_rfl)
 obtain ⟨ha2,h⟩:=ep h
 obtain ⟨ha3,h⟩:=ep h
 obtain ⟨ha4,h⟩:=ep h
 have d0_:aR (((sa.1.map eI).drop 0).take ((sa.2).toNat))=true:=(by rw [← List.map_drop,← List.map_take]; exact D7)
 have d1_:Nat.ble ((sa.2).toNat + (sa.1.length - (sa.2).toNat)) (sa.1.map eI).length=true:=(by rw [List.length_map]; exact ha4)
 have d2_:AV.v (.int .i64 ((min (((sa.1.map eI).drop 0).take ((sa.2).toNat)).length (sa.1.length - (sa.2).toNat):Nat):Int))=AV.v (.int .i64 ((min ((sa.1.drop 0).take ((sa.2).toNat)).length (sa.1.length - (sa.2).toNat):Nat):Int)):=(by simp [])
 have d3_:(sa.1.map eI).take ((sa.2).toNat)++((((sa.1.map eI).drop 0).take ((sa.2).toNat)).take (sa.1.length - (sa.2).toNat)++(sa.1.map eI).drop ((sa.2).toNat + min (((sa.1.map eI).drop 0).take ((sa.2).toNat)).length (sa.1.length - (sa.2).toNat)))=(sa.1.take ((sa.2).toNat)++(((sa.1.drop 0).take ((sa.2).toNat)).take (sa.1.length - (sa.2).toNat)++sa.1.drop ((sa.2).toNat + min ((sa.1.drop 0).take ((sa.2).toNat)).length (sa.1.length - (sa.2).toNat)))).map eI:=(by simp [List.map_take,List.map_drop])
 exact kQ h (nA rP [rV 8 [(36,(vI (sa.1.length:Int))),(37,vT)],(9,⟨[],[41,44],[],[(41,.msl 0 ((sa.2).toNat) (sa.1.length - (sa.2).toNat) 0),(44,.msl 0 0 ((sa.2).toNat) (sa.1.length - (sa.2).toNat)),(45,.v (.int .i64 ((min ((sa.1.drop 0).take ((sa.2).toNat)).length (sa.1.length - (sa.2).toNat):Nat):Int)))],[],[],[(45,(0,(sa.1.take ((sa.2).toNat)++(((sa.1.drop 0).take ((sa.2).toNat)).take (sa.1.length - (sa.2).toNat)++sa.1.drop ((sa.2).toNat + min ((sa.1.drop 0).take ((sa.2).toNat)).length (sa.1.length - (sa.2).toNat)))).map eI))],[],[]⟩)]) [wK 0 [7,8] [] 1] MX dx (fun z=>(aL eI sa.1 (aB ha1 (aI (Ah ha2:(decide ((0:Int)≤sa.2)&&decide (sa.2≤(((sa.1.map eI).length:Nat):Int)))=true) (aI (BX eI sa.1 _ _ _ _:AV.msl 0 (sa.2).toNat ((sa.1.map eI).length - (sa.2).toNat) 0=AV.msl 0 ((sa.2).toNat) (sa.1.length - (sa.2).toNat) 0) (aI (Ah ha3:(decide ((0:Int)≤sa.2)&&decide (sa.2≤(((sa.1.map eI).length:Nat):Int)))=true) (aI (D4 eI sa.1 _ _ _ _:AV.msl 0 0 ((sa.2).toNat - 0) ((sa.1.map eI).length - (sa.2).toNat)=AV.msl 0 0 ((sa.2).toNat) (sa.1.length - (sa.2).toNat)) (aI d0_ (aI d1_ (aI d2_ (aI d3_ (aI d0_ (aI d1_ (aI d2_ (aI d3_ (aI (rfl:bg 48 [(7,.mf 0),(8,.v (.int .i64 (af .i64 sa.2 ((min ((sa.1.drop 0).take ((sa.2).toNat)).length (sa.1.length - (sa.2).toNat):Nat):Int)))),(34,(vI sa.2)),(35,.mf 0),(36,(vI (sa.1.length:Int))),(37,vT),(38,(vI sa.2)),(39,.mf 0),(40,(vI sa.2)),(41,.msl 0 ((sa.2).toNat) (sa.1.length - (sa.2).toNat) 0),(42,.mf 0),(43,(vI sa.2)),(44,.msl 0 0 ((sa.2).toNat) (sa.1.length - (sa.2).toNat)),(45,.v (.int .i64 ((min ((sa.1.drop 0).take ((sa.2).toNat)).length (sa.1.length - (sa.2).toNat):Nat):Int))),(46,.v (.int .i64 (af .i64 sa.2 ((min ((sa.1.drop 0).take ((sa.2).toNat)).length (sa.1.length - (sa.2).toNat):Nat):Int))))] [] [.arr true 1 ((sa.1.take ((sa.2).toNat)++(((sa.1.drop 0).take ((sa.2).toNat)).take (sa.1.length - (sa.2).toNat)++sa.1.drop ((sa.2).toNat + min ((sa.1.drop 0).take ((sa.2).toNat)).length (sa.1.length - (sa.2).toNat)))).map eI)] 0=bg 48 [(7,.mf 0),(8,.v (.int .i64 (af .i64 sa.2 ((min ((sa.1.drop 0).take ((sa.2).toNat)).length (sa.1.length - (sa.2).toNat):Nat):Int)))),(34,(vI sa.2)),(35,.mf 0),(36,(vI (sa.1.length:Int))),(37,vT),(38,(vI sa.2)),(39,.mf 0),(40,(vI sa.2)),(41,.msl 0 ((sa.2).toNat) (sa.1.length - (sa.2).toNat) 0),(42,.mf 0),(43,(vI sa.2)),(44,.msl 0 0 ((sa.2).toNat) (sa.1.length - (sa.2).toNat)),(45,.v (.int .i64 ((min ((sa.1.drop 0).take ((sa.2).toNat)).length (sa.1.length - (sa.2).toNat):Nat):Int))),(46,.v (.int .i64 (af .i64 sa.2 ((min ((sa.1.drop 0).take ((sa.2).toNat)).length (sa.1.length - (sa.2).toNat):Nat):Int))))] [] [.arr true 1 ((sa.1.take ((sa.2).toNat)++(((sa.1.drop 0).take ((sa.2).toNat)).take (sa.1.length - (sa.2).toNat)++sa.1.drop ((sa.2).toNat + min ((sa.1.drop 0).take ((sa.2).toNat)).length (sa.1.length - (sa.2).toNat)))).map eI)] 0) z)))))))))))))))) (by kernel_rfl)

def gJ (x:(List Int)) (count:Int) (y:(List Int)):AV×List Ob:=(.mf 0,[.arr true 1 (y.map eI)])
theorem kA (n:Nat) (x:(List Int)) (count:Int) (y:(List Int)) (h:bM n x count=some y):SD Tryz.prog 81 [.sl (x.map eI),(vI count)] [] (fun r' o'=>r'=(gJ x count y).1∧o'=(gJ x count y).2):=by
 unfold bM at h
 rcases ap h with ⟨h1,h⟩ | ⟨h1,h⟩
 ·
  cases h
 obtain ⟨y2,gy2,h⟩:=ab h
 have c90_:=fun (R:Prop) (z:R)=>(aB h1 (aL eI x (aI (lY n (IntKind.wrap .u64 (x.length:Int)) (IntKind.wrap .u64 count) y2 gy2) z)))
 let e91_:LR:=[rV 1 [(10,vF)],bi 3 [(14,(vI (x.length:Int)))] [(18,.tup [(vU y2.1),(vU y2.2)])]]
 rcases ap h with ⟨h3,h⟩ | ⟨h3,h⟩
 ·
  cases h
 rcases ap h with ⟨h4,h⟩ | ⟨h4,h⟩
 ·
  cases h
 obtain ⟨h5,h⟩:=ep h
 obtain ⟨t6,gt6,h⟩:=ab h
 obtain rfl:=aK h
 exact kS ⟨rP,(e91_++[rV 4 [(23,vF),(26,vF)],(6,⟨[],[30],[],[],[],[],[(30,(0,(List.replicate ((IntKind.wrap .i64 y2.2)).toNat 0).map eI))],[],[]⟩),(7,⟨[],[],[],[(33,.v (.int .i64 ((min x.length (List.replicate ((IntKind.wrap .i64 y2.2)).toNat 0).length:Nat):Int)))],[],[],[(33,(0,(x.take (List.replicate ((IntKind.wrap .i64 y2.2)).toNat 0).length++(List.replicate ((IntKind.wrap .i64 y2.2)).toNat 0).drop x.length).map eI))],[],[]⟩)]),[],[(8,(⟨[7,8],[],1,[],[],[]⟩,l0,(.ex 0),MY t6))],[]⟩ G4 ⟨rfl,rfl⟩ (fun z=>(c90_ _ (aB h3 (aB h4 (aI h5 (aI (lW eI _ 0:List.replicate ((IntKind.wrap .i64 y2.2)).toNat [(vI 0)]=(List.replicate ((IntKind.wrap .i64 y2.2)).toNat 0).map eI) (aI (FJ:cA 1 (x.map eI)=true) (aI (D7:aR (x.map eI)=true) (aI ((by simp []):AV.v (.int .i64 ((min (x.map eI).length ((List.replicate ((IntKind.wrap .i64 y2.2)).toNat 0).map eI).length:Nat):Int))=AV.v (.int .i64 ((min x.length (List.replicate ((IntKind.wrap .i64 y2.2)).toNat 0).length:Nat):Int))) (aI ((by simp [List.map_take]):(x.map eI).take ((List.replicate ((IntKind.wrap .i64 y2.2)).toNat 0).map eI).length++((List.replicate ((IntKind.wrap .i64 y2.2)).toNat 0).map eI).drop (x.map eI).length=(x.take (List.replicate ((IntKind.wrap .i64 y2.2)).toNat 0).length++(List.replicate ((IntKind.wrap .i64 y2.2)).toNat 0).drop x.length).map eI) (aI (eP (pl:=ak 81) (KW) (MZ) (P5 n) n _ t6 gt6) z))))))))))) (by kernel_rfl)

def zd:List (Nat×PT):=[]
theorem G5:ay (ak 62) zd (aj Tryz.prog 62)=true:=by kernel_rfl
noncomputable def M0:Code:=sub (aj Tryz.prog 62) [1,1,1,0,1,0,0]
theorem M1:ay (ak 62) zd M0=true:=by kernel_rfl
def KX (c:ae) (sa:(List Int)×Int):St:=bg 28 [(3,.mf 0),(15,.sl (c.Order.map eI)),(16,(vI (c.Order.length:Int))),(17,(vI sa.2))] [] [.arr true 1 (sa.1.map eI)] 0
def M3 (c:ae) (tt:(List Int)):St:=bg 28 [(3,.mf 0)] [] [.arr true 1 (tt.map eI)] 0
def M4 (c:ae) (tt:((List Int))):Ex×St:=(.ex 0,M3 c tt)
theorem P6 (n:Nat) (c:ae):∀ sa r,iA n c sa=some r→aV Tryz.prog M0 (KX c sa) (rk (KX c) (M4 c) r):=by
 intro sa r h
 unfold iA at h
 rcases aD h with ⟨ha1,h⟩ | ⟨ha1,h⟩
 ·
  exact kQ h (nA zd [rV 5 [(18,vF)]]) [wK 2 [3] [] 1] M1 (cG rfl kp) (fun z=>(aB ha1 z)) (by kernel_rfl)
 obtain ⟨xa2,gxa2,h⟩:=ab h
 obtain ⟨xa3,gxa3,h⟩:=ab h
 exact kQ h (nA zd [rV 5 [(18,vT)],rR 6 [(20,[(vI xa2)])],(7,⟨[],[],[(25,[(vI xa3)]),(1000025,[(vI xa3)])],[],[],[],[(1000025,(0,(sa.1.set (xa2).toNat sa.2).map eI))],[],[]⟩)]) [wK 0 [3,15,16,17] [] 1] M1 dx (fun z=>(aB ha1 (aM eI gxa2 (aM eI gxa3 (aN eI gxa3 (aI (fO eI sa.1 ((xa2).toNat) sa.2) z)))))) (by kernel_rfl)

theorem uN (n:Nat) (c:ae) (r:(List Int)) (h:jR n c=some r):ax Tryz.prog 62 [(bD ae.enc c)] (eF (.sl (r.map eI))):=by
 unfold jR at h
 obtain ⟨y1,gy1,h⟩:=ab h
 have c92_:=fun (R:Prop) (z:R)=>(aI (iV n c y1 gy1) z)
 rcases ap h with ⟨h2,h⟩ | ⟨h2,h⟩
 ·
  obtain rfl:=aK h
  exact kP (nA zd [bi 1 [(8,vT)] [(7,(vI y1))]]) G5 (fun z=>(c92_ _ (aB h2 (aG.nil:aG .nilsl (.sl (([]:List Int).map eI)))))) (by kernel_rfl)
 obtain ⟨y3,gy3,h⟩:=ab h
 obtain ⟨t4,gt4,h⟩:=ab h
 obtain rfl:=aK h
 exact kP ⟨zd,[bi 1 [(8,vF)] [(7,(vI y1))],(3,⟨[],[],[],[(12,(vI (c.From.length:Int)))],[],[(13,(.mf 0,[.arr true 1 (y3.map eI)]))],[],[],[]⟩),rV 4 [(16,(vI (c.Order.length:Int)))]],[],[(5,(⟨[3,15,16,17],[1],1,[],[],[]⟩,l0,(.ex 0),M3 c t4))],[]⟩ G5 (fun z=>(c92_ _ (aB h2 (aL eI c.From (aI (kA n ([(-1)]:List Int) (c.From.length:Int) y3 gy3) (aL eI c.Order (aI (eP (pl:=ak 62) (KX c) (M4 c) (P6 n c) n _ t4 gt4) z))))))) (by kernel_rfl)

def rQ:List (Nat×PT):=[(3,(.go 0 (.go 1 (.go 2 (.go 5 (.go 6 (.alt 3 (.alt 4 (.alt 7 (.alt 8 (ew [9,10,11,12]) (.alt 9 (ew [8,10,11,12]) (ew []))) (.alt 9 (ew [7,8,10,11,12]) (ew []))) (.alt 7 (.alt 4 (.alt 8 (ew [9,10,11,12]) (.alt 9 (ew [8,10,11,12]) (ew []))) (.alt 9 (ew [4,8,10,11,12]) (ew []))) (.alt 9 (ew [4,7,8,10,11,12]) (ew [])))) (.alt 7 (.alt 3 (.alt 4 (.alt 8 (ew [9,10,11,12]) (.alt 9 (ew [8,10,11,12]) (ew []))) (.alt 9 (ew [4,8,10,11,12]) (ew []))) (.alt 9 (ew [3,4,8,10,11,12]) (ew []))) (.alt 9 (ew [3,4,7,8,10,11,12]) (ew [])))))))))),(9,(.go 0 (.go 1 (.go 2 (.go 4 (.go 6 (.go 7 (.go 8 (.go 10 (.go 13 (.go 9 (.go 11 (.go 14 (.alt 3 (.go 12 (.alt 5 (ew [15,16]) (.alt 15 (ew [5,16]) (ew [])))) (.alt 5 (.alt 3 (ew [12,15,16]) (.alt 12 (.alt 3 (ew [15,16]) (.alt 15 (ew [3,16]) (ew []))) (ew []))) (.alt 12 (.alt 3 (.alt 5 (ew [15,16]) (.alt 15 (ew [5,16]) (ew []))) (.alt 5 (.alt 3 (ew [15,16]) (.alt 15 (ew [3,16]) (ew []))) (.alt 15 (ew [3,5,16]) (ew [])))) (ew [])))))))))))))))))]
theorem G6:ay (ak 37) rQ (aj Tryz.prog 37)=true:=by kernel_rfl
noncomputable def M5:Code:=sub (aj Tryz.prog 37) [1,1,1,0,1,0,0]
theorem G7:ay (ak 37) rQ M5=true:=by kernel_rfl
def KY (oA:(List Cell)) (oB:(List (List Event))) (oC:(List Int)) (oD:(List Int)) (y3:(List Event)) (y4:(List Int)) (sa:(List Int×(List (Option (List Int))))×Int):St:=bg 60 [(3,.ptr (.O 2) 0 0),(27,.sl (oD.map eI)),(28,(vI (oD.length:Int))),(29,(vI sa.2))] [] [.arr true 4 [[.sl (oA.map Cell.enc),.sl (oB.map (cY Event.enc)),.sl (oC.map eI),.sl (oD.map eI)]],.own (some (sa.1.1.map (aH .u64))) 1 (sa.1.2.map (mP eI)) none,.arr false 4 [[.ptr (.O 0) 0 0,.sl (y3.map Event.enc),.sl (y4.map eI),.mp 1]]] 1
def M6 (oA:(List Cell)) (oB:(List (List Event))) (oC:(List Int)) (oD:(List Int)) (y3:(List Event)) (y4:(List Int)) (tt:(List Int×(List (Option (List Int))))):St:=bg 60 [(3,.ptr (.O 2) 0 0)] [] [.arr true 4 [[.sl (oA.map Cell.enc),.sl (oB.map (cY Event.enc)),.sl (oC.map eI),.sl (oD.map eI)]],.own (some (tt.1.map (aH .u64))) 1 (tt.2.map (mP eI)) none,.arr false 4 [[.ptr (.O 0) 0 0,.sl (y3.map Event.enc),.sl (y4.map eI),.mp 1]]] 1
def M7 (oA:(List Cell)) (oB:(List (List Event))) (oC:(List Int)) (oD:(List Int)) (y3:(List Event)) (y4:(List Int)) (tt:((List Int×(List (Option (List Int)))))):Ex×St:=(.ex 0,M6 oA oB oC oD y3 y4 tt)
theorem P7 (n:Nat) (oA:(List Cell)) (oB:(List (List Event))) (oC:(List Int)) (oD:(List Int)) (y3:(List Event)) (y4:(List Int)):∀ sa r,jH n oA oB oC oD y3 y4 sa=some r→aV Tryz.prog M5 (KY oA oB oC oD y3 y4 sa) (rk (KY oA oB oC oD y3 y4) (M7 oA oB oC oD y3 y4) r):=by
 intro sa r h
 unfold jH at h
 rcases aD h with ⟨ha1,h⟩ | ⟨ha1,h⟩
 ·
  exact kQ h (nA rQ [rV 5 [(30,vF)]]) [wK 2 [3] [] 3] G7 (cG rfl kp) (fun z=>(aB ha1 z)) (by kernel_rfl)
 obtain ⟨xa2,gxa2,h⟩:=ab h
 obtain ⟨xa3,gxa3,h⟩:=ab h
 obtain ⟨ya4,gya4,h⟩:=ab h
 have c93_:=fun (R:Prop) (z:R)=>(aB ha1 (aM eI gxa2 (aM Event.enc gxa3 (aI (cq n xa3 ya4 gya4) z))))
 let e94_:LR:=[rV 5 [(30,vT)],rR 6 [(31,[(vI xa2)])],rR 7 [(38,(Event.enc xa3))]]
 rcases aD h with ⟨ha5,h⟩ | ⟨ha5,h⟩
 ·
  exact kQ h (nA rQ (e94_++[bi 8 [(41,vF)] [(41,.v (.bool ya4))]])) [wK 0 [3,27,28,29] [6] 3] G7 dx (fun z=>(c93_ _ (aB ha5 z))) (by kernel_rfl)
 let e95_:LR:=[bi 8 [(41,vT)] [(41,.v (.bool ya4))]]
 rcases iv h with ⟨ha6,h⟩ | ⟨za6,ha7,h⟩
 ·
  have d0_:∀ K':Option Nat→Prop,K' none→cw Tryz.prog 40 ((vU xa3.Addr)) (eN (sa.1.1.map (aH .u64))) fun _ r=>K' r:=qU sa.1.1 xa3.Addr ha6
  have d1_:∀ K':Option Nat→List AV→Prop,K' none ((sa.1.1++[xa3.Addr]).map (aH .u64))→cw Tryz.prog 40 ((vU xa3.Addr)) (eN (sa.1.1.map (aH .u64))) fun kv r=>bu (qp Tryz.prog 40 kv) (match r with | some i=>bu (Instr.sameBits 10000 (((sa.1.1.map (aH .u64))[i]?.bind tL).getD (.bool false)) kv) (K' (some i) ((sa.1.1.map (aH .u64)).set i ((vU xa3.Addr)))) | none=>K' none ((sa.1.1.map (aH .u64))++[(vU xa3.Addr)])):=C6 sa.1.1 xa3.Addr ha6
  have d2_:bg 60 [(3,.ptr (.O 2) 0 0),(5,(vI xa2)),(6,.ptr (.L 6) 0 0),(27,.sl (oD.map eI)),(28,(vI (oD.length:Int))),(29,(vI sa.2)),(30,vT),(31,.fptr [(vI xa2)] 0),(32,(vI xa2)),(33,.ptr (.O 2) 0 0),(34,.ptr (.O 2) 0 0),(35,.ptr (.O 2) 0 1),(36,.sl (y3.map Event.enc)),(37,(vI xa2)),(38,.fptr (Event.enc xa3) 0),(39,(bD Event.enc xa3)),(40,(bD Event.enc xa3)),(41,vT),(42,.ptr (.O 2) 0 0),(43,.ptr (.O 2) 0 0),(44,.ptr (.O 2) 0 3),(45,.mp 1),(46,.ptr (.L 6) 0 3),(47,(vU xa3.Addr)),(48,.ptr (.O 2) 0 0),(49,.ptr (.O 2) 0 0),(50,.ptr (.O 2) 0 3),(51,.mp 1),(52,.ptr (.L 6) 0 3),(53,(vU xa3.Addr)),(54,.nilsl),(55,(vI xa2)),(56,.sl [[(vI xa2)]]),(57,.mf 3)] [(6,(Event.enc xa3))] [.arr true 4 [[.sl (oA.map Cell.enc),.sl (oB.map (cY Event.enc)),.sl (oC.map eI),.sl (oD.map eI)]],.own (some ((sa.1.1++[xa3.Addr]).map (aH .u64))) 1 ((sa.1.2.map (mP eI))++[none]) (some ((sa.1.2.map (mP eI)).length,.mf 3)),.arr false 4 [[.ptr (.O 0) 0 0,.sl (y3.map Event.enc),.sl (y4.map eI),.mp 1]],.arr true 1 (([xa2]:List Int).map eI)] 1=bg 60 [(3,.ptr (.O 2) 0 0),(5,(vI xa2)),(6,.ptr (.L 6) 0 0),(27,.sl (oD.map eI)),(28,(vI (oD.length:Int))),(29,(vI sa.2)),(30,vT),(31,.fptr [(vI xa2)] 0),(32,(vI xa2)),(33,.ptr (.O 2) 0 0),(34,.ptr (.O 2) 0 0),(35,.ptr (.O 2) 0 1),(36,.sl (y3.map Event.enc)),(37,(vI xa2)),(38,.fptr (Event.enc xa3) 0),(39,(bD Event.enc xa3)),(40,(bD Event.enc xa3)),(41,vT),(42,.ptr (.O 2) 0 0),(43,.ptr (.O 2) 0 0),(44,.ptr (.O 2) 0 3),(45,.mp 1),(46,.ptr (.L 6) 0 3),(47,(vU xa3.Addr)),(48,.ptr (.O 2) 0 0),(49,.ptr (.O 2) 0 0),(50,.ptr (.O 2) 0 3),(51,.mp 1),(52,.ptr (.L 6) 0 3),(53,(vU xa3.Addr)),(54,.nilsl),(55,(vI xa2)),(56,.sl [[(vI xa2)]]),(57,.mf 3)] [(6,(Event.enc xa3))] [.arr true 4 [[.sl (oA.map Cell.enc),.sl (oB.map (cY Event.enc)),.sl (oC.map eI),.sl (oD.map eI)]],.own (some ((sa.1.1++[xa3.Addr]).map (aH .u64))) 1 ((sa.1.2.map (mP eI))++[none]) (some ((sa.1.2.map (mP eI)).length,.mf 3)),.arr false 4 [[.ptr (.O 0) 0 0,.sl (y3.map Event.enc),.sl (y4.map eI),.mp 1]],.arr true 1 (([xa2]:List Int).map eI)] 1:=rfl
  exact kQ h (nA rQ (e94_++(e95_++[(9,⟨[],[57],[],[],[],[],[],[],[(54,⟨none,none,[],[]⟩),(1000045,⟨none,none,(sa.1.1++[xa3.Addr]).map (aH .u64),[]⟩),(2000001,⟨none,none,[],(sa.1.2++[some ([xa2]:List Int)]).map (mP eI)⟩)]⟩)]))) [wK 0 [3,27,28,29] [6] 3] G7 dx (fun z=>(c93_ _ (aB ha5 (aI d0_ (aI (rfl:cA 1 [[(vI xa2)]]=true) (aI (rfl:aR [[(vI xa2)]]=true) (aI (rfl:Nat.ble (1 * 8) 140737488355328=true) (aI d1_ (aI (rfl:cA 1 [[(vI xa2)]]=true) (aI (rfl:aR [[(vI xa2)]]=true) (aI (rfl:Nat.ble (1 * 8) 140737488355328=true) (aI d1_ (aI d2_ (aI d0_ (aI (rfl:cA 1 [[(vI xa2)]]=true) (aI (rfl:aR [[(vI xa2)]]=true) (aI (rfl:Nat.ble (1 * 8) 140737488355328=true) (aI d1_ (aI d0_ (aI (rfl:cA 1 [[(vI xa2)]]=true) (aI (rfl:aR [[(vI xa2)]]=true) (aI (rfl:Nat.ble (1 * 8) 140737488355328=true) (aI d1_ (aI (rfl:cA 1 [[(vI xa2)]]=true) (aI (rfl:aR [[(vI xa2)]]=true) (aI (rfl:Nat.ble (1 * 8) 140737488355328=true) (aI d1_ (aI d2_ (aI d2_ (aI d2_ (aI d0_ (aI (rfl:cA 1 [[(vI xa2)]]=true) (aI (rfl:aR [[(vI xa2)]]=true) (aI (rfl:Nat.ble (1 * 8) 140737488355328=true) (aI d1_ (aI (rfl:cA 1 [[(vI xa2)]]=true) (aI (rfl:aR [[(vI xa2)]]=true) (aI (rfl:Nat.ble (1 * 8) 140737488355328=true) (aI d1_ (aI d2_ (aI (rfl:cA 1 [[(vI xa2)]]=true) (aI (rfl:aR [[(vI xa2)]]=true) (aI (rfl:Nat.ble (1 * 8) 140737488355328=true) (aI d1_ (aI (rfl:cA 1 [[(vI xa2)]]=true) (aI (rfl:aR [[(vI xa2)]]=true) (aI (rfl:Nat.ble (1 * 8) 140737488355328=true) (aI d1_ (aI d2_ (aI d2_ (aI (rfl:cA 1 [[(vI xa2)]]=true) (aI (rfl:aR [[(vI xa2)]]=true) (aI (rfl:Nat.ble (1 * 8) 140737488355328=true) (aI d1_ (aI d2_ (aI d2_ (aI (KH eI sa.1.2:Nat.blt (sa.1.2.map (mP eI)).length ((sa.1.2.map (mP eI))++[none]).length=true) (aI (KG eI sa.1.2 ([xa2]:List Int):((sa.1.2.map (mP eI))++[none]).set (sa.1.2.map (mP eI)).length (some (([xa2]:List Int).map eI))=(sa.1.2++[some ([xa2]:List Int)]).map (mP eI)) z)))))))))))))))))))))))))))))))))))))))))))))))))))))))))) (by kernel_rfl)
 ·
  obtain ⟨xa8,gxa8,h⟩:=ab h
  rcases iv h with ⟨ha9,h⟩ | ⟨za9,ha10,h⟩
  ·
   have d0_:∀ K':Option Nat→Prop,K' (some za6)→cw Tryz.prog 40 ((vU xa3.Addr)) (eN (sa.1.1.map (aH .u64))) fun _ r=>K' r:=qU sa.1.1 xa3.Addr ha7
   have d1_:(sa.1.2.map (mP eI))[za6]?=some none:=KF eI gxa8 ha9
   have d2_:∀ K':Option Nat→List AV→Prop,K' (some za6) (sa.1.1.map (aH .u64))→cw Tryz.prog 40 ((vU xa3.Addr)) (eN (sa.1.1.map (aH .u64))) fun kv r=>bu (qp Tryz.prog 40 kv) (match r with | some i=>bu (Instr.sameBits 10000 (((sa.1.1.map (aH .u64))[i]?.bind tL).getD (.bool false)) kv) (K' (some i) ((sa.1.1.map (aH .u64)).set i ((vU xa3.Addr)))) | none=>K' none ((sa.1.1.map (aH .u64))++[(vU xa3.Addr)])):=wT sa.1.1 xa3.Addr ha7
   have d3_:bg 60 [(3,.ptr (.O 2) 0 0),(5,(vI xa2)),(6,.ptr (.L 6) 0 0),(27,.sl (oD.map eI)),(28,(vI (oD.length:Int))),(29,(vI sa.2)),(30,vT),(31,.fptr [(vI xa2)] 0),(32,(vI xa2)),(33,.ptr (.O 2) 0 0),(34,.ptr (.O 2) 0 0),(35,.ptr (.O 2) 0 1),(36,.sl (y3.map Event.enc)),(37,(vI xa2)),(38,.fptr (Event.enc xa3) 0),(39,(bD Event.enc xa3)),(40,(bD Event.enc xa3)),(41,vT),(42,.ptr (.O 2) 0 0),(43,.ptr (.O 2) 0 0),(44,.ptr (.O 2) 0 3),(45,.mp 1),(46,.ptr (.L 6) 0 3),(47,(vU xa3.Addr)),(48,.ptr (.O 2) 0 0),(49,.ptr (.O 2) 0 0),(50,.ptr (.O 2) 0 3),(51,.mp 1),(52,.ptr (.L 6) 0 3),(53,(vU xa3.Addr)),(54,.nilsl),(55,(vI xa2)),(56,.sl [[(vI xa2)]]),(57,.mf 3)] [(6,(Event.enc xa3))] [.arr true 4 [[.sl (oA.map Cell.enc),.sl (oB.map (cY Event.enc)),.sl (oC.map eI),.sl (oD.map eI)]],.own (some (sa.1.1.map (aH .u64))) 1 (sa.1.2.map (mP eI)) (some (za6,.mf 3)),.arr false 4 [[.ptr (.O 0) 0 0,.sl (y3.map Event.enc),.sl (y4.map eI),.mp 1]],.arr true 1 (([xa2]:List Int).map eI)] 1=bg 60 [(3,.ptr (.O 2) 0 0),(5,(vI xa2)),(6,.ptr (.L 6) 0 0),(27,.sl (oD.map eI)),(28,(vI (oD.length:Int))),(29,(vI sa.2)),(30,vT),(31,.fptr [(vI xa2)] 0),(32,(vI xa2)),(33,.ptr (.O 2) 0 0),(34,.ptr (.O 2) 0 0),(35,.ptr (.O 2) 0 1),(36,.sl (y3.map Event.enc)),(37,(vI xa2)),(38,.fptr (Event.enc xa3) 0),(39,(bD Event.enc xa3)),(40,(bD Event.enc xa3)),(41,vT),(42,.ptr (.O 2) 0 0),(43,.ptr (.O 2) 0 0),(44,.ptr (.O 2) 0 3),(45,.mp 1),(46,.ptr (.L 6) 0 3),(47,(vU xa3.Addr)),(48,.ptr (.O 2) 0 0),(49,.ptr (.O 2) 0 0),(50,.ptr (.O 2) 0 3),(51,.mp 1),(52,.ptr (.L 6) 0 3),(53,(vU xa3.Addr)),(54,.nilsl),(55,(vI xa2)),(56,.sl [[(vI xa2)]]),(57,.mf 3)] [(6,(Event.enc xa3))] [.arr true 4 [[.sl (oA.map Cell.enc),.sl (oB.map (cY Event.enc)),.sl (oC.map eI),.sl (oD.map eI)]],.own (some (sa.1.1.map (aH .u64))) 1 (sa.1.2.map (mP eI)) (some (za6,.mf 3)),.arr false 4 [[.ptr (.O 0) 0 0,.sl (y3.map Event.enc),.sl (y4.map eI),.mp 1]],.arr true 1 (([xa2]:List Int).map eI)] 1:=rfl
   exact kQ h (nA rQ (e94_++(e95_++[(9,⟨[],[57],[],[],[],[],[],[],[(54,⟨some za6,none,[],[]⟩),(1000045,⟨some za6,none,sa.1.1.map (aH .u64),[]⟩),(2000001,⟨none,none,[],(sa.1.2.set za6 (some ([xa2]:List Int))).map (mP eI)⟩)]⟩)]))) [wK 0 [3,27,28,29] [6] 3] G7 dx (fun z=>(c93_ _ (aB ha5 (aI d0_ (aI d1_ (aI (rfl:cA 1 [[(vI xa2)]]=true) (aI (rfl:aR [[(vI xa2)]]=true) (aI (rfl:Nat.ble (1 * 8) 140737488355328=true) (aI d2_ (aI (rfl:cM none za6=true) (aI (rfl:cA 1 [[(vI xa2)]]=true) (aI (rfl:aR [[(vI xa2)]]=true) (aI (rfl:Nat.ble (1 * 8) 140737488355328=true) (aI d2_ (aI (rfl:cM none za6=true) (aI d3_ (aI d0_ (aI d1_ (aI (rfl:cA 1 [[(vI xa2)]]=true) (aI (rfl:aR [[(vI xa2)]]=true) (aI (rfl:Nat.ble (1 * 8) 140737488355328=true) (aI d2_ (aI (rfl:cM none za6=true) (aI d0_ (aI d1_ (aI (rfl:cA 1 [[(vI xa2)]]=true) (aI (rfl:aR [[(vI xa2)]]=true) (aI (rfl:Nat.ble (1 * 8) 140737488355328=true) (aI d2_ (aI (rfl:cM none za6=true) (aI (rfl:cA 1 [[(vI xa2)]]=true) (aI (rfl:aR [[(vI xa2)]]=true) (aI (rfl:Nat.ble (1 * 8) 140737488355328=true) (aI d2_ (aI (rfl:cM none za6=true) (aI d3_ (aI d3_ (aI d3_ (aI d0_ (aI d1_ (aI (rfl:cA 1 [[(vI xa2)]]=true) (aI (rfl:aR [[(vI xa2)]]=true) (aI (rfl:Nat.ble (1 * 8) 140737488355328=true) (aI d2_ (aI (rfl:cM none za6=true) (aI (rfl:cA 1 [[(vI xa2)]]=true) (aI (rfl:aR [[(vI xa2)]]=true) (aI (rfl:Nat.ble (1 * 8) 140737488355328=true) (aI d2_ (aI (rfl:cM none za6=true) (aI d3_ (aI (rfl:cA 1 [[(vI xa2)]]=true) (aI (rfl:aR [[(vI xa2)]]=true) (aI (rfl:Nat.ble (1 * 8) 140737488355328=true) (aI d2_ (aI (rfl:cM none za6=true) (aI (rfl:cA 1 [[(vI xa2)]]=true) (aI (rfl:aR [[(vI xa2)]]=true) (aI (rfl:Nat.ble (1 * 8) 140737488355328=true) (aI d2_ (aI (rfl:cM none za6=true) (aI d3_ (aI d3_ (aI (rfl:cA 1 [[(vI xa2)]]=true) (aI (rfl:aR [[(vI xa2)]]=true) (aI (rfl:Nat.ble (1 * 8) 140737488355328=true) (aI d2_ (aI (rfl:cM none za6=true) (aI d3_ (aI d3_ (aI (JQ eI gxa8:Nat.blt za6 (sa.1.2.map (mP eI)).length=true) (aI (GJ eI sa.1.2 _ ([xa2]:List Int):(sa.1.2.map (mP eI)).set za6 (some (([xa2]:List Int).map eI))=(sa.1.2.set za6 (some ([xa2]:List Int))).map (mP eI)) z)))))))))))))))))))))))))))))))))))))))))))))))))))))))))))))))))))))))) (by kernel_rfl)
  ·
   obtain ⟨ha11,h⟩:=ep h
   have d0_:∀ K':Option Nat→Prop,K' (some za6)→cw Tryz.prog 40 ((vU xa3.Addr)) (eN (sa.1.1.map (aH .u64))) fun _ r=>K' r:=qU sa.1.1 xa3.Addr ha7
   have d1_:(sa.1.2.map (mP eI))[za6]?=some (some (za9.map eI)):=KD eI gxa8 ha10
   have d2_:Nat.ble (((za9.map eI).length + 1) * 8) 140737488355328=true:=jp ha11
   have d3_:(za9.map eI)++[[(vI xa2)]]=(za9++([xa2]:List Int)).map eI:=lV eI za9 ([xa2]:List Int)
   have d4_:∀ K':Option Nat→List AV→Prop,K' (some za6) (sa.1.1.map (aH .u64))→cw Tryz.prog 40 ((vU xa3.Addr)) (eN (sa.1.1.map (aH .u64))) fun kv r=>bu (qp Tryz.prog 40 kv) (match r with | some i=>bu (Instr.sameBits 10000 (((sa.1.1.map (aH .u64))[i]?.bind tL).getD (.bool false)) kv) (K' (some i) ((sa.1.1.map (aH .u64)).set i ((vU xa3.Addr)))) | none=>K' none ((sa.1.1.map (aH .u64))++[(vU xa3.Addr)])):=wT sa.1.1 xa3.Addr ha7
   have d5_:bg 60 [(3,.ptr (.O 2) 0 0),(5,(vI xa2)),(6,.ptr (.L 6) 0 0),(27,.sl (oD.map eI)),(28,(vI (oD.length:Int))),(29,(vI sa.2)),(30,vT),(31,.fptr [(vI xa2)] 0),(32,(vI xa2)),(33,.ptr (.O 2) 0 0),(34,.ptr (.O 2) 0 0),(35,.ptr (.O 2) 0 1),(36,.sl (y3.map Event.enc)),(37,(vI xa2)),(38,.fptr (Event.enc xa3) 0),(39,(bD Event.enc xa3)),(40,(bD Event.enc xa3)),(41,vT),(42,.ptr (.O 2) 0 0),(43,.ptr (.O 2) 0 0),(44,.ptr (.O 2) 0 3),(45,.mp 1),(46,.ptr (.L 6) 0 3),(47,(vU xa3.Addr)),(48,.ptr (.O 2) 0 0),(49,.ptr (.O 2) 0 0),(50,.ptr (.O 2) 0 3),(51,.mp 1),(52,.ptr (.L 6) 0 3),(53,(vU xa3.Addr)),(54,.bad),(55,(vI xa2)),(56,.sl [[(vI xa2)]]),(57,.mf 3)] [(6,(Event.enc xa3))] [.arr true 4 [[.sl (oA.map Cell.enc),.sl (oB.map (cY Event.enc)),.sl (oC.map eI),.sl (oD.map eI)]],.own (some (sa.1.1.map (aH .u64))) 1 (sa.1.2.map (mP eI)) (some (za6,.mf 3)),.arr false 4 [[.ptr (.O 0) 0 0,.sl (y3.map Event.enc),.sl (y4.map eI),.mp 1]],.arr true 1 ((za9++([xa2]:List Int)).map eI)] 1=bg 60 [(3,.ptr (.O 2) 0 0),(5,(vI xa2)),(6,.ptr (.L 6) 0 0),(27,.sl (oD.map eI)),(28,(vI (oD.length:Int))),(29,(vI sa.2)),(30,vT),(31,.fptr [(vI xa2)] 0),(32,(vI xa2)),(33,.ptr (.O 2) 0 0),(34,.ptr (.O 2) 0 0),(35,.ptr (.O 2) 0 1),(36,.sl (y3.map Event.enc)),(37,(vI xa2)),(38,.fptr (Event.enc xa3) 0),(39,(bD Event.enc xa3)),(40,(bD Event.enc xa3)),(41,vT),(42,.ptr (.O 2) 0 0),(43,.ptr (.O 2) 0 0),(44,.ptr (.O 2) 0 3),(45,.mp 1),(46,.ptr (.L 6) 0 3),(47,(vU xa3.Addr)),(48,.ptr (.O 2) 0 0),(49,.ptr (.O 2) 0 0),(50,.ptr (.O 2) 0 3),(51,.mp 1),(52,.ptr (.L 6) 0 3),(53,(vU xa3.Addr)),(54,.bad),(55,(vI xa2)),(56,.sl [[(vI xa2)]]),(57,.mf 3)] [(6,(Event.enc xa3))] [.arr true 4 [[.sl (oA.map Cell.enc),.sl (oB.map (cY Event.enc)),.sl (oC.map eI),.sl (oD.map eI)]],.own (some (sa.1.1.map (aH .u64))) 1 (sa.1.2.map (mP eI)) (some (za6,.mf 3)),.arr false 4 [[.ptr (.O 0) 0 0,.sl (y3.map Event.enc),.sl (y4.map eI),.mp 1]],.arr true 1 ((za9++([xa2]:List Int)).map eI)] 1:=rfl
   exact kQ h (nA rQ (e94_++(e95_++[(9,⟨[],[57],[],[],[],[],[(57,(3,(za9++([xa2]:List Int)).map eI))],[],[(54,⟨some za6,(some (za9.map eI)),[],[]⟩),(1000045,⟨some za6,none,sa.1.1.map (aH .u64),[]⟩),(2000001,⟨none,none,[],(sa.1.2.set za6 (some (za9++([xa2]:List Int)))).map (mP eI)⟩)]⟩)]))) [wK 0 [3,27,28,29] [6] 3] G7 dx (fun z=>(c93_ _ (aB ha5 (aI d0_ (aI d1_ (aI (rfl:cA 1 [[(vI xa2)]]=true) (aI (rfl:aR [[(vI xa2)]]=true) (aI d2_ (aI d3_ (aI d4_ (aI ((xU _):cM (some (za6,.bad)) za6=true) (aI (rfl:cA 1 [[(vI xa2)]]=true) (aI (rfl:aR [[(vI xa2)]]=true) (aI d2_ (aI d3_ (aI d4_ (aI ((xU _):cM (some (za6,.bad)) za6=true) (aI d5_ (aI d0_ (aI d1_ (aI (rfl:cA 1 [[(vI xa2)]]=true) (aI (rfl:aR [[(vI xa2)]]=true) (aI d2_ (aI d3_ (aI d4_ (aI ((xU _):cM (some (za6,.bad)) za6=true) (aI d0_ (aI d1_ (aI (rfl:cA 1 [[(vI xa2)]]=true) (aI (rfl:aR [[(vI xa2)]]=true) (aI d2_ (aI d3_ (aI d4_ (aI ((xU _):cM (some (za6,.bad)) za6=true) (aI (rfl:cA 1 [[(vI xa2)]]=true) (aI (rfl:aR [[(vI xa2)]]=true) (aI d2_ (aI d3_ (aI d4_ (aI ((xU _):cM (some (za6,.bad)) za6=true) (aI d5_ (aI d5_ (aI d5_ (aI d0_ (aI d1_ (aI (rfl:cA 1 [[(vI xa2)]]=true) (aI (rfl:aR [[(vI xa2)]]=true) (aI d2_ (aI d3_ (aI d4_ (aI ((xU _):cM (some (za6,.bad)) za6=true) (aI (rfl:cA 1 [[(vI xa2)]]=true) (aI (rfl:aR [[(vI xa2)]]=true) (aI d2_ (aI d3_ (aI d4_ (aI ((xU _):cM (some (za6,.bad)) za6=true) (aI d5_ (aI (rfl:cA 1 [[(vI xa2)]]=true) (aI (rfl:aR [[(vI xa2)]]=true) (aI d2_ (aI d3_ (aI d4_ (aI ((xU _):cM (some (za6,.bad)) za6=true) (aI (rfl:cA 1 [[(vI xa2)]]=true) (aI (rfl:aR [[(vI xa2)]]=true) (aI d2_ (aI d3_ (aI d4_ (aI ((xU _):cM (some (za6,.bad)) za6=true) (aI d5_ (aI d5_ (aI (rfl:cA 1 [[(vI xa2)]]=true) (aI (rfl:aR [[(vI xa2)]]=true) (aI d2_ (aI d3_ (aI d4_ (aI ((xU _):cM (some (za6,.bad)) za6=true) (aI d5_ (aI d5_ (aI (JQ eI gxa8:Nat.blt za6 (sa.1.2.map (mP eI)).length=true) (aI (GJ eI sa.1.2 _ (za9++([xa2]:List Int)):(sa.1.2.map (mP eI)).set za6 (some ((za9++([xa2]:List Int)).map eI))=(sa.1.2.set za6 (some (za9++([xa2]:List Int)))).map (mP eI)) z)))))))))))))))))))))))))))))))))))))))))))))))))))))))))))))))))))))))))))))))))) (by kernel_rfl)

def rS (oA:(List Cell)) (oB:(List (List Event))) (oC:(List Int)) (oD:(List Int)) (y0:(Unit⊕((List (Int×(List Int)))×(List Event)×(List Int)))):AV×List Ob:=match y0 with | .inl y=>(.nilp,[.arr true 4 [[.sl (oA.map Cell.enc),.sl (oB.map (cY Event.enc)),.sl (oC.map eI),.sl (oD.map eI)]]]) | .inr y=>(.ptr (.O 2) 0 0,[.arr true 4 [[.sl (oA.map Cell.enc),.sl (oB.map (cY Event.enc)),.sl (oC.map eI),.sl (oD.map eI)]],.mapo true (y.1.map (cH (aH .u64) (dm eI))),.arr false 4 [[.ptr (.O 0) 0 0,.sl (y.2.1.map Event.enc),.sl (y.2.2.map eI),.mp 1]]])
theorem iW (n:Nat) (oA:(List Cell)) (oB:(List (List Event))) (oC:(List Int)) (oD:(List Int)) (y:(Unit⊕((List (Int×(List Int)))×(List Event)×(List Int)))) (h:fS n oA oB oC oD=some y):SD Tryz.prog 37 [.ptr (.O 0) 0 0] [.arr true 4 [[.sl (oA.map Cell.enc),.sl (oB.map (cY Event.enc)),.sl (oC.map eI),.sl (oD.map eI)]]] (fun r' o'=>r'=(rS oA oB oC oD y).1∧o'=(rS oA oB oC oD y).2):=by
 unfold fS at h
 obtain ⟨y1,gy1,h⟩:=ab h
 have c96_:=fun (R:Prop) (z:R)=>(aI (iV n (ae.mk oA oB oC oD) y1 gy1) z)
 rcases ap h with ⟨h2,h⟩ | ⟨h2,h⟩
 ·
  obtain rfl:=aK h
  exact kS (nA rQ [bi 1 [(11,vT)] [(10,(vI y1))]]) G6 ⟨rfl,rfl⟩ (fun z=>(c96_ _ (aB h2 z))) (by kernel_rfl)
 obtain ⟨y3,gy3,h⟩:=ab h
 obtain ⟨y4,gy4,h⟩:=ab h
 obtain ⟨t23,gt23,h⟩:=ab h
 obtain ⟨h24,h⟩:=ep h
 obtain rfl:=aK h
 have d0_:pP 61 [.agg [.sl (oA.map Cell.enc),.sl (oB.map (cY Event.enc)),.sl (oC.map eI),.sl (oD.map eI)]] (eF (.sl (y3.map Event.enc))):=(Ao n (ae.mk oA oB oC oD) y3 gy3)
 have d1_:pP 62 [.agg [.sl (oA.map Cell.enc),.sl (oB.map (cY Event.enc)),.sl (oC.map eI),.sl (oD.map eI)]] (eF (.sl (y4.map eI))):=(uN n (ae.mk oA oB oC oD) y4 gy4)
 have d2_:bg 60 [(0,.ptr (.O 0) 0 0),(2,.nilp),(3,.ptr (.O 2) 0 0),(7,.ptr (.O 0) 0 0),(8,.ptr (.O 0) 0 0),(9,.agg [.sl (oA.map Cell.enc),.sl (oB.map (cY Event.enc)),.sl (oC.map eI),.sl (oD.map eI)]),(10,(vI y1)),(11,vF),(12,.ptr (.O 0) 0 0),(13,.ptr (.O 0) 0 0),(14,.ptr (.O 0) 0 0),(15,.agg [.sl (oA.map Cell.enc),.sl (oB.map (cY Event.enc)),.sl (oC.map eI),.sl (oD.map eI)]),(16,.sl (y3.map Event.enc)),(17,.ptr (.O 0) 0 0),(18,.ptr (.O 0) 0 0),(19,.agg [.sl (oA.map Cell.enc),.sl (oB.map (cY Event.enc)),.sl (oC.map eI),.sl (oD.map eI)]),(20,.sl (y4.map eI)),(21,.mp 1),(22,.agg [.ptr (.O 0) 0 0,.sl (y3.map Event.enc),.sl (y4.map eI),.mp 1]),(23,.ptr (.O 2) 0 0)] [] [.arr true 4 [[.sl (oA.map Cell.enc),.sl (oB.map (cY Event.enc)),.sl (oC.map eI),.sl (oD.map eI)]],.own (some (([]:List Int).map (aH .u64))) 1 (([]:List (Option (List Int))).map (mP eI)) none,.arr false 4 [[.ptr (.O 0) 0 0,.sl (y3.map Event.enc),.sl (y4.map eI),.mp 1]]] 1=bg 60 [(0,.ptr (.O 0) 0 0),(2,.nilp),(3,.ptr (.O 2) 0 0),(7,.ptr (.O 0) 0 0),(8,.ptr (.O 0) 0 0),(9,.agg [.sl (oA.map Cell.enc),.sl (oB.map (cY Event.enc)),.sl (oC.map eI),.sl (oD.map eI)]),(10,(vI y1)),(11,vF),(12,.ptr (.O 0) 0 0),(13,.ptr (.O 0) 0 0),(14,.ptr (.O 0) 0 0),(15,.agg [.sl (oA.map Cell.enc),.sl (oB.map (cY Event.enc)),.sl (oC.map eI),.sl (oD.map eI)]),(16,.sl (y3.map Event.enc)),(17,.ptr (.O 0) 0 0),(18,.ptr (.O 0) 0 0),(19,.agg [.sl (oA.map Cell.enc),.sl (oB.map (cY Event.enc)),.sl (oC.map eI),.sl (oD.map eI)]),(20,.sl (y4.map eI)),(21,.mp 1),(22,.agg [.ptr (.O 0) 0 0,.sl (y3.map Event.enc),.sl (y4.map eI),.mp 1]),(23,.ptr (.O 2) 0 0)] [] [.arr true 4 [[.sl (oA.map Cell.enc),.sl (oB.map (cY Event.enc)),.sl (oC.map eI),.sl (oD.map eI)]],.own (some (([]:List Int).map (aH .u64))) 1 (([]:List (Option (List Int))).map (mP eI)) none,.arr false 4 [[.ptr (.O 0) 0 0,.sl (y3.map Event.enc),.sl (y4.map eI),.mp 1]]] 1:=rfl
 exact kS ⟨rQ,[bi 1 [(11,vF)] [(10,(vI y1))],bi 3 [] [(16,.sl (y3.map Event.enc)),(20,.sl (y4.map eI))],rV 4 [(28,(vI (oD.length:Int)))],(11,⟨[],[],[],[],[],[],[],[(2000001,(AJ t23.1 t23.2).map (cH (aH .u64) (dm eI)))],[]⟩)],[],[(5,(⟨[3,27,28,29],[],3,[],[],[]⟩,l0,(.ex 0),M6 oA oB oC oD y3 y4 t23))],[]⟩ G6 ⟨rfl,rfl⟩ (fun z=>(c96_ _ (aB h2 (aI d0_ (aI d1_ (aI d1_ (aI d2_ (aI d1_ (aI d2_ (aI d0_ (aI d1_ (aI d1_ (aI d2_ (aI d0_ (aI d1_ (aI d2_ (aI d2_ (aI d0_ (aI d1_ (aI d2_ (aI d0_ (aI d1_ (aI d1_ (aI d2_ (aI d0_ (aI d1_ (aI d2_ (aI d0_ (aI d1_ (aI d2_ (aI d2_ (aI d0_ (aI d1_ (aI d2_ (aL eI oD (aI (eP (pl:=ak 37) (KY oA oB oC oD y3 y4) (M7 oA oB oC oD y3 y4) (P7 n oA oB oC oD y3 y4) n _ t23 gt23) (aI (MJ eI (aH .u64) _ _ h24:lK (t23.1.map (aH .u64)) (t23.2.map (mP eI))=(AJ t23.1 t23.2).map (cH (aH .u64) (dm eI))) z))))))))))))))))))))))))))))))))))))) (by kernel_rfl)

def JZ:List (Nat×PT):=[]
theorem KZ:ay (ak 38) JZ (aj Tryz.prog 38)=true:=by kernel_rfl
theorem gT (n:Nat) (why:Int) (a:Int) (b:Int) (r:bc) (h:ey n why a b=some r):ax Tryz.prog 38 [(vI why),(vI a),(vI b)] (eF ((bD bc.enc r))):=by
 unfold ey at h
 obtain rfl:=aK h
 exact kP (nA JZ []) KZ (fun z=>z) (by kernel_rfl)

noncomputable def M8:Code:=sub (aj Tryz.prog 81) [1,1,1,1,1,1,0,0,0]
theorem M9:ay (ak 81) rP M8=true:=by kernel_rfl
def K0 (oA:(List Cell)) (oB:(List (List Event))) (oC:(List Int)) (oD:(List Int)) (oE:(List Event)) (sa:(List Int)×Int):St:=bg 48 [(7,.mf 1),(8,(vI sa.2))] [] [.arr true 7 [[.fptr [.sl (oA.map Cell.enc),.sl (oB.map (cY Event.enc)),.sl (oC.map eI),.sl (oD.map eI)] 0,.sl (oE.map Event.enc),.nilsl,.nilsl,.nilsl,.nilsl,.nilsl]],.arr true 1 (sa.1.map eI)] 1
def M_ (oA:(List Cell)) (oB:(List (List Event))) (oC:(List Int)) (oD:(List Int)) (oE:(List Event)) (tt:(List Int)):St:=bg 48 [(7,.mf 1)] [] [.arr true 7 [[.fptr [.sl (oA.map Cell.enc),.sl (oB.map (cY Event.enc)),.sl (oC.map eI),.sl (oD.map eI)] 0,.sl (oE.map Event.enc),.nilsl,.nilsl,.nilsl,.nilsl,.nilsl]],.arr true 1 (tt.map eI)] 1
def Na (oA:(List Cell)) (oB:(List (List Event))) (oC:(List Int)) (oD:(List Int)) (oE:(List Event)) (tt:((List Int))):Ex×St:=(.ex 0,M_ oA oB oC oD oE tt)
theorem P8 (n:Nat) (oA:(List Cell)) (oB:(List (List Event))) (oC:(List Int)) (oD:(List Int)) (oE:(List Event)):∀ sa r,cr n oA oB oC oD oE sa=some r→aV Tryz.prog M8 (K0 oA oB oC oD oE sa) (rk (K0 oA oB oC oD oE) (Na oA oB oC oD oE) r):=by
 intro sa r h
 unfold cr at h
 rcases aD h with ⟨ha1,h⟩ | ⟨ha1,h⟩
 ·
  exact kQ h (nA rP [rV 8 [(36,(vI (sa.1.length:Int))),(37,vF)]]) [wK 2 [7] [] 2] M9 (cG rfl kp) (fun z=>(aL eI sa.1 (aB ha1 z))) (by kernel_rfl)
 obtain ⟨ha2,h⟩:=ep h
 obtain ⟨ha3,h⟩:=ep h
 obtain ⟨ha4,h⟩:=ep h
 have d0_:aR (((sa.1.map eI).drop 0).take ((sa.2).toNat))=true:=(by rw [← List.map_drop,← List.map_take]; exact D7)
 have d1_:Nat.ble ((sa.2).toNat + (sa.1.length - (sa.2).toNat)) (sa.1.map eI).length=true:=(by rw [List.length_map]; exact ha4)
 have d2_:AV.v (.int .i64 ((min (((sa.1.map eI).drop 0).take ((sa.2).toNat)).length (sa.1.length - (sa.2).toNat):Nat):Int))=AV.v (.int .i64 ((min ((sa.1.drop 0).take ((sa.2).toNat)).length (sa.1.length - (sa.2).toNat):Nat):Int)):=(by simp [])
 have d3_:(sa.1.map eI).take ((sa.2).toNat)++((((sa.1.map eI).drop 0).take ((sa.2).toNat)).take (sa.1.length - (sa.2).toNat)++(sa.1.map eI).drop ((sa.2).toNat + min (((sa.1.map eI).drop 0).take ((sa.2).toNat)).length (sa.1.length - (sa.2).toNat)))=(sa.1.take ((sa.2).toNat)++(((sa.1.drop 0).take ((sa.2).toNat)).take (sa.1.length - (sa.2).toNat)++sa.1.drop ((sa.2).toNat + min ((sa.1.drop 0).take ((sa.2).toNat)).length (sa.1.length - (sa.2).toNat)))).map eI:=(by simp [List.map_take,List.map_drop])
 exact kQ h (nA rP [rV 8 [(36,(vI (sa.1.length:Int))),(37,vT)],(9,⟨[],[41,44],[],[(41,.msl 1 ((sa.2).toNat) (sa.1.length - (sa.2).toNat) 0),(44,.msl 1 0 ((sa.2).toNat) (sa.1.length - (sa.2).toNat)),(45,.v (.int .i64 ((min ((sa.1.drop 0).take ((sa.2).toNat)).length (sa.1.length - (sa.2).toNat):Nat):Int)))],[],[],[(45,(1,(sa.1.take ((sa.2).toNat)++(((sa.1.drop 0).take ((sa.2).toNat)).take (sa.1.length - (sa.2).toNat)++sa.1.drop ((sa.2).toNat + min ((sa.1.drop 0).take ((sa.2).toNat)).length (sa.1.length - (sa.2).toNat)))).map eI))],[],[]⟩)]) [wK 0 [7,8] [] 2] M9 dx (fun z=>(aL eI sa.1 (aB ha1 (aI (Ah ha2:(decide ((0:Int)≤sa.2)&&decide (sa.2≤(((sa.1.map eI).length:Nat):Int)))=true) (aI (BX eI sa.1 _ _ _ _:AV.msl 1 (sa.2).toNat ((sa.1.map eI).length - (sa.2).toNat) 0=AV.msl 1 ((sa.2).toNat) (sa.1.length - (sa.2).toNat) 0) (aI (Ah ha3:(decide ((0:Int)≤sa.2)&&decide (sa.2≤(((sa.1.map eI).length:Nat):Int)))=true) (aI (D4 eI sa.1 _ _ _ _:AV.msl 1 0 ((sa.2).toNat - 0) ((sa.1.map eI).length - (sa.2).toNat)=AV.msl 1 0 ((sa.2).toNat) (sa.1.length - (sa.2).toNat)) (aI d0_ (aI d1_ (aI d2_ (aI d3_ (aI d0_ (aI d1_ (aI d2_ (aI d3_ (aI (rfl:bg 48 [(7,.mf 1),(8,.v (.int .i64 (af .i64 sa.2 ((min ((sa.1.drop 0).take ((sa.2).toNat)).length (sa.1.length - (sa.2).toNat):Nat):Int)))),(34,(vI sa.2)),(35,.mf 1),(36,(vI (sa.1.length:Int))),(37,vT),(38,(vI sa.2)),(39,.mf 1),(40,(vI sa.2)),(41,.msl 1 ((sa.2).toNat) (sa.1.length - (sa.2).toNat) 0),(42,.mf 1),(43,(vI sa.2)),(44,.msl 1 0 ((sa.2).toNat) (sa.1.length - (sa.2).toNat)),(45,.v (.int .i64 ((min ((sa.1.drop 0).take ((sa.2).toNat)).length (sa.1.length - (sa.2).toNat):Nat):Int))),(46,.v (.int .i64 (af .i64 sa.2 ((min ((sa.1.drop 0).take ((sa.2).toNat)).length (sa.1.length - (sa.2).toNat):Nat):Int))))] [] [.arr true 7 [[.fptr [.sl (oA.map Cell.enc),.sl (oB.map (cY Event.enc)),.sl (oC.map eI),.sl (oD.map eI)] 0,.sl (oE.map Event.enc),.nilsl,.nilsl,.nilsl,.nilsl,.nilsl]],.arr true 1 ((sa.1.take ((sa.2).toNat)++(((sa.1.drop 0).take ((sa.2).toNat)).take (sa.1.length - (sa.2).toNat)++sa.1.drop ((sa.2).toNat + min ((sa.1.drop 0).take ((sa.2).toNat)).length (sa.1.length - (sa.2).toNat)))).map eI)] 1=bg 48 [(7,.mf 1),(8,.v (.int .i64 (af .i64 sa.2 ((min ((sa.1.drop 0).take ((sa.2).toNat)).length (sa.1.length - (sa.2).toNat):Nat):Int)))),(34,(vI sa.2)),(35,.mf 1),(36,(vI (sa.1.length:Int))),(37,vT),(38,(vI sa.2)),(39,.mf 1),(40,(vI sa.2)),(41,.msl 1 ((sa.2).toNat) (sa.1.length - (sa.2).toNat) 0),(42,.mf 1),(43,(vI sa.2)),(44,.msl 1 0 ((sa.2).toNat) (sa.1.length - (sa.2).toNat)),(45,.v (.int .i64 ((min ((sa.1.drop 0).take ((sa.2).toNat)).length (sa.1.length - (sa.2).toNat):Nat):Int))),(46,.v (.int .i64 (af .i64 sa.2 ((min ((sa.1.drop 0).take ((sa.2).toNat)).length (sa.1.length - (sa.2).toNat):Nat):Int))))] [] [.arr true 7 [[.fptr [.sl (oA.map Cell.enc),.sl (oB.map (cY Event.enc)),.sl (oC.map eI),.sl (oD.map eI)] 0,.sl (oE.map Event.enc),.nilsl,.nilsl,.nilsl,.nilsl,.nilsl]],.arr true 1 ((sa.1.take ((sa.2).toNat)++(((sa.1.drop 0).take ((sa.2).toNat)).take (sa.1.length - (sa.2).toNat)++sa.1.drop ((sa.2).toNat + min ((sa.1.drop 0).take ((sa.2).toNat)).length (sa.1.length - (sa.2).toNat)))).map eI)] 1) z)))))))))))))))) (by kernel_rfl)

def f5 (x:(List Int)) (count:Int) (oA:(List Cell)) (oB:(List (List Event))) (oC:(List Int)) (oD:(List Int)) (oE:(List Event)) (y:(List Int)):AV×List Ob:=(.mf 1,[.arr true 7 [[.fptr [.sl (oA.map Cell.enc),.sl (oB.map (cY Event.enc)),.sl (oC.map eI),.sl (oD.map eI)] 0,.sl (oE.map Event.enc),.nilsl,.nilsl,.nilsl,.nilsl,.nilsl]],.arr true 1 (y.map eI)])
theorem kh (n:Nat) (x:(List Int)) (count:Int) (oA:(List Cell)) (oB:(List (List Event))) (oC:(List Int)) (oD:(List Int)) (oE:(List Event)) (y:(List Int)) (h:b_ n x count oA oB oC oD oE=some y):SD Tryz.prog 81 [.sl (x.map eI),(vI count)] [.arr true 7 [[.fptr [.sl (oA.map Cell.enc),.sl (oB.map (cY Event.enc)),.sl (oC.map eI),.sl (oD.map eI)] 0,.sl (oE.map Event.enc),.nilsl,.nilsl,.nilsl,.nilsl,.nilsl]]] (fun r' o'=>r'=(f5 x count oA oB oC oD oE y).1∧o'=(f5 x count oA oB oC oD oE y).2):=by
 unfold b_ at h
 rcases ap h with ⟨h1,h⟩ | ⟨h1,h⟩
 ·
  cases h
 obtain ⟨y2,gy2,h⟩:=ab h
 have c97_:=fun (R:Prop) (z:R)=>(aB h1 (aL eI x (aI (lY n (IntKind.wrap .u64 (x.length:Int)) (IntKind.wrap .u64 count) y2 gy2) z)))
 let e98_:LR:=[rV 1 [(10,vF)],bi 3 [(14,(vI (x.length:Int)))] [(18,.tup [(vU y2.1),(vU y2.2)])]]
 rcases ap h with ⟨h3,h⟩ | ⟨h3,h⟩
 ·
  cases h
 rcases ap h with ⟨h4,h⟩ | ⟨h4,h⟩
 ·
  cases h
 obtain ⟨h5,h⟩:=ep h
 obtain ⟨t6,gt6,h⟩:=ab h
 obtain rfl:=aK h
 exact kS ⟨rP,(e98_++[rV 4 [(23,vF),(26,vF)],(6,⟨[],[30],[],[],[],[],[(30,(1,(List.replicate ((IntKind.wrap .i64 y2.2)).toNat 0).map eI))],[],[]⟩),(7,⟨[],[],[],[(33,.v (.int .i64 ((min x.length (List.replicate ((IntKind.wrap .i64 y2.2)).toNat 0).length:Nat):Int)))],[],[],[(33,(1,(x.take (List.replicate ((IntKind.wrap .i64 y2.2)).toNat 0).length++(List.replicate ((IntKind.wrap .i64 y2.2)).toNat 0).drop x.length).map eI))],[],[]⟩)]),[],[(8,(⟨[7,8],[],2,[],[],[]⟩,l0,(.ex 0),M_ oA oB oC oD oE t6))],[]⟩ G4 ⟨rfl,rfl⟩ (fun z=>(c97_ _ (aB h3 (aB h4 (aI h5 (aI (lW eI _ 0:List.replicate ((IntKind.wrap .i64 y2.2)).toNat [(vI 0)]=(List.replicate ((IntKind.wrap .i64 y2.2)).toNat 0).map eI) (aI (FJ:cA 1 (x.map eI)=true) (aI (D7:aR (x.map eI)=true) (aI ((by simp []):AV.v (.int .i64 ((min (x.map eI).length ((List.replicate ((IntKind.wrap .i64 y2.2)).toNat 0).map eI).length:Nat):Int))=AV.v (.int .i64 ((min x.length (List.replicate ((IntKind.wrap .i64 y2.2)).toNat 0).length:Nat):Int))) (aI ((by simp [List.map_take]):(x.map eI).take ((List.replicate ((IntKind.wrap .i64 y2.2)).toNat 0).map eI).length++((List.replicate ((IntKind.wrap .i64 y2.2)).toNat 0).map eI).drop (x.map eI).length=(x.take (List.replicate ((IntKind.wrap .i64 y2.2)).toNat 0).length++(List.replicate ((IntKind.wrap .i64 y2.2)).toNat 0).drop x.length).map eI) (aI (eP (pl:=ak 81) (K0 oA oB oC oD oE) (Na oA oB oC oD oE) (P8 n oA oB oC oD oE) n _ t6 gt6) z))))))))))) (by kernel_rfl)

end
end Go.Proofs.YtomahedcdcnnhaaGreatDoor
