/- What the functions compute, they compute: printed by a program, path by path. No conditions. -/
import Derived.Test.YtomahedcdcnnhaaGreatDoorP0
import Derived.KernelRfl
namespace Go.Proofs.YtomahedcdcnnhaaGreatDoor
open Go A
set_option linter.unusedVariables false
set_option maxRecDepth 100000
set_option maxHeartbeats 0
section
variable (pc:Nat→List AV→(AV→Prop)→Prop) (sc:Nat→List AV→List Ob→(AV→List Ob→Prop)→Prop) (lp:bw→Code→St→(Ex→St→Prop)→Prop) (cd:wB)

def GF:List (Nat×PT):=[(5,(eO [0,1,2,3,4,5,6,7,8])),(6,(eO [0,1,2,3,4,5,6,7,8]))]
theorem GG:aA (ao 29) GF (al Tryz.prog 29)=true:=by kernel_rfl
theorem ny (n:Nat) (fences:Bool) (r:af) (h:lu n fences=some r):az Tryz.prog 29 [.v (.bool fences)] (eY ((bT af.enc r))):=by
 unfold lu at h
 rcases au h with ⟨h1,h⟩ | ⟨h1,h⟩
 ·
  obtain rfl:=aS h
  exact kP (nA GF [rV 3 [(12,vT)]]) GG (fun z=>(aB h1 ((aJ.agg (aV.cons aJ.nil (aV.cons (aJ.sl (eX.cons (aV.cons (aJ.sl (eX.cons (aV.cons (aJ.refl _) (aV.cons (aJ.refl _) (aV.cons (aJ.refl _) (aV.cons (aJ.refl _) (aV.cons (aJ.refl _) (aV.cons (aJ.refl _) (aV.cons (aJ.refl _) (aV.cons (aJ.refl _) (aV.cons (aJ.refl _) (aV.cons (aJ.refl _) (aV.cons (aJ.refl _) (aV.cons aJ.nil (aV.cons aJ.nil (aV.cons aJ.nil aV.nil)))))))))))))) (eX.cons (aV.cons (aJ.refl _) (aV.cons (aJ.refl _) (aV.cons (aJ.refl _) (aV.cons (aJ.refl _) (aV.cons (aJ.refl _) (aV.cons (aJ.refl _) (aV.cons (aJ.refl _) (aV.cons (aJ.refl _) (aV.cons (aJ.refl _) (aV.cons (aJ.refl _) (aV.cons (aJ.refl _) (aV.cons aJ.nil (aV.cons aJ.nil (aV.cons aJ.nil aV.nil)))))))))))))) eX.nil))) aV.nil) (eX.cons (aV.cons (aJ.sl (eX.cons (aV.cons (aJ.refl _) (aV.cons (aJ.refl _) (aV.cons (aJ.refl _) (aV.cons (aJ.refl _) (aV.cons (aJ.refl _) (aV.cons (aJ.refl _) (aV.cons (aJ.refl _) (aV.cons (aJ.refl _) (aV.cons (aJ.refl _) (aV.cons (aJ.refl _) (aV.cons (aJ.refl _) (aV.cons aJ.nil (aV.cons aJ.nil (aV.cons aJ.nil aV.nil)))))))))))))) (eX.cons (aV.cons (aJ.refl _) (aV.cons (aJ.refl _) (aV.cons (aJ.refl _) (aV.cons (aJ.refl _) (aV.cons (aJ.refl _) (aV.cons (aJ.refl _) (aV.cons (aJ.refl _) (aV.cons (aJ.refl _) (aV.cons (aJ.refl _) (aV.cons (aJ.refl _) (aV.cons (aJ.refl _) (aV.cons aJ.nil (aV.cons aJ.nil (aV.cons aJ.nil aV.nil)))))))))))))) eX.nil))) aV.nil) eX.nil))) (aV.cons (aJ.refl _) (aV.cons (aJ.refl _) aV.nil))))):aJ (.agg [.nilsl,.sl [[.sl [[(vI 0),(vI 0),(vI 2),(vU 8),(vU 0),(vU 1),vF,vF,(vI 0),(vI 0),(vI 0),.nilsl,.nilsl,.nilsl],[(vI 0),(vI 1),(vI 2),(vU 16),(vU 0),(vU 1),vF,vF,(vI 0),(vI 0),(vI 0),.nilsl,.nilsl,.nilsl]]],[.sl [[(vI 1),(vI 0),(vI 1),(vU 16),(vU 1),(vU 0),vF,vF,(vI 0),(vI 0),(vI 0),.nilsl,.nilsl,.nilsl],[(vI 1),(vI 1),(vI 1),(vU 8),(vU 0),(vU 0),vF,vF,(vI 0),(vI 0),(vI 0),.nilsl,.nilsl,.nilsl]]]],.sl [[(vI (-1))],[(vI (-1))],[(vI 1)],[(vI (-1))]],.sl [[(vI 1)],[(vI 2)],[(vI 3)],[(vI 0)]]]) (.agg [.sl (((af.mk ([]:List Cell) ([([(Event.mk 0 0 2 8 0 1 false false 0 0 0 (Deps.mk ([]:List Int) ([]:List Int) ([]:List Int))),(Event.mk 0 1 2 16 0 1 false false 0 0 0 (Deps.mk ([]:List Int) ([]:List Int) ([]:List Int)))]:List Event),([(Event.mk 1 0 1 16 1 0 false false 0 0 0 (Deps.mk ([]:List Int) ([]:List Int) ([]:List Int))),(Event.mk 1 1 1 8 0 0 false false 0 0 0 (Deps.mk ([]:List Int) ([]:List Int) ([]:List Int)))]:List Event)]:List (List Event)) ([(-1),(-1),1,(-1)]:List Int) ([1,2,3,0]:List Int)).First).map Cell.enc),.sl (((af.mk ([]:List Cell) ([([(Event.mk 0 0 2 8 0 1 false false 0 0 0 (Deps.mk ([]:List Int) ([]:List Int) ([]:List Int))),(Event.mk 0 1 2 16 0 1 false false 0 0 0 (Deps.mk ([]:List Int) ([]:List Int) ([]:List Int)))]:List Event),([(Event.mk 1 0 1 16 1 0 false false 0 0 0 (Deps.mk ([]:List Int) ([]:List Int) ([]:List Int))),(Event.mk 1 1 1 8 0 0 false false 0 0 0 (Deps.mk ([]:List Int) ([]:List Int) ([]:List Int)))]:List Event)]:List (List Event)) ([(-1),(-1),1,(-1)]:List Int) ([1,2,3,0]:List Int)).Harts).map (et Event.enc)),.sl (((af.mk ([]:List Cell) ([([(Event.mk 0 0 2 8 0 1 false false 0 0 0 (Deps.mk ([]:List Int) ([]:List Int) ([]:List Int))),(Event.mk 0 1 2 16 0 1 false false 0 0 0 (Deps.mk ([]:List Int) ([]:List Int) ([]:List Int)))]:List Event),([(Event.mk 1 0 1 16 1 0 false false 0 0 0 (Deps.mk ([]:List Int) ([]:List Int) ([]:List Int))),(Event.mk 1 1 1 8 0 0 false false 0 0 0 (Deps.mk ([]:List Int) ([]:List Int) ([]:List Int)))]:List Event)]:List (List Event)) ([(-1),(-1),1,(-1)]:List Int) ([1,2,3,0]:List Int)).From).map eI),.sl (((af.mk ([]:List Cell) ([([(Event.mk 0 0 2 8 0 1 false false 0 0 0 (Deps.mk ([]:List Int) ([]:List Int) ([]:List Int))),(Event.mk 0 1 2 16 0 1 false false 0 0 0 (Deps.mk ([]:List Int) ([]:List Int) ([]:List Int)))]:List Event),([(Event.mk 1 0 1 16 1 0 false false 0 0 0 (Deps.mk ([]:List Int) ([]:List Int) ([]:List Int))),(Event.mk 1 1 1 8 0 0 false false 0 0 0 (Deps.mk ([]:List Int) ([]:List Int) ([]:List Int)))]:List Event)]:List (List Event)) ([(-1),(-1),1,(-1)]:List Int) ([1,2,3,0]:List Int)).Order).map eI)])))) (by kernel_rfl)
 obtain rfl:=aS h
 exact kP (nA GF [rV 3 [(12,vF)]]) GG (fun z=>(aB h1 ((aJ.agg (aV.cons aJ.nil (aV.cons (aJ.sl (eX.cons (aV.cons (aJ.sl (eX.cons (aV.cons (aJ.refl _) (aV.cons (aJ.refl _) (aV.cons (aJ.refl _) (aV.cons (aJ.refl _) (aV.cons (aJ.refl _) (aV.cons (aJ.refl _) (aV.cons (aJ.refl _) (aV.cons (aJ.refl _) (aV.cons (aJ.refl _) (aV.cons (aJ.refl _) (aV.cons (aJ.refl _) (aV.cons aJ.nil (aV.cons aJ.nil (aV.cons aJ.nil aV.nil)))))))))))))) (eX.cons (aV.cons (aJ.refl _) (aV.cons (aJ.refl _) (aV.cons (aJ.refl _) (aV.cons (aJ.refl _) (aV.cons (aJ.refl _) (aV.cons (aJ.refl _) (aV.cons (aJ.refl _) (aV.cons (aJ.refl _) (aV.cons (aJ.refl _) (aV.cons (aJ.refl _) (aV.cons (aJ.refl _) (aV.cons aJ.nil (aV.cons aJ.nil (aV.cons aJ.nil aV.nil)))))))))))))) (eX.cons (aV.cons (aJ.refl _) (aV.cons (aJ.refl _) (aV.cons (aJ.refl _) (aV.cons (aJ.refl _) (aV.cons (aJ.refl _) (aV.cons (aJ.refl _) (aV.cons (aJ.refl _) (aV.cons (aJ.refl _) (aV.cons (aJ.refl _) (aV.cons (aJ.refl _) (aV.cons (aJ.refl _) (aV.cons aJ.nil (aV.cons aJ.nil (aV.cons aJ.nil aV.nil)))))))))))))) eX.nil)))) aV.nil) (eX.cons (aV.cons (aJ.sl (eX.cons (aV.cons (aJ.refl _) (aV.cons (aJ.refl _) (aV.cons (aJ.refl _) (aV.cons (aJ.refl _) (aV.cons (aJ.refl _) (aV.cons (aJ.refl _) (aV.cons (aJ.refl _) (aV.cons (aJ.refl _) (aV.cons (aJ.refl _) (aV.cons (aJ.refl _) (aV.cons (aJ.refl _) (aV.cons aJ.nil (aV.cons aJ.nil (aV.cons aJ.nil aV.nil)))))))))))))) (eX.cons (aV.cons (aJ.refl _) (aV.cons (aJ.refl _) (aV.cons (aJ.refl _) (aV.cons (aJ.refl _) (aV.cons (aJ.refl _) (aV.cons (aJ.refl _) (aV.cons (aJ.refl _) (aV.cons (aJ.refl _) (aV.cons (aJ.refl _) (aV.cons (aJ.refl _) (aV.cons (aJ.refl _) (aV.cons aJ.nil (aV.cons aJ.nil (aV.cons aJ.nil aV.nil)))))))))))))) (eX.cons (aV.cons (aJ.refl _) (aV.cons (aJ.refl _) (aV.cons (aJ.refl _) (aV.cons (aJ.refl _) (aV.cons (aJ.refl _) (aV.cons (aJ.refl _) (aV.cons (aJ.refl _) (aV.cons (aJ.refl _) (aV.cons (aJ.refl _) (aV.cons (aJ.refl _) (aV.cons (aJ.refl _) (aV.cons aJ.nil (aV.cons aJ.nil (aV.cons aJ.nil aV.nil)))))))))))))) eX.nil)))) aV.nil) eX.nil))) (aV.cons (aJ.refl _) (aV.cons (aJ.refl _) aV.nil))))):aJ (.agg [.nilsl,.sl [[.sl [[(vI 0),(vI 0),(vI 2),(vU 8),(vU 0),(vU 1),vF,vF,(vI 0),(vI 0),(vI 0),.nilsl,.nilsl,.nilsl],[(vI 0),(vI 1),(vI 6),(vU 0),(vU 0),(vU 0),vF,vF,(vI 1),(vI 1),(vI 0),.nilsl,.nilsl,.nilsl],[(vI 0),(vI 2),(vI 2),(vU 16),(vU 0),(vU 1),vF,vF,(vI 0),(vI 0),(vI 0),.nilsl,.nilsl,.nilsl]]],[.sl [[(vI 1),(vI 0),(vI 1),(vU 16),(vU 1),(vU 0),vF,vF,(vI 0),(vI 0),(vI 0),.nilsl,.nilsl,.nilsl],[(vI 1),(vI 1),(vI 6),(vU 0),(vU 0),(vU 0),vF,vF,(vI 2),(vI 2),(vI 0),.nilsl,.nilsl,.nilsl],[(vI 1),(vI 2),(vI 1),(vU 8),(vU 0),(vU 0),vF,vF,(vI 0),(vI 0),(vI 0),.nilsl,.nilsl,.nilsl]]]],.sl [[(vI (-1))],[(vI (-1))],[(vI (-1))],[(vI 2)],[(vI (-1))],[(vI (-1))]],.sl [[(vI 2)],[(vI 3)],[(vI 5)],[(vI 0)]]]) (.agg [.sl (((af.mk ([]:List Cell) ([([(Event.mk 0 0 2 8 0 1 false false 0 0 0 (Deps.mk ([]:List Int) ([]:List Int) ([]:List Int))),(Event.mk 0 1 6 0 0 0 false false 1 1 0 (Deps.mk ([]:List Int) ([]:List Int) ([]:List Int))),(Event.mk 0 2 2 16 0 1 false false 0 0 0 (Deps.mk ([]:List Int) ([]:List Int) ([]:List Int)))]:List Event),([(Event.mk 1 0 1 16 1 0 false false 0 0 0 (Deps.mk ([]:List Int) ([]:List Int) ([]:List Int))),(Event.mk 1 1 6 0 0 0 false false 2 2 0 (Deps.mk ([]:List Int) ([]:List Int) ([]:List Int))),(Event.mk 1 2 1 8 0 0 false false 0 0 0 (Deps.mk ([]:List Int) ([]:List Int) ([]:List Int)))]:List Event)]:List (List Event)) ([(-1),(-1),(-1),2,(-1),(-1)]:List Int) ([2,3,5,0]:List Int)).First).map Cell.enc),.sl (((af.mk ([]:List Cell) ([([(Event.mk 0 0 2 8 0 1 false false 0 0 0 (Deps.mk ([]:List Int) ([]:List Int) ([]:List Int))),(Event.mk 0 1 6 0 0 0 false false 1 1 0 (Deps.mk ([]:List Int) ([]:List Int) ([]:List Int))),(Event.mk 0 2 2 16 0 1 false false 0 0 0 (Deps.mk ([]:List Int) ([]:List Int) ([]:List Int)))]:List Event),([(Event.mk 1 0 1 16 1 0 false false 0 0 0 (Deps.mk ([]:List Int) ([]:List Int) ([]:List Int))),(Event.mk 1 1 6 0 0 0 false false 2 2 0 (Deps.mk ([]:List Int) ([]:List Int) ([]:List Int))),(Event.mk 1 2 1 8 0 0 false false 0 0 0 (Deps.mk ([]:List Int) ([]:List Int) ([]:List Int)))]:List Event)]:List (List Event)) ([(-1),(-1),(-1),2,(-1),(-1)]:List Int) ([2,3,5,0]:List Int)).Harts).map (et Event.enc)),.sl (((af.mk ([]:List Cell) ([([(Event.mk 0 0 2 8 0 1 false false 0 0 0 (Deps.mk ([]:List Int) ([]:List Int) ([]:List Int))),(Event.mk 0 1 6 0 0 0 false false 1 1 0 (Deps.mk ([]:List Int) ([]:List Int) ([]:List Int))),(Event.mk 0 2 2 16 0 1 false false 0 0 0 (Deps.mk ([]:List Int) ([]:List Int) ([]:List Int)))]:List Event),([(Event.mk 1 0 1 16 1 0 false false 0 0 0 (Deps.mk ([]:List Int) ([]:List Int) ([]:List Int))),(Event.mk 1 1 6 0 0 0 false false 2 2 0 (Deps.mk ([]:List Int) ([]:List Int) ([]:List Int))),(Event.mk 1 2 1 8 0 0 false false 0 0 0 (Deps.mk ([]:List Int) ([]:List Int) ([]:List Int)))]:List Event)]:List (List Event)) ([(-1),(-1),(-1),2,(-1),(-1)]:List Int) ([2,3,5,0]:List Int)).From).map eI),.sl (((af.mk ([]:List Cell) ([([(Event.mk 0 0 2 8 0 1 false false 0 0 0 (Deps.mk ([]:List Int) ([]:List Int) ([]:List Int))),(Event.mk 0 1 6 0 0 0 false false 1 1 0 (Deps.mk ([]:List Int) ([]:List Int) ([]:List Int))),(Event.mk 0 2 2 16 0 1 false false 0 0 0 (Deps.mk ([]:List Int) ([]:List Int) ([]:List Int)))]:List Event),([(Event.mk 1 0 1 16 1 0 false false 0 0 0 (Deps.mk ([]:List Int) ([]:List Int) ([]:List Int))),(Event.mk 1 1 6 0 0 0 false false 2 2 0 (Deps.mk ([]:List Int) ([]:List Int) ([]:List Int))),(Event.mk 1 2 1 8 0 0 false false 0 0 0 (Deps.mk ([]:List Int) ([]:List Int) ([]:List Int)))]:List Event)]:List (List Event)) ([(-1),(-1),(-1),2,(-1),(-1)]:List Int) ([2,3,5,0]:List Int)).Order).map eI)])))) (by kernel_rfl)

def rL:List (Nat×PT):=[(4,(eO [0,1,2,3,4,5,6,7,8,9,10,11,12,13,14,15,16,17,18]))]
theorem GH:aA (ao 75) rL (al Tryz.prog 75)=true:=by kernel_rfl
noncomputable def Z0:Code:=sub (al Tryz.prog 75) [1,0,1,0,0]
theorem Z1:aA (ao 75) rL Z0=true:=by kernel_rfl
def Z2 (l:(List Cell)) (sa:Int):St:=bm 32 [(0,.sl (l.map Cell.enc)),(5,.sl (l.map Cell.enc)),(6,(vI (l.length:Int))),(7,(vI sa))] [] [] 0
def Z3 (l:(List Cell)) (tt:Unit):St:=bm 32 [] [] [] 0
def Z4 (l:(List Cell)) (tt:Unit):St:=bm 32 [(2,vF)] [] [] 0
def Z5 (l:(List Cell)) (t0:(Unit⊕Unit)):Ex×St:=match t0 with | .inl tt=>(.ex 0,Z3 l tt) | .inr tt=>(.ret,Z4 l tt)
theorem Z6 (n:Nat) (l:(List Cell)):∀ sa r,lT n l sa=some r→aW Tryz.prog Z0 (Z2 l sa) (rk (Z2 l) (Z5 l) r):=by
 intro sa r h
 unfold lT at h
 rcases aG h with ⟨ha1,h⟩ | ⟨ha1,h⟩
 ·
  exact kQ h (nA rL [rV 2 [(8,vF)]]) [wK 2 [] [] 0] Z1 (co rfl j8) (fun z=>(aB ha1 z)) (by kernel_rfl)
 obtain ⟨xa2,gxa2,h⟩:=ac h
 have Ms:=fun (R:Prop) (z:R)=>(aB ha1 (aM Cell.enc gxa2 z))
 let e2_:LR:=[rV 2 [(8,vT)],rR 3 [(10,(Cell.enc xa2))]]
 rcases au h with ⟨ha3,h⟩ | ⟨ha3,h⟩
 ·
  exact kQ h (nA rL (e2_++[rV 4 [(16,vT)]])) [wK 1 [2] [4] 0] Z1 (co rfl fT) (fun z=>(Ms _ (aB ha3 z))) (by kernel_rfl)
 rcases aG h with ⟨ha4,h⟩ | ⟨ha4,h⟩
 ·
  exact kQ h (nA rL (e2_++[rV 4 [(16,vF),(19,vF)]])) [wK 0 [0,5,6,7] [4] 0] Z1 cS (fun z=>(Ms _ (aB ha3 (aB ha4 z)))) (by kernel_rfl)
 obtain ⟨xa5,gxa5,h⟩:=ac h
 have Ps:=fun (R:Prop) (z:R)=>(aB ha3 (aB ha4 (aM Cell.enc gxa5 z)))
 rcases au h with ⟨ha6,h⟩ | ⟨ha6,h⟩
 ·
  exact kQ h (nA rL (e2_++[(4,⟨[],[],[(23,(Cell.enc xa5))],[(16,vF),(19,vT),(30,vT)],[],[],[],[],[]⟩)])) [wK 1 [2] [4] 0] Z1 (co rfl fT) (fun z=>(Ms _ (Ps _ (aB ha6 z)))) (by kernel_rfl)
 exact kQ h (nA rL (e2_++[(4,⟨[],[],[(23,(Cell.enc xa5))],[(16,vF),(19,vT),(30,vF)],[],[],[],[],[]⟩)])) [wK 0 [0,5,6,7] [4] 0] Z1 cS (fun z=>(Ms _ (Ps _ (aB ha6 z)))) (by kernel_rfl)

theorem wO (n:Nat) (l:(List Cell)) (r:Bool) (h:kF n l=some r):az Tryz.prog 75 [.sl (l.map Cell.enc)] (eY (.v (.bool r))):=by
 unfold kF at h
 obtain ⟨t1,gt1,h⟩:=ac h
 rcases t1 with w2 | w2
 ·
  obtain rfl:=aS h
  exact kP ⟨rL,[rV 1 [(6,(vI (l.length:Int)))]],[],[(2,(⟨[0,5,6,7],[],0,[],[],[]⟩,l0,(.ex 0),Z3 l w2))],[]⟩ GH (fun z=>(aL Cell.enc l (aI (eA (pl:=ao 75) (Z2 l) (Z5 l) (Z6 n l) n _ (.inl w2) gt1) z))) (by kernel_rfl)
 ·
  obtain rfl:=aS h
  exact kP ⟨rL,[rV 1 [(6,(vI (l.length:Int)))]],[],[(2,(⟨[0,5,6,7],[],0,[],[],[]⟩,l0,.ret,Z4 l w2))],[]⟩ GH (fun z=>(aL Cell.enc l (aI (eA (pl:=ao 75) (Z2 l) (Z5 l) (Z6 n l) n _ (.inr w2) gt1) z))) (by kernel_rfl)

def p7:List (Nat×PT):=[]
theorem nj:aA (ao 65) p7 (al Tryz.prog 65)=true:=by kernel_rfl
theorem l8 (n:Nat) (kind:Int) (r:Int) (h:i_ n kind=some r):az Tryz.prog 65 [(vI kind)] (eY ((vU r))):=by
 unfold i_ at h
 rcases au h with ⟨h1,h⟩ | ⟨h1,h⟩
 ·
  obtain rfl:=aS h
  exact kP (nA p7 [rV 1 [(5,vT)]]) nj (fun z=>(aB h1 z)) (by kernel_rfl)
 rcases au h with ⟨h2,h⟩ | ⟨h2,h⟩
 ·
  obtain rfl:=aS h
  exact kP (nA p7 [rV 1 [(5,vF),(8,vT)]]) nj (fun z=>(aB h1 (aB h2 z))) (by kernel_rfl)
 have Jl:=fun (R:Prop) (z:R)=>(aB h1 (aB h2 z))
 let e5_:LR:=[rV 1 [(5,vF),(8,vF)]]
 rcases au h with ⟨h3,h⟩ | ⟨h3,h⟩
 ·
  obtain rfl:=aS h
  exact kP (nA p7 (e5_++[rV 3 [(10,(vI 0))]])) nj (fun z=>(Jl _ (aE .i64 h3 z))) (by kernel_rfl)
 rcases au h with ⟨h3,h⟩ | ⟨h3,h⟩
 ·
  obtain rfl:=aS h
  exact kP (nA p7 (e5_++[rV 3 [(10,(vI 1))]])) nj (fun z=>(Jl _ (aE .i64 h3 z))) (by kernel_rfl)
 rcases au h with ⟨h3,h⟩ | ⟨h3,h⟩
 ·
  obtain rfl:=aS h
  exact kP (nA p7 (e5_++[rV 3 [(10,(vI 2))]])) nj (fun z=>(Jl _ (aE .i64 h3 z))) (by kernel_rfl)
 rcases au h with ⟨h3,h⟩ | ⟨h3,h⟩
 ·
  obtain rfl:=aS h
  exact kP (nA p7 (e5_++[rV 3 [(10,(vI 3))]])) nj (fun z=>(Jl _ (aE .i64 h3 z))) (by kernel_rfl)
 rcases au h with ⟨h3,h⟩ | ⟨h3,h⟩
 ·
  obtain rfl:=aS h
  exact kP (nA p7 (e5_++[rV 3 [(10,(vI 4))]])) nj (fun z=>(Jl _ (aE .i64 h3 z))) (by kernel_rfl)
 rcases au h with ⟨h3,h⟩ | ⟨h3,h⟩
 ·
  obtain rfl:=aS h
  exact kP (nA p7 (e5_++[rV 3 [(10,(vI 5))]])) nj (fun z=>(Jl _ (aE .i64 h3 z))) (by kernel_rfl)
 rcases au h with ⟨h3,h⟩ | ⟨h3,h⟩
 ·
  obtain rfl:=aS h
  exact kP (nA p7 (e5_++[rV 3 [(10,(vI 6))]])) nj (fun z=>(Jl _ (aE .i64 h3 z))) (by kernel_rfl)
 cases h

def oM:List (Nat×PT):=[(6,(eO [0,1,2,3,4,5,6,7,8]))]
theorem Af:aA (ao 130) oM (al Tryz.prog 130)=true:=by kernel_rfl
noncomputable def Z7:Code:=sub (al Tryz.prog 130) [1,1,0,1,0,0]
theorem Z8:aA (ao 130) oM Z7=true:=by kernel_rfl
def Z9 (s1_:(List Int)) (s2_:(List Int)) (sa:Int):St:=bm 26 [(0,.sl (s1_.map eI)),(1,.sl (s2_.map eI)),(12,(vI (s1_.length:Int))),(13,(vI sa))] [] [] 0
def QP (s1_:(List Int)) (s2_:(List Int)) (tt:Unit):St:=bm 26 [] [] [] 0
def QQ (s1_:(List Int)) (s2_:(List Int)) (tt:Unit):St:=bm 26 [(4,vF)] [] [] 0
def PG (s1_:(List Int)) (s2_:(List Int)) (t0:(Unit⊕Unit)):Ex×St:=match t0 with | .inl tt=>(.ex 0,QP s1_ s2_ tt) | .inr tt=>(.ret,QQ s1_ s2_ tt)
theorem QR (n:Nat) (s1_:(List Int)) (s2_:(List Int)):∀ sa r,bq n s1_ s2_ sa=some r→aW Tryz.prog Z7 (Z9 s1_ s2_ sa) (rk (Z9 s1_ s2_) (PG s1_ s2_) r):=by
 intro sa r h
 unfold bq at h
 rcases aG h with ⟨ha1,h⟩ | ⟨ha1,h⟩
 ·
  exact kQ h (nA oM [rV 4 [(14,vF)]]) [wK 2 [] [] 0] Z8 (co rfl j8) (fun z=>(aB ha1 z)) (by kernel_rfl)
 obtain ⟨xa2,gxa2,h⟩:=ac h
 obtain ⟨xa3,gxa3,h⟩:=ac h
 have c6_:=fun (R:Prop) (z:R)=>(aB ha1 (aM eI gxa2 (aM eI gxa3 z)))
 rcases au h with ⟨ha4,h⟩ | ⟨ha4,h⟩
 ·
  exact kQ h (nA oM [rV 4 [(14,vT)],(6,⟨[],[],[(18,[(vI xa2)]),(22,[(vI xa3)])],[(24,vT)],[],[],[],[],[]⟩)]) [wK 1 [4] [] 0] Z8 (co rfl fT) (fun z=>(c6_ _ (aB ha4 z))) (by kernel_rfl)
 exact kQ h (nA oM [rV 4 [(14,vT)],(6,⟨[],[],[(18,[(vI xa2)]),(22,[(vI xa3)])],[(24,vF)],[],[],[],[],[]⟩)]) [wK 0 [0,1,12,13] [] 0] Z8 cS (fun z=>(c6_ _ (aB ha4 z))) (by kernel_rfl)

theorem eS (n:Nat) (s1_:(List Int)) (s2_:(List Int)) (r:Bool) (h:bP n s1_ s2_=some r):az Tryz.prog 130 [.sl (s1_.map eI),.sl (s2_.map eI)] (eY (.v (.bool r))):=by
 unfold bP at h
 rcases au h with ⟨h1,h⟩ | ⟨h1,h⟩
 ·
  obtain rfl:=aS h
  exact kP (nA oM [rV 1 [(7,(vI (s1_.length:Int))),(9,(vI (s2_.length:Int))),(10,vT)]]) Af (fun z=>(aL eI s1_ (aL eI s2_ (aB h1 z)))) (by kernel_rfl)
 obtain ⟨t2,gt2,h⟩:=ac h
 have d0_:AV.v (.int .i64 (((s1_.map eI).length:Nat):Int))=AV.v (.int .i64 (s1_.length:Int)):=u7 _ _
 have c7_:=fun (R:Prop) (z:R)=>(aI d0_ (aL eI s2_ (aB h1 (aI d0_ z))))
 rcases t2 with w3 | w3
 ·
  obtain rfl:=aS h
  exact kP ⟨oM,[rV 1 [(7,(vI (s1_.length:Int))),(9,(vI (s2_.length:Int))),(10,vF)],rV 3 [(12,(vI (s1_.length:Int)))]],[],[(4,(⟨[0,1,12,13],[],0,[],[],[]⟩,l0,(.ex 0),QP s1_ s2_ w3))],[]⟩ Af (fun z=>(c7_ _ (aI (eA (pl:=ao 130) (Z9 s1_ s2_) (PG s1_ s2_) (QR n s1_ s2_) n _ (.inl w3) gt2) z))) (by kernel_rfl)
 ·
  obtain rfl:=aS h
  exact kP ⟨oM,[rV 1 [(7,(vI (s1_.length:Int))),(9,(vI (s2_.length:Int))),(10,vF)],rV 3 [(12,(vI (s1_.length:Int)))]],[],[(4,(⟨[0,1,12,13],[],0,[],[],[]⟩,l0,.ret,QQ s1_ s2_ w3))],[]⟩ Af (fun z=>(c7_ _ (aI (eA (pl:=ao 130) (Z9 s1_ s2_) (PG s1_ s2_) (QR n s1_ s2_) n _ (.inr w3) gt2) z))) (by kernel_rfl)

def GI:List (Nat×PT):=[]
theorem ID:aA (ao 131) GI (al Tryz.prog 131)=true:=by kernel_rfl
theorem mH (n:Nat) (e:Event) (r:aT) (h:iy n e=some r):az Tryz.prog 131 [(bT Event.enc e)] (eY ((bT aT.enc r))):=by
 unfold iy at h
 obtain rfl:=aS h
 exact kP (nA GI []) ID (fun z=>z) (by kernel_rfl)

def te:List (Nat×PT):=[(1,(eO [0,1,2,3,4,5,6,7])),(5,(eO [0,1,2,3,4,5,6,7]))]
theorem rM:aA (ao 100) te (al Tryz.prog 100)=true:=by kernel_rfl
theorem wP (n:Nat) (a:Event) (b:Event) (r:Bool) (h:kG n a b=some r):az Tryz.prog 100 [(bT Event.enc a),(bT Event.enc b)] (eY (.v (.bool r))):=by
 unfold kG at h
 obtain ⟨y1,gy1,h⟩:=ac h
 have c8_:=fun (R:Prop) (z:R)=>(aI (eS n a.Deps.Addr b.Deps.Addr y1 gy1) z)
 rcases au h with ⟨h2,h⟩ | ⟨h2,h⟩
 ·
  obtain rfl:=aS h
  exact kP (nA te [bh 2 [(18,vT)] [(16,.v (.bool y1))]]) rM (fun z=>(c8_ _ (aB h2 z))) (by kernel_rfl)
 obtain ⟨y3,gy3,h⟩:=ac h
 have c9_:=fun (R:Prop) (z:R)=>(aB h2 (aI (eS n a.Deps.Data b.Deps.Data y3 gy3) z))
 rcases au h with ⟨h4,h⟩ | ⟨h4,h⟩
 ·
  obtain rfl:=aS h
  exact kP (nA te [bh 2 [(18,vF),(26,vT)] [(16,.v (.bool y1)),(23,.v (.bool y3))]]) rM (fun z=>(c8_ _ (c9_ _ (aB h4 z)))) (by kernel_rfl)
 obtain ⟨y5,gy5,h⟩:=ac h
 have c10_:=fun (R:Prop) (z:R)=>(aB h4 (aI (eS n a.Deps.Way b.Deps.Way y5 gy5) z))
 rcases au h with ⟨h6,h⟩ | ⟨h6,h⟩
 ·
  obtain rfl:=aS h
  exact kP (nA te [bh 2 [(18,vF),(26,vF),(33,vT)] [(16,.v (.bool y1)),(23,.v (.bool y3)),(31,.v (.bool y5))]]) rM (fun z=>(c8_ _ (c9_ _ (c10_ _ (aB h6 z))))) (by kernel_rfl)
 obtain ⟨y7,gy7,h⟩:=ac h
 obtain ⟨y8,gy8,h⟩:=ac h
 have c11_:=fun (R:Prop) (z:R)=>(aB h6 (aI (mH n a y7 gy7) (aI (mH n b y8 gy8) z)))
 rcases au h with ⟨h9,h⟩ | ⟨h9,h⟩
 ·
  obtain rfl:=aS h
  exact kP (nA te [bh 2 [(18,vF),(26,vF),(33,vF)] [(16,.v (.bool y1)),(23,.v (.bool y3)),(31,.v (.bool y5))],(5,⟨[],[40],[],[(40,vT)],[(36,(bT aT.enc y7)),(39,(bT aT.enc y8))],[],[],[],[]⟩)]) rM (fun z=>(c8_ _ (c9_ _ (c10_ _ (c11_ _ (aI ((jV y7 y8).trans (congrArg (fun b=>some (Value.bool b)) h9):nN Tryz.prog .eql 148 [(.int .i64 y7.hart),(.int .i64 y7.at_),(.int .i64 y7.kind),(.int .i64 y7.pred),(.int .i64 y7.succ),(.int .i64 y7.pair),(.int .u64 y7.addr),(.int .u64 y7.load),(.int .u64 y7.store),(.bool y7.aq),(.bool y7.rl)] [(.int .i64 y8.hart),(.int .i64 y8.at_),(.int .i64 y8.kind),(.int .i64 y8.pred),(.int .i64 y8.succ),(.int .i64 y8.pair),(.int .u64 y8.addr),(.int .u64 y8.load),(.int .u64 y8.store),(.bool y8.aq),(.bool y8.rl)]=some (.bool true)) (aI (rfl:AV.v (.bool true)=AV.v (.bool true)) z))))))) (by kernel_rfl)
 obtain rfl:=aS h
 exact kP (nA te [bh 2 [(18,vF),(26,vF),(33,vF)] [(16,.v (.bool y1)),(23,.v (.bool y3)),(31,.v (.bool y5))],(5,⟨[],[40],[],[(40,vF)],[(36,(bT aT.enc y7)),(39,(bT aT.enc y8))],[],[],[],[]⟩)]) rM (fun z=>(c8_ _ (c9_ _ (c10_ _ (c11_ _ (aI ((jV y7 y8).trans (congrArg (fun b=>some (Value.bool b)) h9):nN Tryz.prog .eql 148 [(.int .i64 y7.hart),(.int .i64 y7.at_),(.int .i64 y7.kind),(.int .i64 y7.pred),(.int .i64 y7.succ),(.int .i64 y7.pair),(.int .u64 y7.addr),(.int .u64 y7.load),(.int .u64 y7.store),(.bool y7.aq),(.bool y7.rl)] [(.int .i64 y8.hart),(.int .i64 y8.at_),(.int .i64 y8.kind),(.int .i64 y8.pred),(.int .i64 y8.succ),(.int .i64 y8.pair),(.int .u64 y8.addr),(.int .u64 y8.load),(.int .u64 y8.store),(.bool y8.aq),(.bool y8.rl)]=some (.bool false)) (aI (rfl:AV.v (.bool false)=AV.v (.bool false)) z))))))) (by kernel_rfl)

def qQ:List (Nat×PT):=[]
theorem D5:aA (ao 132) qQ (al Tryz.prog 132)=true:=by kernel_rfl
noncomputable def QS:Code:=sub (al Tryz.prog 132) [1,1,0,1,0,0]
theorem PH:aA (ao 132) qQ QS=true:=by kernel_rfl
def Pn (l:(List Int)) (sa:Int×Int):St:=bm 17 [(3,(vI sa.1)),(6,.sl (l.map eI)),(7,(vI (l.length:Int))),(8,(vI sa.2))] [] [] 0
def QT (l:(List Int)) (tt:Unit):St:=bm 17 [] [] [] 0
def QU (l:(List Int)) (tt:Unit):St:=bm 17 [(2,vF)] [] [] 0
def PI (l:(List Int)) (t0:(Unit⊕Unit)):Ex×St:=match t0 with | .inl tt=>(.ex 0,QT l tt) | .inr tt=>(.ret,QU l tt)
theorem QV (n:Nat) (l:(List Int)):∀ sa r,cJ n l sa=some r→aW Tryz.prog QS (Pn l sa) (rk (Pn l) (PI l) r):=by
 intro sa r h
 unfold cJ at h
 rcases aG h with ⟨ha1,h⟩ | ⟨ha1,h⟩
 ·
  exact kQ h (nA qQ [rV 3 [(9,vF)]]) [wK 2 [] [] 0] PH (co rfl j8) (fun z=>(aB ha1 z)) (by kernel_rfl)
 obtain ⟨xa2,gxa2,h⟩:=ac h
 have c12_:=fun (R:Prop) (z:R)=>(aB ha1 (aM eI gxa2 z))
 rcases au h with ⟨ha3,h⟩ | ⟨ha3,h⟩
 ·
  exact kQ h (nA qQ [rV 3 [(9,vT)],rR 4 [(10,[(vI xa2)])],rV 5 [(14,vT)]]) [wK 1 [2] [] 0] PH (co rfl fT) (fun z=>(c12_ _ (aB ha3 z))) (by kernel_rfl)
 exact kQ h (nA qQ [rV 3 [(9,vT)],rR 4 [(10,[(vI xa2)])],rV 5 [(14,vF)]]) [wK 0 [3,6,7,8] [] 0] PH cS (fun z=>(c12_ _ (aB ha3 z))) (by kernel_rfl)

theorem tf (n:Nat) (l:(List Int)) (r:Bool) (h:iz n l=some r):az Tryz.prog 132 [.sl (l.map eI)] (eY (.v (.bool r))):=by
 unfold iz at h
 obtain ⟨t1,gt1,h⟩:=ac h
 rcases t1 with w2 | w2
 ·
  obtain rfl:=aS h
  exact kP ⟨qQ,[rV 2 [(7,(vI (l.length:Int)))]],[],[(3,(⟨[3,6,7,8],[],0,[],[],[]⟩,l0,(.ex 0),QT l w2))],[]⟩ D5 (fun z=>(aL eI l (aI (eA (pl:=ao 132) (Pn l) (PI l) (QV n l) n _ (.inl w2) gt1) z))) (by kernel_rfl)
 ·
  obtain rfl:=aS h
  exact kP ⟨qQ,[rV 2 [(7,(vI (l.length:Int)))]],[],[(3,(⟨[3,6,7,8],[],0,[],[],[]⟩,l0,.ret,QU l w2))],[]⟩ D5 (fun z=>(aL eI l (aI (eA (pl:=ao 132) (Pn l) (PI l) (QV n l) n _ (.inr w2) gt1) z))) (by kernel_rfl)

def Ag:List (Nat×PT):=[]
theorem Ah:aA (ao 101) Ag (al Tryz.prog 101)=true:=by kernel_rfl
theorem eF (n:Nat) (l:(List Int)) (at_:Int) (r:Bool) (h:dN n l at_=some r):az Tryz.prog 101 [.sl (l.map eI),(vI at_)] (eY (.v (.bool r))):=by
 unfold dN at h
 obtain ⟨y1,gy1,h⟩:=ac h
 have c13_:=fun (R:Prop) (z:R)=>(aI (tf n l y1 gy1) z)
 rcases aG h with ⟨h2,h⟩ | ⟨h2,h⟩
 ·
  obtain rfl:=aS h
  exact kP (nA Ag [bh 1 [(7,vF)] [(6,.v (.bool y1))]]) Ah (fun z=>(c13_ _ (aB h2 z))) (by kernel_rfl)
 have c14_:=fun (R:Prop) (z:R)=>(aB h2 (aL eI l z))
 rcases au h with ⟨h3,h⟩ | ⟨h3,h⟩
 ·
  obtain rfl:=aS h
  exact kP (nA Ag [bh 1 [(7,vT),(9,(vI (l.length:Int))),(11,vT)] [(6,.v (.bool y1))]]) Ah (fun z=>(c13_ _ (c14_ _ (aB h3 z)))) (by kernel_rfl)
 obtain ⟨x4,gx4,h⟩:=ac h
 obtain rfl:=aS h
 exact kP (nA Ag [(1,⟨[],[],[(16,[(vI x4)])],[(7,vT),(9,(vI (l.length:Int))),(11,vF),(14,(vI (l.length:Int)))],[(6,.v (.bool y1))],[],[],[],[]⟩)]) Ah (fun z=>(c13_ _ (c14_ _ (aB h3 (aL eI l (aM eI gx4 z)))))) (by kernel_rfl)

def dh:List (Nat×PT):=[(5,(eO [0,1,2,3,4,5,6,7])),(6,(eO [0,1,2,3,4,5,6,7,8,9,10])),(10,(eO [0,1,2,3,4,5,6,7,8])),(12,(eO [0,1,2,3,4,5,6,7]))]
theorem GJ:aA (ao 87) dh (al Tryz.prog 87)=true:=by kernel_rfl
noncomputable def PK:Code:=sub (al Tryz.prog 87) [1,1,1,1,1]
noncomputable def PL:Code:=sub PK [1]
noncomputable def PM:Code:=sub PL [1]
noncomputable def PN:Code:=sub PM [1]
noncomputable def QW:Code:=sub PN [1]
theorem yZ:aA (ao 87) dh QW=true:=by kernel_rfl
def RX (e:Event) (y1:Int) (sf:Int×(List Int)×(List Int)×(List Int)×Int×Int×Int×Bool×Bool×Int×Int):St:=bm 134 [(1,.ptr (.L 1) 0 0),(3,(vU y1)),(4,.ptr (.L 4) 0 0),(5,.ptr (.L 5) 0 0)] [(5,[(vI e.Hart),(vI e.At),(vI e.Kind),(vU sf.2.2.2.2.1),(vU sf.2.2.2.2.2.1),(vU sf.2.2.2.2.2.2.1),.v (.bool sf.2.2.2.2.2.2.2.1),.v (.bool sf.2.2.2.2.2.2.2.2.1),(vI sf.2.2.2.2.2.2.2.2.2.1),(vI sf.2.2.2.2.2.2.2.2.2.2),(vI sf.1),.sl (sf.2.1.map eI),.sl (sf.2.2.1.map eI),.sl (sf.2.2.2.1.map eI)]),(4,(Deps.enc e.Deps)),(1,(Event.enc e))] [] 0
def PO (e:Event) (y1:Int) (tt:Int):St:=bm 134 [(2,(vI tt))] [] [] 0
def RY (e:Event) (y1:Int) (tt:Int):Ex×St:=(.ret,PO e y1 tt)
theorem QX (n:Nat) (e:Event) (y1:Int):∀ sf t,dk n e y1 sf=some t→aW Tryz.prog QW (RX e y1 sf) (pk (RY e y1) t):=by
 intro sf t h
 unfold dk at h
 rcases au h with ⟨hf1,h⟩ | ⟨hf1,h⟩
 ·
  exact kQ h (nA dh [rV 15 [(67,vT)]]) [wK 1 [2] [5,4,1] 0] yZ (ki rfl) (fun z=>(aB hf1 z)) (by kernel_rfl)
 let e15_:LR:=[rV 15 [(67,vF)]]
 rcases au h with ⟨hf2,h⟩ | ⟨hf2,h⟩
 ·
  exact kQ h (nA dh (e15_++[rV 16 [(67,vT)]])) [wK 1 [2] [5,4,1] 0] yZ (ki rfl) (fun z=>(aB hf1 (aB hf2 z))) (by kernel_rfl)
 have c16_:=fun (R:Prop) (z:R)=>(aB hf1 (aB hf2 z))
 let e17_:LR:=[rV 16 [(67,vF)]]
 rcases au h with ⟨hf3,h⟩ | ⟨hf3,h⟩
 ·
  exact kQ h (nA dh (e15_++(e17_++[rV 17 [(67,vT)]]))) [wK 1 [2] [5,4,1] 0] yZ (ki rfl) (fun z=>(c16_ _ (aB hf3 z))) (by kernel_rfl)
 let e18_:LR:=[rV 17 [(67,vF)]]
 rcases au h with ⟨hf4,h⟩ | ⟨hf4,h⟩
 ·
  exact kQ h (nA dh (e15_++(e17_++(e18_++[rV 18 [(67,vT)]])))) [wK 1 [2] [5,4,1] 0] yZ (ki rfl) (fun z=>(c16_ _ (aB hf3 (aB hf4 z)))) (by kernel_rfl)
 obtain ⟨yf5,gyf5,h⟩:=ac h
 have c19_:=fun (R:Prop) (z:R)=>(aB hf3 (aB hf4 (aI (wP n (Event.mk e.Hart e.At e.Kind sf.2.2.2.2.1 sf.2.2.2.2.2.1 sf.2.2.2.2.2.2.1 sf.2.2.2.2.2.2.2.1 sf.2.2.2.2.2.2.2.2.1 sf.2.2.2.2.2.2.2.2.2.1 sf.2.2.2.2.2.2.2.2.2.2 sf.1 (Deps.mk sf.2.1 sf.2.2.1 sf.2.2.2.1)) e yf5 gyf5) z)))
 let e20_:LR:=[rV 18 [(67,vF)]]
 rcases au h with ⟨hf6,h⟩ | ⟨hf6,h⟩
 ·
  exact kQ h (nA dh (e15_++(e17_++(e18_++(e20_++[bh 19 [(67,vT)] [(81,.v (.bool yf5))]]))))) [wK 1 [2] [5,4,1] 0] yZ (ki rfl) (fun z=>(c16_ _ (c19_ _ (aB hf6 z)))) (by kernel_rfl)
 let e21_:LR:=[bh 19 [(67,vF)] [(81,.v (.bool yf5))]]
 rcases au h with ⟨hf7,h⟩ | ⟨hf7,h⟩
 ·
  exact kQ h (nA dh (e15_++(e17_++(e18_++(e20_++(e21_++[rV 21 [(83,vT)]])))))) [wK 1 [2] [5,4,1] 0] yZ (ki rfl) (fun z=>(c16_ _ (c19_ _ (aB hf6 (aB hf7 z))))) (by kernel_rfl)
 have c22_:=fun (R:Prop) (z:R)=>(aB hf6 (aB hf7 z))
 let e23_:LR:=[rV 21 [(83,vF)]]
 rcases au h with ⟨hf8,h⟩ | ⟨hf8,h⟩
 ·
  exact kQ h (nA dh (e15_++(e17_++(e18_++(e20_++(e21_++(e23_++[rV 22 [(83,vT)]]))))))) [wK 1 [2] [5,4,1] 0] yZ (ki rfl) (fun z=>(c16_ _ (c19_ _ (c22_ _ (aB hf8 z))))) (by kernel_rfl)
 let e24_:LR:=[rV 22 [(83,vF)]]
 rcases au h with ⟨hf9,h⟩ | ⟨hf9,h⟩
 ·
  exact kQ h (nA dh (e15_++(e17_++(e18_++(e20_++(e21_++(e23_++(e24_++[rV 23 [(83,vT)]])))))))) [wK 1 [2] [5,4,1] 0] yZ (ki rfl) (fun z=>(c16_ _ (c19_ _ (c22_ _ (aB hf8 (aB hf9 z)))))) (by kernel_rfl)
 have c25_:=fun (R:Prop) (z:R)=>(aB hf8 (aB hf9 z))
 let e26_:LR:=[rV 23 [(83,vF)]]
 rcases au h with ⟨hf10,h⟩ | ⟨hf10,h⟩
 ·
  exact kQ h (nA dh (e15_++(e17_++(e18_++(e20_++(e21_++(e23_++(e24_++(e26_++[rV 24 [(83,vT)]]))))))))) [wK 1 [2] [5,4,1] 0] yZ (ki rfl) (fun z=>(c16_ _ (c19_ _ (c22_ _ (c25_ _ (aB hf10 z)))))) (by kernel_rfl)
 let e27_:LR:=[rV 24 [(83,vF)]]
 rcases au h with ⟨hf11,h⟩ | ⟨hf11,h⟩
 ·
  exact kQ h (nA dh (e15_++(e17_++(e18_++(e20_++(e21_++(e23_++(e24_++(e26_++(e27_++[rV 25 [(83,vT)]])))))))))) [wK 1 [2] [5,4,1] 0] yZ (ki rfl) (fun z=>(c16_ _ (c19_ _ (c22_ _ (c25_ _ (aB hf10 (aB hf11 z))))))) (by kernel_rfl)
 have c28_:=fun (R:Prop) (z:R)=>(aB hf10 (aB hf11 z))
 let e29_:LR:=[rV 25 [(83,vF)]]
 rcases aG h with ⟨hf12,h⟩ | ⟨hf12,h⟩
 ·
  obtain ⟨yf13,gyf13,h⟩:=ac h
  have c36_:=fun (R:Prop) (z:R)=>(aB hf12 (aI (eF n e.Deps.Addr e.At yf13 gyf13) z))
  let e37_:LR:=[rV 27 [(104,vF)]]
  rcases au h with ⟨hf14,h⟩ | ⟨hf14,h⟩
  ·
   exact kQ h (nA dh (e15_++(e17_++(e18_++(e20_++(e21_++(e23_++(e24_++(e26_++(e27_++(e29_++(e37_++[bh 28 [(100,vT)] [(120,.v (.bool yf13))]])))))))))))) [wK 1 [2] [5,4,1] 0] yZ (ki rfl) (fun z=>(c16_ _ (c19_ _ (c22_ _ (c25_ _ (c28_ _ (c36_ _ (aB hf14 z)))))))) (by kernel_rfl)
  obtain ⟨yf15,gyf15,h⟩:=ac h
  have c38_:=fun (R:Prop) (z:R)=>(aB hf14 (aI (eF n e.Deps.Data e.At yf15 gyf15) z))
  let e39_:LR:=[bh 28 [(100,vF)] [(120,.v (.bool yf13))]]
  rcases au h with ⟨hf16,h⟩ | ⟨hf16,h⟩
  ·
   exact kQ h (nA dh (e15_++(e17_++(e18_++(e20_++(e21_++(e23_++(e24_++(e26_++(e27_++(e29_++(e37_++(e39_++[bh 29 [(100,vT)] [(126,.v (.bool yf15))]]))))))))))))) [wK 1 [2] [5,4,1] 0] yZ (ki rfl) (fun z=>(c16_ _ (c19_ _ (c22_ _ (c25_ _ (c28_ _ (c36_ _ (c38_ _ (aB hf16 z))))))))) (by kernel_rfl)
  obtain ⟨yf17,gyf17,h⟩:=ac h
  have c40_:=fun (R:Prop) (z:R)=>(aB hf16 (aI (eF n e.Deps.Way e.At yf17 gyf17) z))
  rcases au h with ⟨hf18,h⟩ | ⟨hf18,h⟩
  ·
   exact kQ h (nA dh (e15_++(e17_++(e18_++(e20_++(e21_++(e23_++(e24_++(e26_++(e27_++(e29_++(e37_++(e39_++[bh 29 [(100,vF)] [(126,.v (.bool yf15))],bh 30 [(100,vT)] [(132,.v (.bool yf17))]]))))))))))))) [wK 1 [2] [5,4,1] 0] yZ (ki rfl) (fun z=>(c16_ _ (c19_ _ (c22_ _ (c25_ _ (c28_ _ (c36_ _ (c38_ _ (c40_ _ (aB hf18 z)))))))))) (by kernel_rfl)
  exact kQ h (nA dh (e15_++(e17_++(e18_++(e20_++(e21_++(e23_++(e24_++(e26_++(e27_++(e29_++(e37_++(e39_++[bh 29 [(100,vF)] [(126,.v (.bool yf15))],bh 30 [(100,vF)] [(132,.v (.bool yf17))]]))))))))))))) [wK 1 [2] [5,4,1] 0] yZ (ki rfl) (fun z=>(c16_ _ (c19_ _ (c22_ _ (c25_ _ (c28_ _ (c36_ _ (c38_ _ (c40_ _ (aB hf18 z)))))))))) (by kernel_rfl)
 rcases au h with ⟨hf13,h⟩ | ⟨hf13,h⟩
 ·
  exact kQ h (nA dh (e15_++(e17_++(e18_++(e20_++(e21_++(e23_++(e24_++(e26_++(e27_++(e29_++[rV 27 [(104,vT),(108,vT)]]))))))))))) [wK 1 [2] [5,4,1] 0] yZ (ki rfl) (fun z=>(c16_ _ (c19_ _ (c22_ _ (c25_ _ (c28_ _ (aB hf12 (aB hf13 z)))))))) (by kernel_rfl)
 have c30_:=fun (R:Prop) (z:R)=>(aB hf12 (aB hf13 z))
 rcases au h with ⟨hf14,h⟩ | ⟨hf14,h⟩
 ·
  exact kQ h (nA dh (e15_++(e17_++(e18_++(e20_++(e21_++(e23_++(e24_++(e26_++(e27_++(e29_++[rV 27 [(100,vT),(104,vT),(108,vF)]]))))))))))) [wK 1 [2] [5,4,1] 0] yZ (ki rfl) (fun z=>(c16_ _ (c19_ _ (c22_ _ (c25_ _ (c28_ _ (c30_ _ (aB hf14 z)))))))) (by kernel_rfl)
 obtain ⟨yf15,gyf15,h⟩:=ac h
 have c31_:=fun (R:Prop) (z:R)=>(aB hf14 (aI (eF n e.Deps.Addr e.At yf15 gyf15) z))
 let e32_:LR:=[rV 27 [(100,vF),(104,vT),(108,vF)]]
 rcases au h with ⟨hf16,h⟩ | ⟨hf16,h⟩
 ·
  exact kQ h (nA dh (e15_++(e17_++(e18_++(e20_++(e21_++(e23_++(e24_++(e26_++(e27_++(e29_++(e32_++[bh 28 [(100,vT)] [(120,.v (.bool yf15))]])))))))))))) [wK 1 [2] [5,4,1] 0] yZ (ki rfl) (fun z=>(c16_ _ (c19_ _ (c22_ _ (c25_ _ (c28_ _ (c30_ _ (c31_ _ (aB hf16 z))))))))) (by kernel_rfl)
 obtain ⟨yf17,gyf17,h⟩:=ac h
 have c33_:=fun (R:Prop) (z:R)=>(aB hf16 (aI (eF n e.Deps.Data e.At yf17 gyf17) z))
 let e34_:LR:=[bh 28 [(100,vF)] [(120,.v (.bool yf15))]]
 rcases au h with ⟨hf18,h⟩ | ⟨hf18,h⟩
 ·
  exact kQ h (nA dh (e15_++(e17_++(e18_++(e20_++(e21_++(e23_++(e24_++(e26_++(e27_++(e29_++(e32_++(e34_++[bh 29 [(100,vT)] [(126,.v (.bool yf17))]]))))))))))))) [wK 1 [2] [5,4,1] 0] yZ (ki rfl) (fun z=>(c16_ _ (c19_ _ (c22_ _ (c25_ _ (c28_ _ (c30_ _ (c31_ _ (c33_ _ (aB hf18 z)))))))))) (by kernel_rfl)
 obtain ⟨yf19,gyf19,h⟩:=ac h
 have c35_:=fun (R:Prop) (z:R)=>(aB hf18 (aI (eF n e.Deps.Way e.At yf19 gyf19) z))
 rcases au h with ⟨hf20,h⟩ | ⟨hf20,h⟩
 ·
  exact kQ h (nA dh (e15_++(e17_++(e18_++(e20_++(e21_++(e23_++(e24_++(e26_++(e27_++(e29_++(e32_++(e34_++[bh 29 [(100,vF)] [(126,.v (.bool yf17))],bh 30 [(100,vT)] [(132,.v (.bool yf19))]]))))))))))))) [wK 1 [2] [5,4,1] 0] yZ (ki rfl) (fun z=>(c16_ _ (c19_ _ (c22_ _ (c25_ _ (c28_ _ (c30_ _ (c31_ _ (c33_ _ (c35_ _ (aB hf20 z))))))))))) (by kernel_rfl)
 exact kQ h (nA dh (e15_++(e17_++(e18_++(e20_++(e21_++(e23_++(e24_++(e26_++(e27_++(e29_++(e32_++(e34_++[bh 29 [(100,vF)] [(126,.v (.bool yf17))],bh 30 [(100,vF)] [(132,.v (.bool yf19))]]))))))))))))) [wK 1 [2] [5,4,1] 0] yZ (ki rfl) (fun z=>(c16_ _ (c19_ _ (c22_ _ (c25_ _ (c28_ _ (c30_ _ (c31_ _ (c33_ _ (c35_ _ (aB hf20 z))))))))))) (by kernel_rfl)

theorem QY:aA (ao 87) dh PN=true:=by kernel_rfl
def RZ (e:Event) (y1:Int) (se:(List Int)×(List Int)×(List Int)×Int×Int×Int×Bool×Bool×Int×Int):St:=bm 134 [(1,.ptr (.L 1) 0 0),(3,(vU y1)),(4,.ptr (.L 4) 0 0),(5,.ptr (.L 5) 0 0)] [(5,[(vI e.Hart),(vI e.At),(vI e.Kind),(vU se.2.2.2.1),(vU se.2.2.2.2.1),(vU se.2.2.2.2.2.1),.v (.bool se.2.2.2.2.2.2.1),.v (.bool se.2.2.2.2.2.2.2.1),(vI se.2.2.2.2.2.2.2.2.1),(vI se.2.2.2.2.2.2.2.2.2),(vI 0),.sl (se.1.map eI),.sl (se.2.1.map eI),.sl (se.2.2.1.map eI)]),(4,(Deps.enc e.Deps)),(1,(Event.enc e))] [] 0
def PP (e:Event) (y1:Int) (tt:Int):St:=bm 134 [(2,(vI tt))] [] [] 0
def R0 (e:Event) (y1:Int) (tt:Int):Ex×St:=(.ret,PP e y1 tt)
theorem QZ (n:Nat) (e:Event) (y1:Int):∀ se t,dY n e y1 se=some t→aW Tryz.prog PN (RZ e y1 se) (pk (R0 e y1) t):=by
 intro se t h
 unfold dY at h
 rcases au h with ⟨he1,h⟩ | ⟨he1,h⟩
 ·
  obtain ⟨te2,gte2,h⟩:=ac h
  exact kQ h ⟨dh,[rV 13 [(63,vT)]],[],[],[(15,(⟨[1,3,4,5],[],0,[],[],[]⟩,l0,.ret,PO e y1 te2))]⟩ [wK 1 [2] [] 0] QY (ki rfl) (fun z=>(aB he1 (aI (QX n e y1 _ te2 gte2) z))) (by kernel_rfl)
 obtain ⟨te2,gte2,h⟩:=ac h
 exact kQ h ⟨dh,[rV 13 [(63,vF)]],[],[],[(15,(⟨[1,3,4,5],[],0,[],[],[]⟩,l0,.ret,PO e y1 te2))]⟩ [wK 1 [2] [] 0] QY (ki rfl) (fun z=>(aB he1 (aI (QX n e y1 _ te2 gte2) z))) (by kernel_rfl)

theorem Q1:aA (ao 87) dh PM=true:=by kernel_rfl
def R1 (e:Event) (y1:Int) (sd:(List Int)×(List Int)×(List Int)×Int×Int×Int×Int×Int):St:=bm 134 [(1,.ptr (.L 1) 0 0),(3,(vU y1)),(4,.ptr (.L 4) 0 0),(5,.ptr (.L 5) 0 0)] [(5,[(vI e.Hart),(vI e.At),(vI e.Kind),(vU sd.2.2.2.1),(vU sd.2.2.2.2.1),(vU sd.2.2.2.2.2.1),vF,vF,(vI sd.2.2.2.2.2.2.1),(vI sd.2.2.2.2.2.2.2),(vI 0),.sl (sd.1.map eI),.sl (sd.2.1.map eI),.sl (sd.2.2.1.map eI)]),(4,(Deps.enc e.Deps)),(1,(Event.enc e))] [] 0
def PR (e:Event) (y1:Int) (tt:Int):St:=bm 134 [(2,(vI tt))] [] [] 0
def R2 (e:Event) (y1:Int) (tt:Int):Ex×St:=(.ret,PR e y1 tt)
theorem Q2 (n:Nat) (e:Event) (y1:Int):∀ sd t,dZ n e y1 sd=some t→aW Tryz.prog PM (R1 e y1 sd) (pk (R2 e y1) t):=by
 intro sd t h
 unfold dZ at h
 rcases au h with ⟨hd1,h⟩ | ⟨hd1,h⟩
 ·
  obtain ⟨td2,gtd2,h⟩:=ac h
  exact kQ h ⟨dh,[rV 11 [(54,vT)]],[],[],[(13,(⟨[1,3,4,5],[],0,[],[],[]⟩,l0,.ret,PP e y1 td2))]⟩ [wK 1 [2] [] 0] Q1 (ki rfl) (fun z=>(aB hd1 (aI (QZ n e y1 _ td2 gtd2) z))) (by kernel_rfl)
 obtain ⟨td2,gtd2,h⟩:=ac h
 exact kQ h ⟨dh,[rV 11 [(54,vF)]],[],[],[(13,(⟨[1,3,4,5],[],0,[],[],[]⟩,l0,.ret,PP e y1 td2))]⟩ [wK 1 [2] [] 0] Q1 (ki rfl) (fun z=>(aB hd1 (aI (QZ n e y1 _ td2 gtd2) z))) (by kernel_rfl)

theorem Q3:aA (ao 87) dh PL=true:=by kernel_rfl
def R3 (e:Event) (y1:Int) (sb:(List Int)×(List Int)×Int×Int×Int×Int):St:=bm 134 [(1,.ptr (.L 1) 0 0),(3,(vU y1)),(4,.ptr (.L 4) 0 0),(5,.ptr (.L 5) 0 0)] [(5,[(vI e.Hart),(vI e.At),(vI e.Kind),(vU sb.2.2.1),(vU sb.2.2.2.1),(vU 0),vF,vF,(vI sb.2.2.2.2.1),(vI sb.2.2.2.2.2),(vI 0),.sl (sb.1.map eI),.nilsl,.sl (sb.2.1.map eI)]),(4,(Deps.enc e.Deps)),(1,(Event.enc e))] [] 0
def PS (e:Event) (y1:Int) (tt:Int):St:=bm 134 [(2,(vI tt))] [] [] 0
def R4 (e:Event) (y1:Int) (tt:Int):Ex×St:=(.ret,PS e y1 tt)
theorem Q4 (n:Nat) (e:Event) (y1:Int):∀ sb t,d_ n e y1 sb=some t→aW Tryz.prog PL (R3 e y1 sb) (pk (R4 e y1) t):=by
 intro sb t h
 unfold d_ at h
 rcases au h with ⟨hb1,h⟩ | ⟨hb1,h⟩
 ·
  obtain ⟨tb2,gtb2,h⟩:=ac h
  exact kQ h ⟨dh,[rV 9 [(44,vT)]],[],[],[(11,(⟨[1,3,4,5],[],0,[],[],[]⟩,l0,.ret,PR e y1 tb2))]⟩ [wK 1 [2] [] 0] Q3 (ki rfl) (fun z=>(aB hb1 (aI (Q2 n e y1 _ tb2 gtb2) z))) (by kernel_rfl)
 obtain ⟨tb2,gtb2,h⟩:=ac h
 exact kQ h ⟨dh,[rV 9 [(44,vF)]],[],[],[(11,(⟨[1,3,4,5],[],0,[],[],[]⟩,⟨[],[(5,[(vI e.Hart),(vI e.At),(vI e.Kind),(vU sb.2.2.1),(vU sb.2.2.2.1),(vU 0),vF,vF,(vI sb.2.2.2.2.1),(vI sb.2.2.2.2.2),(vI 0),.sl (sb.1.map eI),.sl (([]:List Int).map eI),.sl (sb.2.1.map eI)])],[]⟩,.ret,PR e y1 tb2))]⟩ [wK 1 [2] [] 0] Q3 (ki rfl) (fun z=>(aB hb1 (aI ((aV.cons (aJ.refl _) (aV.cons (aJ.refl _) (aV.cons (aJ.refl _) (aV.cons (aJ.refl _) (aV.cons (aJ.refl _) (aV.cons (aJ.refl _) (aV.cons (aJ.refl _) (aV.cons (aJ.refl _) (aV.cons (aJ.refl _) (aV.cons (aJ.refl _) (aV.cons (aJ.refl _) (aV.cons (aJ.refl _) (aV.cons aJ.nil (aV.cons (aJ.refl _) aV.nil)))))))))))))):aV [(vI e.Hart),(vI e.At),(vI e.Kind),(vU sb.2.2.1),(vU sb.2.2.2.1),(vU 0),vF,vF,(vI sb.2.2.2.2.1),(vI sb.2.2.2.2.2),(vI 0),.sl (sb.1.map eI),.nilsl,.sl (sb.2.1.map eI)] [(vI e.Hart),(vI e.At),(vI e.Kind),(vU sb.2.2.1),(vU sb.2.2.2.1),(vU 0),vF,vF,(vI sb.2.2.2.2.1),(vI sb.2.2.2.2.2),(vI 0),.sl (sb.1.map eI),.sl (([]:List Int).map eI),.sl (sb.2.1.map eI)]) (aI (Q2 n e y1 _ tb2 gtb2) z)))) (by kernel_rfl)

theorem Q5:aA (ao 87) dh PK=true:=by kernel_rfl
def R5 (e:Event) (y1:Int) (sa:(List Int)×(List Int)×Int×Int×Int):St:=bm 134 [(1,.ptr (.L 1) 0 0),(3,(vU y1)),(4,.ptr (.L 4) 0 0),(5,.ptr (.L 5) 0 0)] [(5,[(vI e.Hart),(vI e.At),(vI e.Kind),(vU sa.2.2.1),(vU 0),(vU 0),vF,vF,(vI sa.2.2.2.1),(vI sa.2.2.2.2),(vI 0),.sl (sa.1.map eI),.nilsl,.sl (sa.2.1.map eI)]),(4,(Deps.enc e.Deps)),(1,(Event.enc e))] [] 0
def PU (e:Event) (y1:Int) (tt:Int):St:=bm 134 [(2,(vI tt))] [] [] 0
def R6 (e:Event) (y1:Int) (tt:Int):Ex×St:=(.ret,PU e y1 tt)
theorem Q6 (n:Nat) (e:Event) (y1:Int):∀ sa t,ea n e y1 sa=some t→aW Tryz.prog PK (R5 e y1 sa) (pk (R6 e y1) t):=by
 intro sa t h
 unfold ea at h
 rcases au h with ⟨ha1,h⟩ | ⟨ha1,h⟩
 ·
  obtain ⟨ta2,gta2,h⟩:=ac h
  exact kQ h ⟨dh,[rV 7 [(38,vT)]],[],[],[(9,(⟨[1,3,4,5],[],0,[],[],[]⟩,l0,.ret,PS e y1 ta2))]⟩ [wK 1 [2] [] 0] Q5 (ki rfl) (fun z=>(aB ha1 (aI (Q4 n e y1 _ ta2 gta2) z))) (by kernel_rfl)
 obtain ⟨ta2,gta2,h⟩:=ac h
 exact kQ h ⟨dh,[rV 7 [(38,vF)]],[],[],[(9,(⟨[1,3,4,5],[],0,[],[],[]⟩,l0,.ret,PS e y1 ta2))]⟩ [wK 1 [2] [] 0] Q5 (ki rfl) (fun z=>(aB ha1 (aI (Q4 n e y1 _ ta2 gta2) z))) (by kernel_rfl)

theorem uE (n:Nat) (e:Event) (r:Int) (h:hZ n e=some r):az Tryz.prog 87 [(bT Event.enc e)] (eY ((vI r))):=by
 unfold hZ at h
 obtain ⟨y1,gy1,h⟩:=ac h
 have c41_:=fun (R:Prop) (z:R)=>(aI (l8 n e.Kind y1 gy1) z)
 rcases aG h with ⟨h2,h⟩ | ⟨h2,h⟩
 ·
  obtain ⟨t3,gt3,h⟩:=ac h
  obtain rfl:=aS h
  exact kP ⟨dh,[bh 1 [] [(8,(vU y1))],rV 4 [(20,vF)]],[],[],[(7,(⟨[1,3,4,5],[],0,[],[],[]⟩,l0,.ret,PU e y1 t3))]⟩ GJ (fun z=>(c41_ _ (aB h2 (aI (Q6 n e y1 _ t3 gt3) z)))) (by kernel_rfl)
 obtain ⟨t3,gt3,h⟩:=ac h
 obtain rfl:=aS h
 exact kP ⟨dh,[bh 1 [] [(8,(vU y1))],rV 4 [(20,vT)]],[],[],[(7,(⟨[1,3,4,5],[],0,[],[],[]⟩,⟨[],[(5,[(vI e.Hart),(vI e.At),(vI e.Kind),(vU 0),(vU 0),(vU 0),vF,vF,(vI e.Pred),(vI e.Succ),(vI 0),.sl (([]:List Int).map eI),.nilsl,.sl (([]:List Int).map eI)])],[]⟩,.ret,PU e y1 t3))]⟩ GJ (fun z=>(c41_ _ (aB h2 (aI ((aV.cons (aJ.refl _) (aV.cons (aJ.refl _) (aV.cons (aJ.refl _) (aV.cons (aJ.refl _) (aV.cons (aJ.refl _) (aV.cons (aJ.refl _) (aV.cons (aJ.refl _) (aV.cons (aJ.refl _) (aV.cons (aJ.refl _) (aV.cons (aJ.refl _) (aV.cons (aJ.refl _) (aV.cons aJ.nil (aV.cons (aJ.refl _) (aV.cons aJ.nil aV.nil)))))))))))))):aV [(vI e.Hart),(vI e.At),(vI e.Kind),(vU 0),(vU 0),(vU 0),vF,vF,(vI e.Pred),(vI e.Succ),(vI 0),.nilsl,.nilsl,.nilsl] [(vI e.Hart),(vI e.At),(vI e.Kind),(vU 0),(vU 0),(vU 0),vF,vF,(vI e.Pred),(vI e.Succ),(vI 0),.sl (([]:List Int).map eI),.nilsl,.sl (([]:List Int).map eI)]) (aI (Q6 n e y1 _ t3 gt3) z))))) (by kernel_rfl)

def mI:List (Nat×PT):=[(11,(eO [0,1,2,3,4,5,6,7,8,9,10,11,12,13]))]
theorem GK:aA (ao 76) mI (al Tryz.prog 76)=true:=by kernel_rfl
noncomputable def Q7:Code:=sub (al Tryz.prog 76) [1,1,0,1,0,0]
theorem IE:aA (ao 76) mI Q7=true:=by kernel_rfl
def Po (hart:Int) (l:(List Event)) (sa:Int×Int):St:=bm 52 [(0,(vI hart)),(1,.sl (l.map Event.enc)),(5,(vI sa.2)),(8,.sl (l.map Event.enc)),(9,(vI (l.length:Int))),(10,(vI sa.1))] [] [] 0
def Q8 (hart:Int) (l:(List Event)) (tt:Unit):St:=bm 52 [] [] [] 0
def Q9 (hart:Int) (l:(List Event)) (tt:Unit):St:=bm 52 [(4,(vI 4))] [] [] 0
def PV (hart:Int) (l:(List Event)) (t0:(Unit⊕Unit)):Ex×St:=match t0 with | .inl tt=>(.ex 0,Q8 hart l tt) | .inr tt=>(.ret,Q9 hart l tt)
theorem Q_ (n:Nat) (hart:Int) (l:(List Event)):∀ sa r,iA n hart l sa=some r→aW Tryz.prog Q7 (Po hart l sa) (rk (Po hart l) (PV hart l) r):=by
 intro sa r h
 unfold iA at h
 rcases aG h with ⟨ha1,h⟩ | ⟨ha1,h⟩
 ·
  exact kQ h (nA mI [rV 3 [(11,vF)]]) [wK 2 [] [] 0] IE (co rfl j8) (fun z=>(aB ha1 z)) (by kernel_rfl)
 obtain ⟨xa2,gxa2,h⟩:=ac h
 obtain ⟨ya3,gya3,h⟩:=ac h
 have c42_:=fun (R:Prop) (z:R)=>(aB ha1 (aM Event.enc gxa2 (aI (uE n xa2 ya3 gya3) z)))
 let e43_:LR:=[rV 3 [(11,vT)],rR 4 [(13,(Event.enc xa2))]]
 rcases au h with ⟨ha4,h⟩ | ⟨ha4,h⟩
 ·
  exact kQ h (nA mI (e43_++[bh 5 [(18,vT)] [(16,(vI ya3))]])) [wK 1 [4] [7] 0] IE (co rfl fT) (fun z=>(c42_ _ (aB ha4 z))) (by kernel_rfl)
 rcases au h with ⟨ha5,h⟩ | ⟨ha5,h⟩
 ·
  exact kQ h (nA mI (e43_++[bh 5 [(18,vF),(24,vT)] [(16,(vI ya3))]])) [wK 1 [4] [7] 0] IE (co rfl fT) (fun z=>(c42_ _ (aB ha4 (aB ha5 z)))) (by kernel_rfl)
 have c44_:=fun (R:Prop) (z:R)=>(aB ha4 (aB ha5 z))
 rcases au h with ⟨ha6,h⟩ | ⟨ha6,h⟩
 ·
  exact kQ h (nA mI (e43_++[bh 5 [(18,vF),(24,vF),(29,vT)] [(16,(vI ya3))]])) [wK 1 [4] [7] 0] IE (co rfl fT) (fun z=>(c42_ _ (c44_ _ (aB ha6 z)))) (by kernel_rfl)
 let e45_:LR:=[bh 5 [(18,vF),(24,vF),(29,vF)] [(16,(vI ya3))]]
 rcases au h with ⟨ha7,h⟩ | ⟨ha7,h⟩
 ·
  exact kQ h (nA mI (e43_++(e45_++[rV 8 [(32,vT)]]))) [wK 0 [0,1,5,8,9,10] [7] 0] IE cS (fun z=>(c42_ _ (c44_ _ (aB ha6 (aB ha7 z))))) (by kernel_rfl)
 have c46_:=fun (R:Prop) (z:R)=>(aB ha6 (aB ha7 z))
 let e47_:LR:=[rV 8 [(32,vF)]]
 rcases aG h with ⟨ha8,h⟩ | ⟨ha8,h⟩
 ·
  exact kQ h (nA mI (e43_++(e45_++(e47_++[rV 10 [(35,vF)]])))) [wK 0 [0,1,5,8,9,10] [7] 0] IE cS (fun z=>(c42_ _ (c44_ _ (c46_ _ (aB ha8 z))))) (by kernel_rfl)
 let e48_:LR:=[rV 10 [(35,vT)]]
 rcases au h with ⟨ha9,h⟩ | ⟨ha9,h⟩
 ·
  exact kQ h (nA mI (e43_++(e45_++(e47_++(e48_++[rV 11 [(41,vT)]]))))) [wK 1 [4] [7] 0] IE (co rfl fT) (fun z=>(c42_ _ (c44_ _ (c46_ _ (aB ha8 (aB ha9 z)))))) (by kernel_rfl)
 obtain ⟨xa10,gxa10,h⟩:=ac h
 have c49_:=fun (R:Prop) (z:R)=>(aB ha8 (aB ha9 (aM Event.enc gxa10 z)))
 rcases au h with ⟨ha11,h⟩ | ⟨ha11,h⟩
 ·
  exact kQ h (nA mI (e43_++(e45_++(e47_++(e48_++[(11,⟨[],[],[(44,(Event.enc xa10))],[(41,vF),(50,vT)],[],[],[],[],[]⟩)]))))) [wK 1 [4] [7] 0] IE (co rfl fT) (fun z=>(c42_ _ (c44_ _ (c46_ _ (c49_ _ (aB ha11 z)))))) (by kernel_rfl)
 exact kQ h (nA mI (e43_++(e45_++(e47_++(e48_++[(11,⟨[],[],[(44,(Event.enc xa10))],[(41,vF),(50,vF)],[],[],[],[],[]⟩)]))))) [wK 0 [0,1,5,8,9,10] [7] 0] IE cS (fun z=>(c42_ _ (c44_ _ (c46_ _ (c49_ _ (aB ha11 z)))))) (by kernel_rfl)

theorem xQ (n:Nat) (hart:Int) (l:(List Event)) (r:Int) (h:h_ n hart l=some r):az Tryz.prog 76 [(vI hart),.sl (l.map Event.enc)] (eY ((vI r))):=by
 unfold h_ at h
 obtain ⟨t1,gt1,h⟩:=ac h
 rcases t1 with w2 | w2
 ·
  obtain rfl:=aS h
  exact kP ⟨mI,[rV 2 [(9,(vI (l.length:Int)))]],[],[(3,(⟨[0,1,5,8,9,10],[],0,[],[],[]⟩,l0,(.ex 0),Q8 hart l w2))],[]⟩ GK (fun z=>(aL Event.enc l (aI (eA (pl:=ao 76) (Po hart l) (PV hart l) (Q_ n hart l) n _ (.inl w2) gt1) z))) (by kernel_rfl)
 ·
  obtain rfl:=aS h
  exact kP ⟨mI,[rV 2 [(9,(vI (l.length:Int)))]],[],[(3,(⟨[0,1,5,8,9,10],[],0,[],[],[]⟩,l0,.ret,Q9 hart l w2))],[]⟩ GK (fun z=>(aL Event.enc l (aI (eA (pl:=ao 76) (Po hart l) (PV hart l) (Q_ n hart l) n _ (.inr w2) gt1) z))) (by kernel_rfl)

def C3:List (Nat×PT):=[]
theorem D6:aA (ao 102) C3 (al Tryz.prog 102)=true:=by kernel_rfl
def dU (n_:Int) (y0:((Nat×Nat×Nat×(List Event))⊕Unit)):AV×List Ob:=match y0 with | .inl y=>(.msl 0 y.1 y.2.1 y.2.2.1,[.arr true 14 (y.2.2.2.map Event.enc)]) | .inr y=>(.nilsl,[])
theorem dx (n:Nat) (n_:Int) (y:((Nat×Nat×Nat×(List Event))⊕Unit)) (h:bG n n_=some y):SD Tryz.prog 102 [.nilsl,(vI n_)] [] (fun r' o'=>r'=(dU n_ y).1∧o'=(dU n_ y).2):=by
 unfold bG at h
 rcases au h with ⟨h1,h⟩ | ⟨h1,h⟩
 ·
  cases h
 rcases aG h with ⟨h2,h⟩ | ⟨h2,h⟩
 ·
  obtain rfl:=aS h
  exact kS (nA C3 [rV 1 [(6,vF)],rV 4 [(16,vF)]]) D6 ⟨rfl,rfl⟩ (fun z=>(aB h1 (aB h2 z))) (by kernel_rfl)
 obtain ⟨h3,h⟩:=fj h
 obtain ⟨h4,h⟩:=fj h
 obtain rfl:=aS h
 exact kS ⟨C3,[rV 1 [(6,vF)],rV 4 [(16,vT)],(5,⟨[],[22,25],[],[(25,.msl 0 0 0 (((cT .i64 n_ 0)).toNat))],[],[],[],[],[]⟩)],[(5,⟨[],[],[(0,(List.replicate ((cT .i64 n_ 0)).toNat (Event.mk 0 0 0 0 0 0 false false 0 0 0 (Deps.mk ([]:List Int) ([]:List Int) ([]:List Int)))).map Event.enc)]⟩)],[],[]⟩ D6 ⟨rfl,rfl⟩ (fun z=>(aB h1 (aB h2 (aI h3 (aI ((by rw [List.length_replicate]; exact h4):(decide ((0:Int)≤0)&&decide (0≤(((List.replicate ((cT .i64 n_ 0)).toNat ([(vI 0),(vI 0),(vI 0),(vU 0),(vU 0),(vU 0),vF,vF,(vI 0),(vI 0),(vI 0),.nilsl,.nilsl,.nilsl]:List AV)).length:Nat):Int)))=true) (aI (Iv _ _ _ _ _ _:AV.msl 0 0 (0 - 0) ((List.replicate ((cT .i64 n_ 0)).toNat ([(vI 0),(vI 0),(vI 0),(vU 0),(vU 0),(vU 0),vF,vF,(vI 0),(vI 0),(vI 0),.nilsl,.nilsl,.nilsl]:List AV)).length - 0)=AV.msl 0 0 0 (((cT .i64 n_ 0)).toNat)) (aI (KF Event.enc _ (aV.cons (aJ.refl _) (aV.cons (aJ.refl _) (aV.cons (aJ.refl _) (aV.cons (aJ.refl _) (aV.cons (aJ.refl _) (aV.cons (aJ.refl _) (aV.cons (aJ.refl _) (aV.cons (aJ.refl _) (aV.cons (aJ.refl _) (aV.cons (aJ.refl _) (aV.cons (aJ.refl _) (aV.cons aJ.nil (aV.cons aJ.nil (aV.cons aJ.nil aV.nil)))))))))))))):eX (List.replicate ((cT .i64 n_ 0)).toNat ([(vI 0),(vI 0),(vI 0),(vU 0),(vU 0),(vU 0),vF,vF,(vI 0),(vI 0),(vI 0),.nilsl,.nilsl,.nilsl]:List AV)) ((List.replicate ((cT .i64 n_ 0)).toNat (Event.mk 0 0 0 0 0 0 false false 0 0 0 (Deps.mk ([]:List Int) ([]:List Int) ([]:List Int)))).map Event.enc)) z))))))) (by kernel_rfl)

def nz:List (Nat×PT):=[]
theorem GL:aA (ao 88) nz (al Tryz.prog 88)=true:=by kernel_rfl
noncomputable def Ra:Code:=sub (al Tryz.prog 88) [1,1,0,1,0,0]
noncomputable def Rb:Code:=sub (al Tryz.prog 88) [1,1,1,1,0,1,0,0]
noncomputable def Rc:Code:=sub (al Tryz.prog 88) [1,1,1,1,0,1,0,0]
theorem Re:aA (ao 88) nz Ra=true:=by kernel_rfl
def PW (slices:(List (List Event))) (sa:Int×Int):St:=bm 36 [(0,.sl (slices.map (et Event.enc))),(3,(vI sa.2)),(9,.sl (slices.map (et Event.enc))),(10,(vI (slices.length:Int))),(11,(vI sa.1))] [] [] 0
def PX (slices:(List (List Event))) (tt:Int):St:=bm 36 [(0,.sl (slices.map (et Event.enc))),(3,(vI tt))] [] [] 0
def Rf (slices:(List (List Event))) (tt:Int):Ex×St:=(.ex 0,PX slices tt)
theorem R7 (n:Nat) (slices:(List (List Event))):∀ sa r,bB n slices sa=some r→aW Tryz.prog Ra (PW slices sa) (rk (PW slices) (Rf slices) r):=by
 intro sa r h
 unfold bB at h
 rcases aG h with ⟨ha1,h⟩ | ⟨ha1,h⟩
 ·
  exact kQ h (nA nz [rV 3 [(12,vF)]]) [wK 2 [0,3] [] 0] Re (co rfl j8) (fun z=>(aB ha1 z)) (by kernel_rfl)
 obtain ⟨xa2,gxa2,h⟩:=ac h
 have c50_:=fun (R:Prop) (z:R)=>(aB ha1 (aM (et Event.enc) gxa2 (aL Event.enc xa2 z)))
 rcases au h with ⟨ha3,h⟩ | ⟨ha3,h⟩
 ·
  cases h
 exact kQ h (nA nz [rV 3 [(12,vT)],rR 4 [(13,[.sl (xa2.map Event.enc)])],rV 5 [(17,(vI (xa2.length:Int)))],rV 6 [(20,vF)]]) [wK 0 [0,3,9,10,11] [] 0] Re cS (fun z=>(c50_ _ (aB ha3 z))) (by kernel_rfl)

theorem Rh:aA (ao 88) nz Rb=true:=by kernel_rfl
def PY (slices:(List (List Event))) (wa3:Nat×Nat×Nat×(List Event)) (sa:Nat×Nat×(List Event)×Int):St:=bm 36 [(6,.msl 0 wa3.1 sa.1 sa.2.1),(25,.sl (slices.map (et Event.enc))),(26,(vI (slices.length:Int))),(27,(vI sa.2.2.2))] [] [.arr true 14 (sa.2.2.1.map Event.enc)] 0
def Ri (slices:(List (List Event))) (wa3:Nat×Nat×Nat×(List Event)) (tt:Nat×Nat×(List Event)):St:=bm 36 [(6,.msl 0 wa3.1 tt.1 tt.2.1)] [] [.arr true 14 (tt.2.2.map Event.enc)] 0
def Rj (slices:(List (List Event))) (wa3:Nat×Nat×Nat×(List Event)) (tt:(Nat×Nat×(List Event))):Ex×St:=(.ex 2,Ri slices wa3 tt)
theorem R8 (n:Nat) (slices:(List (List Event))) (wa3:Nat×Nat×Nat×(List Event)):∀ sa r,bC n slices wa3 sa=some r→aW Tryz.prog Rb (PY slices wa3 sa) (rk (PY slices wa3) (Rj slices wa3) r):=by
 intro sa r h
 unfold bC at h
 rcases aG h with ⟨ha1,h⟩ | ⟨ha1,h⟩
 ·
  exact kQ h (nA nz [rV 11 [(28,vF)]]) [wK 4 [6] [] 1] Rh (co rfl j8) (fun z=>(aB ha1 z)) (by kernel_rfl)
 obtain ⟨xa2,gxa2,h⟩:=ac h
 obtain ⟨ha3,h⟩:=fj h
 obtain ⟨ha4,h⟩:=fj h
 exact kQ h (nA nz [rV 11 [(28,vT)],rR 12 [(29,[.sl (xa2.map Event.enc)])],(13,⟨[],[33],[],[(33,.msl 0 wa3.1 (sa.1 + xa2.length) (sa.2.1 - xa2.length))],[],[],[(33,(0,(sa.2.2.1.take (wa3.1 + sa.1)++(xa2++sa.2.2.1.drop (wa3.1 + sa.1 + xa2.length))).map Event.enc))],[],[]⟩)]) [wK 0 [6,25,26,27] [] 1] Rh cS (fun z=>(aB ha1 (aM (et Event.enc) gxa2 (aI (JS:di 14 (xa2.map Event.enc)=true) (aI (H6:a5 (xa2.map Event.enc)=true) (aI (Fa ha3:Nat.ble (xa2.map Event.enc).length sa.2.1=true) (aI (Fb ha4:Nat.ble (wa3.1 + sa.1 + sa.2.1) (sa.2.2.1.map Event.enc).length=true) (aI (Is Event.enc xa2 _ _ _ _:AV.msl 0 wa3.1 (sa.1 + (xa2.map Event.enc).length) (sa.2.1 - (xa2.map Event.enc).length)=AV.msl 0 wa3.1 (sa.1 + xa2.length) (sa.2.1 - xa2.length)) (aI (It Event.enc sa.2.2.1 xa2 _:(sa.2.2.1.map Event.enc).take (wa3.1 + sa.1)++((xa2.map Event.enc)++(sa.2.2.1.map Event.enc).drop (wa3.1 + sa.1 + (xa2.map Event.enc).length))=(sa.2.2.1.take (wa3.1 + sa.1)++(xa2++sa.2.2.1.drop (wa3.1 + sa.1 + xa2.length))).map Event.enc) z))))))))) (by kernel_rfl)

theorem Rk:aA (ao 88) nz Rc=true:=by kernel_rfl
def PZ (slices:(List (List Event))) (sa:(List Event)×Int):St:=bm 36 [(6,.mf 0),(25,.sl (slices.map (et Event.enc))),(26,(vI (slices.length:Int))),(27,(vI sa.2))] [] [.arr true 14 (sa.1.map Event.enc)] 0
def Rm (slices:(List (List Event))) (tt:(List Event)):St:=bm 36 [(6,.mf 0)] [] [.arr true 14 (tt.map Event.enc)] 0
def Rn (slices:(List (List Event))) (tt:((List Event))):Ex×St:=(.ex 2,Rm slices tt)
theorem R9 (n:Nat) (slices:(List (List Event))):∀ sa r,bj n slices sa=some r→aW Tryz.prog Rc (PZ slices sa) (rk (PZ slices) (Rn slices) r):=by
 intro sa r h
 unfold bj at h
 rcases aG h with ⟨ha1,h⟩ | ⟨ha1,h⟩
 ·
  exact kQ h (nA nz [rV 11 [(28,vF)]]) [wK 4 [6] [] 1] Rk (co rfl j8) (fun z=>(aB ha1 z)) (by kernel_rfl)
 obtain ⟨xa2,gxa2,h⟩:=ac h
 obtain ⟨ha3,h⟩:=fj h
 exact kQ h (nA nz [rV 11 [(28,vT)],rR 12 [(29,[.sl (xa2.map Event.enc)])],(13,⟨[],[33],[],[],[],[],[(33,(0,(sa.1++xa2).map Event.enc))],[],[]⟩)]) [wK 0 [6,25,26,27] [] 1] Rk cS (fun z=>(aB ha1 (aM (et Event.enc) gxa2 (aI (JS:di 14 (xa2.map Event.enc)=true) (aI (H6:a5 (xa2.map Event.enc)=true) (aI (Fc ha3:Nat.ble (((sa.1.map Event.enc).length + (xa2.map Event.enc).length) * 152) 140737488355328=true) (aI (pD Event.enc sa.1 xa2) z))))))) (by kernel_rfl)

theorem dy (n:Nat) (slices:(List (List Event))) (r:(List Event)) (h:aX n slices=some r):az Tryz.prog 88 [.sl (slices.map (et Event.enc))] (eY (.sl (r.map Event.enc))):=by
 unfold aX at h
 obtain ⟨t1,gt1,h⟩:=ac h
 obtain ⟨y2,gy2,h⟩:=ac h
 have c51_:=fun (R:Prop) (z:R)=>(aL (et Event.enc) slices (aI (eA (pl:=ao 88) (PW slices) (Rf slices) (R7 n slices) n _ t1 gt1) z))
 rcases y2 with wa3 | wb3
 ·
  obtain ⟨t4,gt4,h⟩:=ac h
  obtain rfl:=aS h
  exact kP ⟨nz,[rV 2 [(10,(vI (slices.length:Int)))],(9,⟨[],[],[],[],[],[(24,(.msl 0 wa3.1 wa3.2.1 wa3.2.2.1,[.arr true 14 (wa3.2.2.2.map Event.enc)]))],[],[],[]⟩),rV 10 [(26,(vI (slices.length:Int)))]],[],[(3,(⟨[0,3,9,10,11],[],0,[],[],[]⟩,l0,(.ex 0),PX slices t1)),(11,(⟨[6,25,26,27],[],1,[],[],[]⟩,l0,(.ex 2),Ri slices wa3 t4))],[]⟩ GL (fun z=>(c51_ _ (aI (dx n t1 (.inl wa3) gy2) (aL (et Event.enc) slices (aI (eA (pl:=ao 88) (PY slices wa3) (Rj slices wa3) (R8 n slices wa3) n _ t4 gt4) ((KD Event.enc t4.2.2 _ _):aJ (.sl (((t4.2.2.map Event.enc).drop wa3.1).take t4.1)) (.sl (((t4.2.2.drop wa3.1).take t4.1).map Event.enc)))))))) (by kernel_rfl)
 ·
  obtain ⟨t4,gt4,h⟩:=ac h
  obtain rfl:=aS h
  exact kP ⟨nz,[rV 2 [(10,(vI (slices.length:Int)))],(9,⟨[],[],[],[],[],[(24,(.nilsl,[]))],[],[],[]⟩),rV 10 [(26,(vI (slices.length:Int)))]],[],[(3,(⟨[0,3,9,10,11],[],0,[],[],[]⟩,l0,(.ex 0),PX slices t1)),(11,(⟨[6,25,26,27],[],0,[(6,14)],[],[]⟩,l0,(.ex 2),Rm slices t4))],[]⟩ GL (fun z=>(c51_ _ (aI (dx n t1 (.inr wb3) gy2) (aL (et Event.enc) slices (aI (eA (pl:=ao 88) (PZ slices) (Rn slices) (R9 n slices) n _ t4 gt4) z))))) (by kernel_rfl)

def JU:List (Nat×PT):=[]
theorem KN:aA (ao 77) JU (al Tryz.prog 77)=true:=by kernel_rfl
def p8 (oA:(List Cell)) (oB:(List (List Event))) (oC:(List Int)) (oD:(List Int)) (y:(List Event)):AV×List Ob:=(.sl (y.map Event.enc),[.arr true 4 [[.sl (oA.map Cell.enc),.sl (oB.map (et Event.enc)),.sl (oC.map eI),.sl (oD.map eI)]]])
theorem nB (n:Nat) (oA:(List Cell)) (oB:(List (List Event))) (oC:(List Int)) (oD:(List Int)) (y:(List Event)) (h:ia n oA oB oC oD=some y):SD Tryz.prog 77 [.ptr (.O 0) 0 0] [.arr true 4 [[.sl (oA.map Cell.enc),.sl (oB.map (et Event.enc)),.sl (oC.map eI),.sl (oD.map eI)]]] (fun r' o'=>r'=(p8 oA oB oC oD y).1∧o'=(p8 oA oB oC oD y).2):=by
 unfold ia at h
 obtain ⟨y1,gy1,h⟩:=ac h
 obtain rfl:=aS h
 exact kS (nA JU [bh 1 [] [(7,.sl (y1.map Event.enc))]]) KN ⟨rfl,rfl⟩ (fun z=>(aI (dy n oB y1 gy1) z)) (by kernel_rfl)

def JV:List (Nat×PT):=[]
theorem KO:aA (ao 46) JV (al Tryz.prog 46)=true:=by kernel_rfl
theorem bW (n:Nat) (e:Event) (r:Bool) (h:bQ n e=some r):az Tryz.prog 46 [(bT Event.enc e)] (eY (.v (.bool r))):=by
 unfold bQ at h
 obtain ⟨y1,gy1,h⟩:=ac h
 obtain rfl:=aS h
 exact kP (nA JV [bh 1 [] [(5,(vU y1))]]) KO (fun z=>(aI (l8 n e.Kind y1 gy1) z)) (by kernel_rfl)

def GM:List (Nat×PT):=[]
theorem IF:aA (ao 133) GM (al Tryz.prog 133)=true:=by kernel_rfl
theorem jW (n:Nat) (x:Int) (r:Bool) (h:eZ n x=some r):az Tryz.prog 133 [(vU x)] (eY (.v (.bool r))):=by
 unfold eZ at h
 obtain rfl:=aS h
 exact kP (nA GM []) IF (fun z=>z) (by kernel_rfl)

def qR:List (Nat×PT):=[]
theorem pF:aA (ao 105) qR (al Tryz.prog 105)=true:=by kernel_rfl
theorem nk (n:Nat) (x:Int) (y:Int) (r:Int) (h:eb n x y=some r):az Tryz.prog 105 [(vU x),(vU y)] (eY ((vI r))):=by
 unfold eb at h
 obtain ⟨y1,gy1,h⟩:=ac h
 obtain ⟨y2,gy2,h⟩:=ac h
 have c52_:=fun (R:Prop) (z:R)=>(aI (jW n x y1 gy1) (aI (jW n y y2 gy2) z))
 let e53_:LR:=[bh 1 [] [(8,.v (.bool y1))],bh 2 [] [(10,.v (.bool y2))]]
 rcases au h with ⟨h3,h⟩ | ⟨h3,h⟩
 ·
  rcases au h with ⟨h4,h⟩ | ⟨h4,h⟩
  ·
   obtain rfl:=aS h
   exact kP (nA qR (e53_++[rV 3 [(11,vT)],rV 4 [(12,vT)]])) pF (fun z=>(c52_ _ (aB h3 (aB h4 z)))) (by kernel_rfl)
  obtain rfl:=aS h
  exact kP (nA qR (e53_++[rV 3 [(11,vT)],rV 4 [(12,vF)]])) pF (fun z=>(c52_ _ (aB h3 (aB h4 z)))) (by kernel_rfl)
 let e54_:LR:=[rV 3 [(11,vF)]]
 rcases au h with ⟨h4,h⟩ | ⟨h4,h⟩
 ·
  obtain rfl:=aS h
  exact kP (nA qR (e53_++(e54_++[rV 7 [(13,vT)]]))) pF (fun z=>(c52_ _ (aB h3 (aB h4 z)))) (by kernel_rfl)
 have c55_:=fun (R:Prop) (z:R)=>(aB h3 (aB h4 z))
 let e56_:LR:=[rV 7 [(13,vF)]]
 rcases au h with ⟨h5,h⟩ | ⟨h5,h⟩
 ·
  obtain rfl:=aS h
  exact kP (nA qR (e53_++(e54_++(e56_++[rV 9 [(16,vT)]])))) pF (fun z=>(c52_ _ (c55_ _ (aB h5 z)))) (by kernel_rfl)
 rcases au h with ⟨h6,h⟩ | ⟨h6,h⟩
 ·
  obtain rfl:=aS h
  exact kP (nA qR (e53_++(e54_++(e56_++[rV 9 [(16,vF)],rV 11 [(19,vT)]])))) pF (fun z=>(c52_ _ (c55_ _ (aB h5 (aB h6 z))))) (by kernel_rfl)
 obtain rfl:=aS h
 exact kP (nA qR (e53_++(e54_++(e56_++[rV 9 [(16,vF)],rV 11 [(19,vF)]])))) pF (fun z=>(c52_ _ (c55_ _ (aB h5 (aB h6 z))))) (by kernel_rfl)

def GN:List (Nat×PT):=[]
theorem IG:aA (ao 104) GN (al Tryz.prog 104)=true:=by kernel_rfl
theorem mJ (n:Nat) (x:Cell) (a:Int) (r:Int) (h:gm n x a=some r):az Tryz.prog 104 [(bT Cell.enc x),(vU a)] (eY ((vI r))):=by
 unfold gm at h
 obtain ⟨y1,gy1,h⟩:=ac h
 obtain rfl:=aS h
 exact kP (nA GN [bh 1 [] [(8,(vI y1))]]) IG (fun z=>(aI (nk n x.Addr a y1 gy1) z)) (by kernel_rfl)

def qS:List (Nat×PT):=[]
theorem D7:aA (ao 103) qS (al Tryz.prog 103)=true:=by kernel_rfl
noncomputable def Ro:Code:=sub (al Tryz.prog 103) [1,1,1,0,0,0]
theorem P0:aA (ao 103) qS Ro=true:=by kernel_rfl
def P1 (x:(List Cell)) (target:Int) (sa:Int×Int):St:=bm 49 [(0,.sl (x.map Cell.enc)),(1,(vU target)),(2,.fn 104 [] []),(8,(vI (x.length:Int))),(9,(vI sa.2)),(10,(vI sa.1))] [] [] 0
def P2 (x:(List Cell)) (target:Int) (tt:Int):St:=bm 49 [(0,.sl (x.map Cell.enc)),(1,(vU target)),(2,.fn 104 [] []),(8,(vI (x.length:Int))),(9,(vI tt))] [] [] 0
def Rp (x:(List Cell)) (target:Int) (tt:Int):Ex×St:=(.ex 0,P2 x target tt)
theorem Sa (n:Nat) (x:(List Cell)) (target:Int):∀ sa r,aH n x target sa=some r→aW Tryz.prog Ro (P1 x target sa) (rk (P1 x target) (Rp x target) r):=by
 intro sa r h
 unfold aH at h
 rcases aG h with ⟨ha1,h⟩ | ⟨ha1,h⟩
 ·
  exact kQ h (nA qS [rV 3 [(17,vF)]]) [wK 2 [0,1,2,8,9] [] 0] P0 (co rfl j8) (fun z=>(aB ha1 z)) (by kernel_rfl)
 obtain ⟨xa2,gxa2,h⟩:=ac h
 obtain ⟨ya3,gya3,h⟩:=ac h
 have c57_:=fun (R:Prop) (z:R)=>(aB ha1 (aM Cell.enc gxa2 (aI (mJ n xa2 target ya3 gya3) z)))
 rcases au h with ⟨ha4,h⟩ | ⟨ha4,h⟩
 ·
  exact kQ h (nA qS [rV 3 [(17,vT)],(5,⟨[],[],[(27,(Cell.enc xa2))],[(31,vT)],[(30,(vI ya3))],[],[],[],[]⟩)]) [wK 0 [0,1,2,8,9,10] [] 0] P0 cS (fun z=>(c57_ _ (aB ha4 z))) (by kernel_rfl)
 exact kQ h (nA qS [rV 3 [(17,vT)],(5,⟨[],[],[(27,(Cell.enc xa2))],[(31,vF)],[(30,(vI ya3))],[],[],[],[]⟩)]) [wK 0 [0,1,2,8,9,10] [] 0] P0 cS (fun z=>(c57_ _ (aB ha4 z))) (by kernel_rfl)

theorem dL (n:Nat) (x:(List Cell)) (target:Int) (r:Int×Bool) (h:bc n x target=some r):az Tryz.prog 103 [.sl (x.map Cell.enc),(vU target),.fn 104 [] []] (eY (.tup [(vI r.1),.v (.bool r.2)])):=by
 unfold bc at h
 obtain ⟨t1,gt1,h⟩:=ac h
 have c58_:=fun (R:Prop) (z:R)=>(aL Cell.enc x (aI (eA (pl:=ao 103) (P1 x target) (Rp x target) (Sa n x target) n _ t1 gt1) z))
 rcases aG h with ⟨h2,h⟩ | ⟨h2,h⟩
 ·
  obtain rfl:=aS h
  exact kP ⟨qS,[rV 1 [(13,(vI (x.length:Int)))],rV 8 [(39,vF)]],[],[(3,(⟨[0,1,2,8,9,10],[],0,[],[],[]⟩,l0,(.ex 0),P2 x target t1))],[]⟩ D7 (fun z=>(c58_ _ (aB h2 z))) (by kernel_rfl)
 obtain ⟨x3,gx3,h⟩:=ac h
 obtain ⟨y4,gy4,h⟩:=ac h
 obtain rfl:=aS h
 exact kP ⟨qS,[rV 1 [(13,(vI (x.length:Int)))],(8,⟨[],[],[(43,(Cell.enc x3))],[(39,vT)],[(46,(vI y4))],[],[],[],[]⟩)],[],[(3,(⟨[0,1,2,8,9,10],[],0,[],[],[]⟩,l0,(.ex 0),P2 x target t1))],[]⟩ D7 (fun z=>(c58_ _ (aB h2 (aM Cell.enc gx3 (aI (mJ n x3 target y4 gy4) z))))) (by kernel_rfl)

def GO:List (Nat×PT):=[]
theorem GP:aA (ao 89) GO (al Tryz.prog 89)=true:=by kernel_rfl
theorem wQ (n:Nat) (l:(List Cell)) (addr:Int) (r:Int) (h:ja n l addr=some r):az Tryz.prog 89 [.sl (l.map Cell.enc),(vU addr)] (eY ((vU r))):=by
 unfold ja at h
 obtain ⟨y1,gy1,h⟩:=ac h
 have c59_:=fun (R:Prop) (z:R)=>(aI (dL n l addr y1 gy1) z)
 rcases au h with ⟨h2,h⟩ | ⟨h2,h⟩
 ·
  obtain rfl:=aS h
  exact kP (nA GO [bh 1 [] [(10,.tup [(vI y1.1),.v (.bool y1.2)])],rV 2 [(14,vT)]]) GP (fun z=>(c59_ _ (aB h2 z))) (by kernel_rfl)
 obtain ⟨x3,gx3,h⟩:=ac h
 obtain rfl:=aS h
 exact kP (nA GO [bh 1 [] [(10,.tup [(vI y1.1),.v (.bool y1.2)])],rV 2 [(14,vF)],rR 4 [(17,(Cell.enc x3))]]) GP (fun z=>(c59_ _ (aB h2 (aM Cell.enc gx3 z)))) (by kernel_rfl)

def JW:List (Nat×PT):=[]
theorem KP:aA (ao 63) JW (al Tryz.prog 63)=true:=by kernel_rfl
theorem cy (n:Nat) (e:Event) (r:Bool) (h:cj n e=some r):az Tryz.prog 63 [(bT Event.enc e)] (eY (.v (.bool r))):=by
 unfold cj at h
 obtain ⟨y1,gy1,h⟩:=ac h
 obtain rfl:=aS h
 exact kP (nA JW [bh 1 [] [(5,(vU y1))]]) KP (fun z=>(aI (l8 n e.Kind y1 gy1) z)) (by kernel_rfl)

def rN:List (Nat×PT):=[(1,(eO [0,1,2,3,4,5,6,7,8,9,10,11,12,13])),(5,(eO [0,1,2,3,4,5,6,7,8,9,10]))]
theorem oN:aA (ao 78) rN (al Tryz.prog 78)=true:=by kernel_rfl
theorem xR (n:Nat) (c:af) (all:(List Event)) (n_:Int) (r:Bool) (h:ib n c all n_=some r):az Tryz.prog 78 [.fptr (af.enc c) 0,.sl (all.map Event.enc),(vI n_)] (eY (.v (.bool r))):=by
 unfold ib at h
 obtain ⟨x1,gx1,h⟩:=ac h
 obtain ⟨x2,gx2,h⟩:=ac h
 obtain ⟨y3,gy3,h⟩:=ac h
 have c60_:=fun (R:Prop) (z:R)=>(aM Event.enc gx1 (aM eI gx2 (aI (bW n x1 y3 gy3) z)))
 let e61_:LR:=[rR 1 [(12,(Event.enc x1)),(19,[(vI x2)])]]
 rcases au h with ⟨h4,h⟩ | ⟨h4,h⟩
 ·
  obtain rfl:=aS h
  exact kP (nA rN (e61_++[bh 2 [(21,vT)] [(23,.v (.bool y3))]])) oN (fun z=>(c60_ _ (aB h4 z))) (by kernel_rfl)
 let e62_:LR:=[bh 2 [(21,vF)] [(23,.v (.bool y3))]]
 rcases au h with ⟨h5,h⟩ | ⟨h5,h⟩
 ·
  obtain ⟨y6,gy6,h⟩:=ac h
  obtain rfl:=aS h
  exact kP (nA rN (e61_++(e62_++[rV 4 [(27,vT)],bh 5 [] [(38,(vU y6))]]))) oN (fun z=>(c60_ _ (aB h4 (aB h5 (aI (wQ n c.First x1.Addr y6 gy6) z))))) (by kernel_rfl)
 have c63_:=fun (R:Prop) (z:R)=>(aB h4 (aB h5 z))
 let e64_:LR:=[rV 4 [(27,vF)]]
 rcases au h with ⟨h6,h⟩ | ⟨h6,h⟩
 ·
  obtain rfl:=aS h
  exact kP (nA rN (e61_++(e62_++(e64_++[rV 6 [(43,vT)]])))) oN (fun z=>(c60_ _ (c63_ _ (aB h6 z)))) (by kernel_rfl)
 have c65_:=fun (R:Prop) (z:R)=>(aB h6 (aL Event.enc all z))
 rcases au h with ⟨h7,h⟩ | ⟨h7,h⟩
 ·
  obtain rfl:=aS h
  exact kP (nA rN (e61_++(e62_++(e64_++[rV 6 [(43,vF),(46,(vI (all.length:Int))),(49,vT)]])))) oN (fun z=>(c60_ _ (c63_ _ (c65_ _ (aB h7 z))))) (by kernel_rfl)
 rcases au h with ⟨h8,h⟩ | ⟨h8,h⟩
 ·
  obtain rfl:=aS h
  exact kP (nA rN (e61_++(e62_++(e64_++[rV 6 [(40,vT),(43,vF),(46,(vI (all.length:Int))),(49,vF)]])))) oN (fun z=>(c60_ _ (c63_ _ (c65_ _ (aB h7 (aB h8 z)))))) (by kernel_rfl)
 obtain ⟨x9,gx9,h⟩:=ac h
 obtain ⟨y10,gy10,h⟩:=ac h
 have c66_:=fun (R:Prop) (z:R)=>(aB h7 (aB h8 (aM Event.enc gx9 (aI (cy n x9 y10 gy10) z))))
 let e67_:LR:=[rV 6 [(40,vF),(43,vF),(46,(vI (all.length:Int))),(49,vF)],rR 8 [(56,(Event.enc x9))]]
 rcases aG h with ⟨h11,h⟩ | ⟨h11,h⟩
 ·
  obtain rfl:=aS h
  exact kP (nA rN (e61_++(e62_++(e64_++(e67_++[bh 9 [(60,vF)] [(59,.v (.bool y10))]]))))) oN (fun z=>(c60_ _ (c63_ _ (c65_ _ (c66_ _ (aB h11 z)))))) (by kernel_rfl)
 rcases au h with ⟨h12,h⟩ | ⟨h12,h⟩
 ·
  obtain rfl:=aS h
  exact kP (nA rN (e61_++(e62_++(e64_++(e67_++[bh 9 [(60,vT),(67,vT)] [(59,.v (.bool y10))]]))))) oN (fun z=>(c60_ _ (c63_ _ (c65_ _ (c66_ _ (aB h11 (aB h12 z))))))) (by kernel_rfl)
 obtain rfl:=aS h
 exact kP (nA rN (e61_++(e62_++(e64_++(e67_++[bh 9 [(60,vT),(67,vF)] [(59,.v (.bool y10))]]))))) oN (fun z=>(c60_ _ (c63_ _ (c65_ _ (c66_ _ (aB h11 (aB h12 z))))))) (by kernel_rfl)

def GQ:List (Nat×PT):=[]
theorem GR:aA (ao 90) GQ (al Tryz.prog 90)=true:=by kernel_rfl
theorem jk (n:Nat) (e:Event) (r:Bool) (h:fk n e=some r):az Tryz.prog 90 [(bT Event.enc e)] (eY (.v (.bool r))):=by
 unfold fk at h
 obtain ⟨y1,gy1,h⟩:=ac h
 have c68_:=fun (R:Prop) (z:R)=>(aI (bW n e y1 gy1) z)
 rcases au h with ⟨h2,h⟩ | ⟨h2,h⟩
 ·
  obtain rfl:=aS h
  exact kP (nA GQ [bh 1 [(5,vT)] [(4,.v (.bool y1))]]) GR (fun z=>(c68_ _ (aB h2 z))) (by kernel_rfl)
 obtain ⟨y3,gy3,h⟩:=ac h
 obtain rfl:=aS h
 exact kP (nA GQ [bh 1 [(5,vF)] [(4,.v (.bool y1)),(7,.v (.bool y3))]]) GR (fun z=>(c68_ _ (aB h2 (aI (cy n e y3 gy3) z)))) (by kernel_rfl)

def mK:List (Nat×PT):=[]
theorem GT:aA (ao 79) mK (al Tryz.prog 79)=true:=by kernel_rfl
noncomputable def Rq:Code:=sub (al Tryz.prog 79) [1,1,1,0,1,0,0]
noncomputable def Rr:Code:=sub (al Tryz.prog 79) [1,1,1,1,0,1,0,0]
theorem P3:aA (ao 79) mK Rq=true:=by kernel_rfl
def P4 (c:af) (all:(List Event)) (sa:(List Bool)×Int×Int):St:=bm 61 [(0,.fptr (af.enc c) 0),(5,.mf 0),(6,(vI sa.2.2)),(14,.sl (all.map Event.enc)),(15,(vI (all.length:Int))),(16,(vI sa.2.1))] [] [.arr true 1 (sa.1.map ez)] 0
def P5 (c:af) (all:(List Event)) (tt:(List Bool)×Int):St:=bm 61 [(0,.fptr (af.enc c) 0),(5,.mf 0),(6,(vI tt.2))] [] [.arr true 1 (tt.1.map ez)] 0
def Rs (c:af) (all:(List Event)) (tt:((List Bool)×Int)):Ex×St:=(.ex 0,P5 c all tt)
theorem Sb (n:Nat) (c:af) (all:(List Event)):∀ sa r,fF n c all sa=some r→aW Tryz.prog Rq (P4 c all sa) (rk (P4 c all) (Rs c all) r):=by
 intro sa r h
 unfold fF at h
 rcases aG h with ⟨ha1,h⟩ | ⟨ha1,h⟩
 ·
  exact kQ h (nA mK [rV 4 [(17,vF)]]) [wK 2 [0,5,6] [] 1] P3 (co rfl j8) (fun z=>(aB ha1 z)) (by kernel_rfl)
 obtain ⟨xa2,gxa2,h⟩:=ac h
 obtain ⟨ya3,gya3,h⟩:=ac h
 have c69_:=fun (R:Prop) (z:R)=>(aB ha1 (aM Event.enc gxa2 (aI (jk n xa2 ya3 gya3) z)))
 rcases aG h with ⟨ha4,h⟩ | ⟨ha4,h⟩
 ·
  exact kQ h (nA mK [rV 4 [(17,vT)],rR 5 [(19,(Event.enc xa2))],bh 6 [(22,vF)] [(22,.v (.bool ya3))]]) [wK 0 [0,5,6,14,15,16] [8] 1] P3 cS (fun z=>(c69_ _ (aB ha4 z))) (by kernel_rfl)
 obtain ⟨xa5,gxa5,h⟩:=ac h
 exact kQ h (nA mK [rV 4 [(17,vT)],rR 5 [(19,(Event.enc xa2))],bh 6 [(22,vT)] [(22,.v (.bool ya3))],(7,⟨[],[],[(25,[.v (.bool xa5)]),(1000025,[.v (.bool xa5)])],[],[],[],[(1000025,(0,(sa.1.set (sa.2.1).toNat true).map ez))],[],[]⟩)]) [wK 0 [0,5,6,14,15,16] [8] 1] P3 cS (fun z=>(c69_ _ (aB ha4 (aM ez gxa5 (aN ez gxa5 (aI (fC ez sa.1 ((sa.2.1).toNat) true) z)))))) (by kernel_rfl)

theorem MI:aA (ao 79) mK Rr=true:=by kernel_rfl
def Pp (c:af) (sa:(List Bool)×Int×Int):St:=bm 61 [(5,.mf 0),(6,(vI sa.2.2)),(32,.sl (c.Order.map eI)),(33,(vI (c.Order.length:Int))),(34,(vI sa.2.1))] [] [.arr true 1 (sa.1.map ez)] 0
def Rt (c:af) (tt:Int):St:=bm 61 [(6,(vI tt))] [] [] 0
def Ru (c:af) (tt:Unit):St:=bm 61 [(4,vF)] [] [] 0
def P6 (c:af) (t0:(Int⊕Unit)):Ex×St:=match t0 with | .inl tt=>(.ex 2,Rt c tt) | .inr tt=>(.ret,Ru c tt)
theorem Rv (n:Nat) (c:af):∀ sa r,fG n c sa=some r→aW Tryz.prog Rr (Pp c sa) (rk (Pp c) (P6 c) r):=by
 intro sa r h
 unfold fG at h
 rcases aG h with ⟨ha1,h⟩ | ⟨ha1,h⟩
 ·
  exact kQ h (nA mK [rV 11 [(35,vF)]]) [wK 4 [6] [] 0] MI (co rfl j8) (fun z=>(aB ha1 z)) (by kernel_rfl)
 obtain ⟨xa2,gxa2,h⟩:=ac h
 have c70_:=fun (R:Prop) (z:R)=>(aB ha1 (aM eI gxa2 z))
 let e71_:LR:=[rV 11 [(35,vT)],rR 12 [(36,[(vI xa2)])]]
 rcases au h with ⟨ha3,h⟩ | ⟨ha3,h⟩
 ·
  exact kQ h (nA mK (e71_++[rV 13 [(40,vT)]])) [wK 1 [4] [] 0] MI (co rfl fT) (fun z=>(c70_ _ (aB ha3 z))) (by kernel_rfl)
 have c72_:=fun (R:Prop) (z:R)=>(aB ha3 (aL ez sa.1 z))
 rcases au h with ⟨ha4,h⟩ | ⟨ha4,h⟩
 ·
  exact kQ h (nA mK (e71_++[rV 13 [(40,vF),(43,(vI (sa.1.length:Int))),(46,vT)]])) [wK 1 [4] [] 0] MI (co rfl fT) (fun z=>(c70_ _ (c72_ _ (aB ha4 z)))) (by kernel_rfl)
 obtain ⟨xa5,gxa5,h⟩:=ac h
 have c73_:=fun (R:Prop) (z:R)=>(aB ha4 (aM ez gxa5 (aN ez gxa5 z)))
 rcases au h with ⟨ha6,h⟩ | ⟨ha6,h⟩
 ·
  exact kQ h (nA mK (e71_++[(13,⟨[],[],[(49,[.v (.bool xa5)]),(50,[.v (.bool xa5)])],[(40,vF),(43,(vI (sa.1.length:Int))),(46,vF),(52,vT)],[],[],[],[],[]⟩)])) [wK 1 [4] [] 0] MI (co rfl fT) (fun z=>(c70_ _ (c72_ _ (c73_ _ (aB ha6 z))))) (by kernel_rfl)
 exact kQ h (nA mK (e71_++[(13,⟨[],[],[(49,[.v (.bool xa5)]),(50,[.v (.bool xa5)])],[(40,vF),(43,(vI (sa.1.length:Int))),(46,vF),(52,vF)],[],[],[],[],[]⟩),(15,⟨[],[],[(55,[.v (.bool xa5)]),(1000055,[.v (.bool xa5)])],[],[],[],[(1000055,(0,(sa.1.set (xa2).toNat false).map ez))],[],[]⟩)])) [wK 0 [5,6,32,33,34] [] 1] MI cS (fun z=>(c70_ _ (c72_ _ (c73_ _ (aB ha6 (aM ez gxa5 (aN ez gxa5 (aI (fC ez sa.1 ((xa2).toNat) false) z)))))))) (by kernel_rfl)

theorem tg (n:Nat) (c:af) (all:(List Event)) (r:Bool) (h:dH n c all=some r):az Tryz.prog 79 [.fptr (af.enc c) 0,.sl (all.map Event.enc)] (eY (.v (.bool r))):=by
 unfold dH at h
 obtain ⟨h1,h⟩:=fj h
 obtain ⟨t2,gt2,h⟩:=ac h
 obtain ⟨t3,gt3,h⟩:=ac h
 have d0_:AV.v (.int .i64 (((all.map Event.enc).length:Nat):Int))=AV.v (.int .i64 (all.length:Int)):=u7 _ _
 have c74_:=fun (R:Prop) (z:R)=>(aI d0_ (aI h1 (aI (ku ez _ false:List.replicate ((all.length:Int)).toNat [vF]=(List.replicate ((all.length:Int)).toNat false).map ez) (aI d0_ (aI (eA (pl:=ao 79) (P4 c all) (Rs c all) (Sb n c all) n _ t2 gt2) (aL eI c.Order z))))))
 rcases t3 with w4 | w4
 ·
  obtain rfl:=aS h
  exact kP ⟨mK,[(1,⟨[],[13],[],[(12,(vI (all.length:Int)))],[],[],[(13,(0,(List.replicate ((all.length:Int)).toNat false).map ez))],[],[]⟩),rV 3 [(15,(vI (all.length:Int)))],rV 10 [(33,(vI (c.Order.length:Int)))]],[],[(4,(⟨[0,5,6,14,15,16],[],1,[],[],[]⟩,l0,(.ex 0),P5 c all t2)),(11,(⟨[5,6,32,33,34],[],1,[],[],[]⟩,l0,(.ex 2),Rt c w4))],[]⟩ GT (fun z=>(c74_ _ (aI (eA (pl:=ao 79) (Pp c) (P6 c) (Rv n c) n _ (.inl w4) gt3) z))) (by kernel_rfl)
 ·
  obtain rfl:=aS h
  exact kP ⟨mK,[(1,⟨[],[13],[],[(12,(vI (all.length:Int)))],[],[],[(13,(0,(List.replicate ((all.length:Int)).toNat false).map ez))],[],[]⟩),rV 3 [(15,(vI (all.length:Int)))],rV 10 [(33,(vI (c.Order.length:Int)))]],[],[(4,(⟨[0,5,6,14,15,16],[],1,[],[],[]⟩,l0,(.ex 0),P5 c all t2)),(11,(⟨[5,6,32,33,34],[],1,[],[],[]⟩,l0,.ret,Ru c w4))],[]⟩ GT (fun z=>(c74_ _ (aI (eA (pl:=ao 79) (Pp c) (P6 c) (Rv n c) n _ (.inr w4) gt3) z))) (by kernel_rfl)

def i4:List (Nat×PT):=[]
theorem oO:aA (ao 60) i4 (al Tryz.prog 60)=true:=by kernel_rfl
noncomputable def Rw:Code:=sub (al Tryz.prog 60) [1,1,1,0,1,0,0]
noncomputable def Rx:Code:=sub (al Tryz.prog 60) [1,1,1,1,1,1,0,1,0,0]
theorem Pq:aA (ao 60) i4 Rw=true:=by kernel_rfl
def Pr (c:af) (sa:Int×Int):St:=bm 64 [(1,.ptr (.O 0) 0 0),(3,(vI sa.2)),(25,.sl (c.Harts.map (et Event.enc))),(26,(vI (c.Harts.length:Int))),(27,(vI sa.1))] [] [.arr true 4 [(af.enc c)]] 0
def MJ (c:af) (tt:Int):St:=bm 64 [(1,.ptr (.O 0) 0 0),(3,(vI tt))] [] [.arr true 4 [(af.enc c)]] 0
def MK (c:af) (tt:Unit):St:=bm 64 [(2,(vI 2))] [] [] 0
def KQ (c:af) (t0:(Int⊕Unit)):Ex×St:=match t0 with | .inl tt=>(.ex 0,MJ c tt) | .inr tt=>(.ret,MK c tt)
theorem ML (n:Nat) (c:af):∀ sa r,fN n c sa=some r→aW Tryz.prog Rw (Pr c sa) (rk (Pr c) (KQ c) r):=by
 intro sa r h
 unfold fN at h
 rcases aG h with ⟨ha1,h⟩ | ⟨ha1,h⟩
 ·
  exact kQ h (nA i4 [rV 5 [(28,vF)]]) [wK 2 [1,3] [] 1] Pq (co rfl j8) (fun z=>(aB ha1 z)) (by kernel_rfl)
 obtain ⟨xa2,gxa2,h⟩:=ac h
 have c75_:=fun (R:Prop) (z:R)=>(aB ha1 (aM (et Event.enc) gxa2 (aL Event.enc xa2 z)))
 let e76_:LR:=[rV 5 [(28,vT)],rR 6 [(30,[.sl (xa2.map Event.enc)])],rV 7 [(34,(vI (xa2.length:Int)))]]
 rcases au h with ⟨ha3,h⟩ | ⟨ha3,h⟩
 ·
  exact kQ h (nA i4 (e76_++[rV 8 [(38,vT)]])) [wK 1 [2] [] 0] Pq (co rfl fT) (fun z=>(c75_ _ (aB ha3 z))) (by kernel_rfl)
 obtain ⟨ya4,gya4,h⟩:=ac h
 have c77_:=fun (R:Prop) (z:R)=>(aB ha3 (aI (xQ n sa.1 xa2 ya4 gya4) z))
 rcases au h with ⟨ha5,h⟩ | ⟨ha5,h⟩
 ·
  exact kQ h (nA i4 (e76_++[bh 8 [(38,vF),(43,vT)] [(41,(vI ya4))]])) [wK 1 [2] [] 0] Pq (co rfl fT) (fun z=>(c75_ _ (c77_ _ (aB ha5 z)))) (by kernel_rfl)
 exact kQ h (nA i4 (e76_++[bh 8 [(38,vF),(43,vF)] [(41,(vI ya4))]])) [wK 0 [1,3,25,26,27] [] 1] Pq cS (fun z=>(c75_ _ (c77_ _ (aB ha5 z)))) (by kernel_rfl)

theorem KR:aA (ao 60) i4 Rx=true:=by kernel_rfl
def IH (c:af) (y7:(List Event)) (sa:Int):St:=bm 64 [(1,.ptr (.O 0) 0 0),(6,.sl (y7.map Event.enc)),(52,(vI (y7.length:Int))),(53,(vI sa))] [] [.arr true 4 [(af.enc c)]] 0
def KS (c:af) (y7:(List Event)) (tt:Unit):St:=bm 64 [(1,.ptr (.O 0) 0 0),(6,.sl (y7.map Event.enc))] [] [.arr true 4 [(af.enc c)]] 0
def MM (c:af) (y7:(List Event)) (tt:Unit):St:=bm 64 [(2,(vI 2))] [] [] 0
def KT (c:af) (y7:(List Event)) (t0:(Unit⊕Unit)):Ex×St:=match t0 with | .inl tt=>(.ex 2,KS c y7 tt) | .inr tt=>(.ret,MM c y7 tt)
theorem MN (n:Nat) (c:af) (y7:(List Event)):∀ sa r,gL n c y7 sa=some r→aW Tryz.prog Rx (IH c y7 sa) (rk (IH c y7) (KT c y7) r):=by
 intro sa r h
 unfold gL at h
 rcases aG h with ⟨ha1,h⟩ | ⟨ha1,h⟩
 ·
  exact kQ h (nA i4 [rV 15 [(54,vF)]]) [wK 4 [1,6] [] 1] KR (co rfl j8) (fun z=>(aB ha1 z)) (by kernel_rfl)
 obtain ⟨ya2,gya2,h⟩:=ac h
 have c78_:=fun (R:Prop) (z:R)=>(aB ha1 (aI (xR n c y7 sa ya2 gya2) z))
 rcases au h with ⟨ha3,h⟩ | ⟨ha3,h⟩
 ·
  exact kQ h (nA i4 [rV 15 [(54,vT)],bh 17 [(59,vT)] [(58,.v (.bool ya2))]]) [wK 1 [2] [] 0] KR (co rfl fT) (fun z=>(c78_ _ (aB ha3 z))) (by kernel_rfl)
 exact kQ h (nA i4 [rV 15 [(54,vT)],bh 17 [(59,vF)] [(58,.v (.bool ya2))]]) [wK 0 [1,6,52,53] [] 1] KR cS (fun z=>(c78_ _ (aB ha3 z))) (by kernel_rfl)

theorem iT (n:Nat) (c:af) (r:Int) (h:b_ n c=some r):az Tryz.prog 60 [(bT af.enc c)] (eY ((vI r))):=by
 unfold b_ at h
 obtain ⟨y1,gy1,h⟩:=ac h
 have c79_:=fun (R:Prop) (z:R)=>(aI (wO n c.First y1 gy1) z)
 rcases au h with ⟨h2,h⟩ | ⟨h2,h⟩
 ·
  obtain rfl:=aS h
  exact kP (nA i4 [bh 1 [(12,vT)] [(10,.v (.bool y1))]]) oO (fun z=>(c79_ _ (aB h2 z))) (by kernel_rfl)
 have c80_:=fun (R:Prop) (z:R)=>(aB h2 (aL (et Event.enc) c.Harts z))
 rcases au h with ⟨h3,h⟩ | ⟨h3,h⟩
 ·
  obtain rfl:=aS h
  exact kP (nA i4 [bh 1 [(12,vF),(15,(vI (c.Harts.length:Int))),(18,vT)] [(10,.v (.bool y1))]]) oO (fun z=>(c79_ _ (c80_ _ (aB h3 z)))) (by kernel_rfl)
 have c81_:=fun (R:Prop) (z:R)=>(aB h3 (aL (et Event.enc) c.Harts z))
 rcases au h with ⟨h4,h⟩ | ⟨h4,h⟩
 ·
  obtain rfl:=aS h
  exact kP (nA i4 [bh 1 [(12,vF),(15,(vI (c.Harts.length:Int))),(18,vF),(21,(vI (c.Harts.length:Int))),(23,vT)] [(10,.v (.bool y1))]]) oO (fun z=>(c79_ _ (c80_ _ (c81_ _ (aB h4 z))))) (by kernel_rfl)
 obtain ⟨t5,gt5,h⟩:=ac h
 have c82_:=fun (R:Prop) (z:R)=>(aB h4 (aL (et Event.enc) c.Harts z))
 let e83_:LR:=[bh 1 [(12,vF),(15,(vI (c.Harts.length:Int))),(18,vF),(21,(vI (c.Harts.length:Int))),(23,vF)] [(10,.v (.bool y1))]]
 rcases t5 with w6 | w6
 ·
  obtain ⟨y7,gy7,h⟩:=ac h
  have c84_:=fun (R:Prop) (z:R)=>(aI (eA (pl:=ao 60) (Pr c) (KQ c) (ML n c) n _ (.inl w6) gt5) (aI (nB n c.First c.Harts c.From c.Order y7 gy7) (aL eI c.From z)))
  let e85_:LR:=[rV 4 [(26,(vI (c.Harts.length:Int)))],(11,⟨[],[],[],[],[],[(45,(.sl (y7.map Event.enc),[.arr true 4 [(af.enc c)]]))],[],[],[]⟩)]
  rcases au h with ⟨h8,h⟩ | ⟨h8,h⟩
  ·
   obtain rfl:=aS h
   exact kP ⟨i4,(e83_++(e85_++[rV 12 [(48,(vI (c.From.length:Int))),(50,vT)]])),[],[(5,(⟨[1,3,25,26,27],[],1,[],[],[]⟩,l0,(.ex 0),MJ c w6))],[]⟩ oO (fun z=>(c79_ _ (c80_ _ (c81_ _ (c82_ _ (c84_ _ (aB h8 z))))))) (by kernel_rfl)
  obtain ⟨t9,gt9,h⟩:=ac h
  have c86_:=fun (R:Prop) (z:R)=>(aB h8 (aL Event.enc y7 z))
  let e87_:LR:=[rV 12 [(48,(vI (c.From.length:Int))),(50,vF)]]
  rcases t9 with w10 | w10
  ·
   obtain ⟨y11,gy11,h⟩:=ac h
   have c88_:=fun (R:Prop) (z:R)=>(aI (eA (pl:=ao 60) (IH c y7) (KT c y7) (MN n c y7) n _ (.inl w10) gt9) (aI (tg n c y7 y11 gy11) z))
   rcases au h with ⟨h12,h⟩ | ⟨h12,h⟩
   ·
    obtain rfl:=aS h
    exact kP ⟨i4,(e83_++(e85_++(e87_++[rV 14 [(52,(vI (y7.length:Int)))],bh 20 [(63,vT)] [(62,.v (.bool y11))]]))),[],[(5,(⟨[1,3,25,26,27],[],1,[],[],[]⟩,l0,(.ex 0),MJ c w6)),(15,(⟨[1,6,52,53],[],1,[],[],[]⟩,l0,(.ex 2),KS c y7 w10))],[]⟩ oO (fun z=>(c79_ _ (c80_ _ (c81_ _ (c82_ _ (c84_ _ (c86_ _ (c88_ _ (aB h12 z))))))))) (by kernel_rfl)
   obtain rfl:=aS h
   exact kP ⟨i4,(e83_++(e85_++(e87_++[rV 14 [(52,(vI (y7.length:Int)))],bh 20 [(63,vF)] [(62,.v (.bool y11))]]))),[],[(5,(⟨[1,3,25,26,27],[],1,[],[],[]⟩,l0,(.ex 0),MJ c w6)),(15,(⟨[1,6,52,53],[],1,[],[],[]⟩,l0,(.ex 2),KS c y7 w10))],[]⟩ oO (fun z=>(c79_ _ (c80_ _ (c81_ _ (c82_ _ (c84_ _ (c86_ _ (c88_ _ (aB h12 z))))))))) (by kernel_rfl)
  ·
   obtain rfl:=aS h
   exact kP ⟨i4,(e83_++(e85_++(e87_++[rV 14 [(52,(vI (y7.length:Int)))]]))),[],[(5,(⟨[1,3,25,26,27],[],1,[],[],[]⟩,l0,(.ex 0),MJ c w6)),(15,(⟨[1,6,52,53],[],1,[],[],[]⟩,l0,.ret,MM c y7 w10))],[]⟩ oO (fun z=>(c79_ _ (c80_ _ (c81_ _ (c82_ _ (c84_ _ (c86_ _ (aI (eA (pl:=ao 60) (IH c y7) (KT c y7) (MN n c y7) n _ (.inr w10) gt9) z)))))))) (by kernel_rfl)
 ·
  obtain rfl:=aS h
  exact kP ⟨i4,(e83_++[rV 4 [(26,(vI (c.Harts.length:Int)))]]),[],[(5,(⟨[1,3,25,26,27],[],1,[],[],[]⟩,l0,.ret,MK c w6))],[]⟩ oO (fun z=>(c79_ _ (c80_ _ (c81_ _ (c82_ _ (aI (eA (pl:=ao 60) (Pr c) (KQ c) (ML n c) n _ (.inr w6) gt5) z)))))) (by kernel_rfl)

def JX:List (Nat×PT):=[]
theorem KU:aA (ao 91) JX (al Tryz.prog 91)=true:=by kernel_rfl
theorem mL (l:List Int) (K:AV→Prop):oP pc sc lp cd (nA JX [(1,⟨[4],[],[],[],[],[],[],[],[]⟩),(3,⟨[],[7],[],[],[],[],[],[],[]⟩)]) 91 [.sl (l.map eI)] K
  = ((l.map eI=[]→K .nilsl)∧(di 1 (l.map eI)=true)∧(a5 (l.map eI)=true)∧(Nat.ble ((l.map eI).length * 8) 140737488355328=true)∧K (.sl (l.map eI))):=by kernel_rfl
theorem eT (n:Nat) (l:List Int) (r:List Int) (h:bR n l=some r):az Tryz.prog 91 [.sl (l.map eI)] (eY (.sl (r.map eI))):=by
  unfold bR at h
  obtain ⟨h1,h⟩:=fj h
  have e:=Option.some.inj h
  subst e
  exact QN KU (Eq.mpr (mL pP sP lP dP l _) ⟨fun e=>Iu _ e,JS,H6,u9 h1,aJ.refl _⟩)
def JY:List (Nat×PT):=[(1,(eO [0,1,2,3,4,5,6,7,8,9,10,11,12,13,14]))]
theorem KV:aA (ao 80) JY (al Tryz.prog 80)=true:=by kernel_rfl
theorem Ai (n:Nat) (e:Event) (r:Event) (h:nJ n e=some r):az Tryz.prog 80 [(bT Event.enc e)] (eY ((bT Event.enc r))):=by
 unfold nJ at h
 obtain ⟨y1,gy1,h⟩:=ac h
 obtain ⟨y2,gy2,h⟩:=ac h
 obtain ⟨y3,gy3,h⟩:=ac h
 obtain rfl:=aS h
 exact kP (nA JY [bh 1 [] [(6,.sl (y1.map eI)),(10,.sl (y2.map eI)),(14,.sl (y3.map eI))]]) KV (fun z=>(aI (eT n e.Deps.Addr y1 gy1) (aI (eT n e.Deps.Data y2 gy2) (aI (eT n e.Deps.Way y3 gy3) z)))) (by kernel_rfl)

def y_:List (Nat×PT):=[]
theorem GU:aA (ao 61) y_ (al Tryz.prog 61)=true:=by kernel_rfl
noncomputable def MO:Code:=sub (al Tryz.prog 61) [1,1,1,0,1,0,0]
theorem MP:aA (ao 61) y_ MO=true:=by kernel_rfl
def KW (y3:(List Event)) (sa:(List Event)×Int):St:=bm 22 [(3,.mf 0),(9,.sl (y3.map Event.enc)),(10,(vI (y3.length:Int))),(11,(vI sa.2))] [] [.arr true 14 (sa.1.map Event.enc)] 0
def MQ (y3:(List Event)) (tt:(List Event)):St:=bm 22 [(3,.mf 0)] [] [.arr true 14 (tt.map Event.enc)] 0
def MR (y3:(List Event)) (tt:((List Event))):Ex×St:=(.ex 0,MQ y3 tt)
theorem P7 (n:Nat) (y3:(List Event)):∀ sa r,lv n y3 sa=some r→aW Tryz.prog MO (KW y3 sa) (rk (KW y3) (MR y3) r):=by
 intro sa r h
 unfold lv at h
 rcases aG h with ⟨ha1,h⟩ | ⟨ha1,h⟩
 ·
  exact kQ h (nA y_ [rV 5 [(12,vF)]]) [wK 2 [3] [] 1] MP (co rfl j8) (fun z=>(aB ha1 z)) (by kernel_rfl)
 obtain ⟨xa2,gxa2,h⟩:=ac h
 obtain ⟨ya3,gya3,h⟩:=ac h
 obtain ⟨ha4,h⟩:=fj h
 exact kQ h (nA y_ [rV 5 [(12,vT)],rR 6 [(13,(Event.enc xa2))],(7,⟨[],[19],[],[],[(17,(bT Event.enc ya3))],[],[(19,(0,(sa.1++([ya3]:List Event)).map Event.enc))],[],[]⟩)]) [wK 0 [3,9,10,11] [5] 1] MP cS (fun z=>(aB ha1 (aM Event.enc gxa2 (aI (Ai n xa2 ya3 gya3) (aI (rfl:di 14 [(Event.enc ya3)]=true) (aI (rfl:a5 [(Event.enc ya3)]=true) (aI (mE ha4:Nat.ble (((sa.1.map Event.enc).length + 1) * 152) 140737488355328=true) (aI (pD Event.enc sa.1 ([ya3]:List Event)) z)))))))) (by kernel_rfl)

theorem Aj (n:Nat) (c:af) (r:(List Event)) (h:mh n c=some r):az Tryz.prog 61 [(bT af.enc c)] (eY (.sl (r.map Event.enc))):=by
 unfold mh at h
 obtain ⟨y1,gy1,h⟩:=ac h
 have c89_:=fun (R:Prop) (z:R)=>(aI (iT n c y1 gy1) z)
 rcases au h with ⟨h2,h⟩ | ⟨h2,h⟩
 ·
  obtain rfl:=aS h
  exact kP (nA y_ [bh 1 [(8,vT)] [(7,(vI y1))]]) GU (fun z=>(c89_ _ (aB h2 (aJ.nil:aJ .nilsl (.sl (([]:List Event).map Event.enc)))))) (by kernel_rfl)
 obtain ⟨y3,gy3,h⟩:=ac h
 obtain ⟨t4,gt4,h⟩:=ac h
 obtain rfl:=aS h
 exact kP ⟨y_,[bh 1 [(8,vF)] [(7,(vI y1))],(4,⟨[],[],[],[(10,(vI (y3.length:Int)))],[],[(9,(.sl (y3.map Event.enc),[.arr true 4 [(af.enc c)]]))],[],[],[]⟩)],[],[(5,(⟨[3,9,10,11],[],0,[(3,14)],[],[]⟩,l0,(.ex 0),MQ y3 t4))],[]⟩ GU (fun z=>(c89_ _ (aB h2 (aI (nB n c.First c.Harts c.From c.Order y3 gy3) (aL Event.enc y3 (aI (eA (pl:=ao 61) (KW y3) (MR y3) (P7 n y3) n _ t4 gt4) z)))))) (by kernel_rfl)

def GV:List (Nat×PT):=[]
theorem II:aA (ao 107) GV (al Tryz.prog 107)=true:=by kernel_rfl
theorem pI (n:Nat) (x:Int) (y:Int) (r:Int×Int) (h:j3 n x y=some r):az Tryz.prog 107 [(vU x),(vU y)] (eY (.tup [(vU r.1),(vU r.2)])):=by
 unfold j3 at h
 obtain rfl:=aS h
 exact kP (nA GV []) II (fun z=>z) (by kernel_rfl)

def JZ:List (Nat×PT):=[]
theorem KX:aA (ao 92) JZ (al Tryz.prog 92)=true:=by kernel_rfl
theorem lQ (n:Nat) (x:Int) (y:Int) (r:Int×Int) (h:fO n x y=some r):az Tryz.prog 92 [(vU x),(vU y)] (eY (.tup [(vU r.1),(vU r.2)])):=by
 unfold fO at h
 obtain ⟨y1,gy1,h⟩:=ac h
 obtain rfl:=aS h
 exact kP (nA JZ [bh 3 [] [(25,.tup [(vU y1.1),(vU y1.2)])]]) KX (fun z=>(aI (pI n x y y1 gy1) z)) (by kernel_rfl)

def rO:List (Nat×PT):=[(9,(.go 1 (.go 2 (.go 3 (.go 4 (.go 5 (.go 6 (.alt 0 (eO [7,8,9]) (.alt 7 (eO [0,8,9]) (eO []))))))))))]
theorem GW:aA (ao 81) rO (al Tryz.prog 81)=true:=by kernel_rfl
noncomputable def MS:Code:=sub (al Tryz.prog 81) [1,1,1,1,1,1,0,0,0]
theorem MU:aA (ao 81) rO MS=true:=by kernel_rfl
def KY (sa:(List Int)×Int):St:=bm 48 [(7,.mf 0),(8,(vI sa.2))] [] [.arr true 1 (sa.1.map eI)] 0
def MW (tt:(List Int)):St:=bm 48 [(7,.mf 0)] [] [.arr true 1 (tt.map eI)] 0
def MX (tt:((List Int))):Ex×St:=(.ex 0,MW tt)
theorem P8 (n:Nat):∀ sa r,cG n sa=some r→aW Tryz.prog MS (KY sa) (rk (KY) (MX) r):=by
 intro sa r h
 unfold cG at h
 rcases aG h with ⟨ha1,h⟩ | ⟨ha1,h⟩
 ·
  exact kQ h (nA rO [rV 8 [(36,(vI (sa.1.length:Int))),(37,vF)]]) [wK 2 [7] [] 1] MU (co rfl j8) (fun z=>(aL eI sa.1 (aB ha1 z))) (by kernel_rfl)
 obtain ⟨ha2,h⟩:=fj h
 obtain ⟨ha3,h⟩:=fj h
 obtain ⟨ha4,h⟩:=fj h
 have d0_:a5 (((sa.1.map eI).drop 0).take ((sa.2).toNat))=true:=(by rw [← List.map_drop,← List.map_take]; exact H6)
 have d1_:Nat.ble ((sa.2).toNat + (sa.1.length - (sa.2).toNat)) (sa.1.map eI).length=true:=(by rw [List.length_map]; exact ha4)
 have d2_:AV.v (.int .i64 ((min (((sa.1.map eI).drop 0).take ((sa.2).toNat)).length (sa.1.length - (sa.2).toNat):Nat):Int))=AV.v (.int .i64 ((min ((sa.1.drop 0).take ((sa.2).toNat)).length (sa.1.length - (sa.2).toNat):Nat):Int)):=(by simp [])
 have d3_:(sa.1.map eI).take ((sa.2).toNat)++((((sa.1.map eI).drop 0).take ((sa.2).toNat)).take (sa.1.length - (sa.2).toNat)++(sa.1.map eI).drop ((sa.2).toNat + min (((sa.1.map eI).drop 0).take ((sa.2).toNat)).length (sa.1.length - (sa.2).toNat)))=(sa.1.take ((sa.2).toNat)++(((sa.1.drop 0).take ((sa.2).toNat)).take (sa.1.length - (sa.2).toNat)++sa.1.drop ((sa.2).toNat + min ((sa.1.drop 0).take ((sa.2).toNat)).length (sa.1.length - (sa.2).toNat)))).map eI:=(by simp [List.map_take,List.map_drop])
 exact kQ h (nA rO [rV 8 [(36,(vI (sa.1.length:Int))),(37,vT)],(9,⟨[],[41,44],[],[(41,.msl 0 ((sa.2).toNat) (sa.1.length - (sa.2).toNat) 0),(44,.msl 0 0 ((sa.2).toNat) (sa.1.length - (sa.2).toNat)),(45,.v (.int .i64 ((min ((sa.1.drop 0).take ((sa.2).toNat)).length (sa.1.length - (sa.2).toNat):Nat):Int)))],[],[],[(45,(0,(sa.1.take ((sa.2).toNat)++(((sa.1.drop 0).take ((sa.2).toNat)).take (sa.1.length - (sa.2).toNat)++sa.1.drop ((sa.2).toNat + min ((sa.1.drop 0).take ((sa.2).toNat)).length (sa.1.length - (sa.2).toNat)))).map eI))],[],[]⟩)]) [wK 0 [7,8] [] 1] MU cS (fun z=>(aL eI sa.1 (aB ha1 (aI (Ad ha2:(decide ((0:Int)≤sa.2)&&decide (sa.2≤(((sa.1.map eI).length:Nat):Int)))=true) (aI (BS eI sa.1 _ _ _ _:AV.msl 0 (sa.2).toNat ((sa.1.map eI).length - (sa.2).toNat) 0=AV.msl 0 ((sa.2).toNat) (sa.1.length - (sa.2).toNat) 0) (aI (Ad ha3:(decide ((0:Int)≤sa.2)&&decide (sa.2≤(((sa.1.map eI).length:Nat):Int)))=true) (aI (D2 eI sa.1 _ _ _ _:AV.msl 0 0 ((sa.2).toNat - 0) ((sa.1.map eI).length - (sa.2).toNat)=AV.msl 0 0 ((sa.2).toNat) (sa.1.length - (sa.2).toNat)) (aI d0_ (aI d1_ (aI d2_ (aI d3_ (aI d0_ (aI d1_ (aI d2_ (aI d3_ (aI (rfl:bm 48 [(7,.mf 0),(8,.v (.int .i64 (ah .i64 sa.2 ((min ((sa.1.drop 0).take ((sa.2).toNat)).length (sa.1.length - (sa.2).toNat):Nat):Int)))),(34,(vI sa.2)),(35,.mf 0),(36,(vI (sa.1.length:Int))),(37,vT),(38,(vI sa.2)),(39,.mf 0),(40,(vI sa.2)),(41,.msl 0 ((sa.2).toNat) (sa.1.length - (sa.2).toNat) 0),(42,.mf 0),(43,(vI sa.2)),(44,.msl 0 0 ((sa.2).toNat) (sa.1.length - (sa.2).toNat)),(45,.v (.int .i64 ((min ((sa.1.drop 0).take ((sa.2).toNat)).length (sa.1.length - (sa.2).toNat):Nat):Int))),(46,.v (.int .i64 (ah .i64 sa.2 ((min ((sa.1.drop 0).take ((sa.2).toNat)).length (sa.1.length - (sa.2).toNat):Nat):Int))))] [] [.arr true 1 ((sa.1.take ((sa.2).toNat)++(((sa.1.drop 0).take ((sa.2).toNat)).take (sa.1.length - (sa.2).toNat)++sa.1.drop ((sa.2).toNat + min ((sa.1.drop 0).take ((sa.2).toNat)).length (sa.1.length - (sa.2).toNat)))).map eI)] 0=bm 48 [(7,.mf 0),(8,.v (.int .i64 (ah .i64 sa.2 ((min ((sa.1.drop 0).take ((sa.2).toNat)).length (sa.1.length - (sa.2).toNat):Nat):Int)))),(34,(vI sa.2)),(35,.mf 0),(36,(vI (sa.1.length:Int))),(37,vT),(38,(vI sa.2)),(39,.mf 0),(40,(vI sa.2)),(41,.msl 0 ((sa.2).toNat) (sa.1.length - (sa.2).toNat) 0),(42,.mf 0),(43,(vI sa.2)),(44,.msl 0 0 ((sa.2).toNat) (sa.1.length - (sa.2).toNat)),(45,.v (.int .i64 ((min ((sa.1.drop 0).take ((sa.2).toNat)).length (sa.1.length - (sa.2).toNat):Nat):Int))),(46,.v (.int .i64 (ah .i64 sa.2 ((min ((sa.1.drop 0).take ((sa.2).toNat)).length (sa.1.length - (sa.2).toNat):Nat):Int))))] [] [.arr true 1 ((sa.1.take ((sa.2).toNat)++(((sa.1.drop 0).take ((sa.2).toNat)).take (sa.1.length - (sa.2).toNat)++sa.1.drop ((sa.2).toNat + min ((sa.1.drop 0).take ((sa.2).toNat)).length (sa.1.length - (sa.2).toNat)))).map eI)] 0) z)))))))))))))))) (by kernel_rfl)

def gK (x:(List Int)) (count:Int) (y:(List Int)):AV×List Ob:=(.mf 0,[.arr true 1 (y.map eI)])
theorem kw (n:Nat) (x:(List Int)) (count:Int) (y:(List Int)) (h:bM n x count=some y):SD Tryz.prog 81 [.sl (x.map eI),(vI count)] [] (fun r' o'=>r'=(gK x count y).1∧o'=(gK x count y).2):=by
 unfold bM at h
 rcases au h with ⟨h1,h⟩ | ⟨h1,h⟩
 ·
  cases h
 obtain ⟨y2,gy2,h⟩:=ac h
 have c90_:=fun (R:Prop) (z:R)=>(aB h1 (aL eI x (aI (lQ n (IntKind.wrap .u64 (x.length:Int)) (IntKind.wrap .u64 count) y2 gy2) z)))
 let e91_:LR:=[rV 1 [(10,vF)],bh 3 [(14,(vI (x.length:Int)))] [(18,.tup [(vU y2.1),(vU y2.2)])]]
 rcases au h with ⟨h3,h⟩ | ⟨h3,h⟩
 ·
  cases h
 rcases au h with ⟨h4,h⟩ | ⟨h4,h⟩
 ·
  cases h
 obtain ⟨h5,h⟩:=fj h
 obtain ⟨t6,gt6,h⟩:=ac h
 obtain rfl:=aS h
 exact kS ⟨rO,(e91_++[rV 4 [(23,vF),(26,vF)],(6,⟨[],[30],[],[],[],[],[(30,(0,(List.replicate ((IntKind.wrap .i64 y2.2)).toNat 0).map eI))],[],[]⟩),(7,⟨[],[],[],[(33,.v (.int .i64 ((min x.length (List.replicate ((IntKind.wrap .i64 y2.2)).toNat 0).length:Nat):Int)))],[],[],[(33,(0,(x.take (List.replicate ((IntKind.wrap .i64 y2.2)).toNat 0).length++(List.replicate ((IntKind.wrap .i64 y2.2)).toNat 0).drop x.length).map eI))],[],[]⟩)]),[],[(8,(⟨[7,8],[],1,[],[],[]⟩,l0,(.ex 0),MW t6))],[]⟩ GW ⟨rfl,rfl⟩ (fun z=>(c90_ _ (aB h3 (aB h4 (aI h5 (aI (ku eI _ 0:List.replicate ((IntKind.wrap .i64 y2.2)).toNat [(vI 0)]=(List.replicate ((IntKind.wrap .i64 y2.2)).toNat 0).map eI) (aI (JS:di 1 (x.map eI)=true) (aI (H6:a5 (x.map eI)=true) (aI ((by simp []):AV.v (.int .i64 ((min (x.map eI).length ((List.replicate ((IntKind.wrap .i64 y2.2)).toNat 0).map eI).length:Nat):Int))=AV.v (.int .i64 ((min x.length (List.replicate ((IntKind.wrap .i64 y2.2)).toNat 0).length:Nat):Int))) (aI ((by simp [List.map_take]):(x.map eI).take ((List.replicate ((IntKind.wrap .i64 y2.2)).toNat 0).map eI).length++((List.replicate ((IntKind.wrap .i64 y2.2)).toNat 0).map eI).drop (x.map eI).length=(x.take (List.replicate ((IntKind.wrap .i64 y2.2)).toNat 0).length++(List.replicate ((IntKind.wrap .i64 y2.2)).toNat 0).drop x.length).map eI) (aI (eA (pl:=ao 81) (KY) (MX) (P8 n) n _ t6 gt6) z))))))))))) (by kernel_rfl)

def za:List (Nat×PT):=[]
theorem GX:aA (ao 62) za (al Tryz.prog 62)=true:=by kernel_rfl
noncomputable def MY:Code:=sub (al Tryz.prog 62) [1,1,1,0,1,0,0]
theorem MZ:aA (ao 62) za MY=true:=by kernel_rfl
def KZ (c:af) (sa:(List Int)×Int):St:=bm 28 [(3,.mf 0),(15,.sl (c.Order.map eI)),(16,(vI (c.Order.length:Int))),(17,(vI sa.2))] [] [.arr true 1 (sa.1.map eI)] 0
def M0 (c:af) (tt:(List Int)):St:=bm 28 [(3,.mf 0)] [] [.arr true 1 (tt.map eI)] 0
def M1 (c:af) (tt:((List Int))):Ex×St:=(.ex 0,M0 c tt)
theorem P9 (n:Nat) (c:af):∀ sa r,iB n c sa=some r→aW Tryz.prog MY (KZ c sa) (rk (KZ c) (M1 c) r):=by
 intro sa r h
 unfold iB at h
 rcases aG h with ⟨ha1,h⟩ | ⟨ha1,h⟩
 ·
  exact kQ h (nA za [rV 5 [(18,vF)]]) [wK 2 [3] [] 1] MZ (co rfl j8) (fun z=>(aB ha1 z)) (by kernel_rfl)
 obtain ⟨xa2,gxa2,h⟩:=ac h
 obtain ⟨xa3,gxa3,h⟩:=ac h
 exact kQ h (nA za [rV 5 [(18,vT)],rR 6 [(20,[(vI xa2)])],(7,⟨[],[],[(25,[(vI xa3)]),(1000025,[(vI xa3)])],[],[],[],[(1000025,(0,(sa.1.set (xa2).toNat sa.2).map eI))],[],[]⟩)]) [wK 0 [3,15,16,17] [] 1] MZ cS (fun z=>(aB ha1 (aM eI gxa2 (aM eI gxa3 (aN eI gxa3 (aI (fC eI sa.1 ((xa2).toNat) sa.2) z)))))) (by kernel_rfl)

theorem uF (n:Nat) (c:af) (r:(List Int)) (h:jN n c=some r):az Tryz.prog 62 [(bT af.enc c)] (eY (.sl (r.map eI))):=by
 unfold jN at h
 obtain ⟨y1,gy1,h⟩:=ac h
 have c92_:=fun (R:Prop) (z:R)=>(aI (iT n c y1 gy1) z)
 rcases au h with ⟨h2,h⟩ | ⟨h2,h⟩
 ·
  obtain rfl:=aS h
  exact kP (nA za [bh 1 [(8,vT)] [(7,(vI y1))]]) GX (fun z=>(c92_ _ (aB h2 (aJ.nil:aJ .nilsl (.sl (([]:List Int).map eI)))))) (by kernel_rfl)
 obtain ⟨y3,gy3,h⟩:=ac h
 obtain ⟨t4,gt4,h⟩:=ac h
 obtain rfl:=aS h
 exact kP ⟨za,[bh 1 [(8,vF)] [(7,(vI y1))],(3,⟨[],[],[],[(12,(vI (c.From.length:Int)))],[],[(13,(.mf 0,[.arr true 1 (y3.map eI)]))],[],[],[]⟩),rV 4 [(16,(vI (c.Order.length:Int)))]],[],[(5,(⟨[3,15,16,17],[1],1,[],[],[]⟩,l0,(.ex 0),M0 c t4))],[]⟩ GX (fun z=>(c92_ _ (aB h2 (aL eI c.From (aI (kw n ([(-1)]:List Int) (c.From.length:Int) y3 gy3) (aL eI c.Order (aI (eA (pl:=ao 62) (KZ c) (M1 c) (P9 n c) n _ t4 gt4) z))))))) (by kernel_rfl)

def rP:List (Nat×PT):=[(3,(.go 0 (.go 1 (.go 2 (.go 5 (.go 6 (.alt 3 (.alt 4 (.alt 7 (.alt 8 (eO [9,10,11,12]) (.alt 9 (eO [8,10,11,12]) (eO []))) (.alt 9 (eO [7,8,10,11,12]) (eO []))) (.alt 7 (.alt 4 (.alt 8 (eO [9,10,11,12]) (.alt 9 (eO [8,10,11,12]) (eO []))) (.alt 9 (eO [4,8,10,11,12]) (eO []))) (.alt 9 (eO [4,7,8,10,11,12]) (eO [])))) (.alt 7 (.alt 3 (.alt 4 (.alt 8 (eO [9,10,11,12]) (.alt 9 (eO [8,10,11,12]) (eO []))) (.alt 9 (eO [4,8,10,11,12]) (eO []))) (.alt 9 (eO [3,4,8,10,11,12]) (eO []))) (.alt 9 (eO [3,4,7,8,10,11,12]) (eO [])))))))))),(9,(.go 0 (.go 1 (.go 2 (.go 4 (.go 6 (.go 7 (.go 8 (.go 10 (.go 13 (.go 9 (.go 11 (.go 14 (.alt 3 (.go 12 (.alt 5 (eO [15,16]) (.alt 15 (eO [5,16]) (eO [])))) (.alt 5 (.alt 3 (eO [12,15,16]) (.alt 12 (.alt 3 (eO [15,16]) (.alt 15 (eO [3,16]) (eO []))) (eO []))) (.alt 12 (.alt 3 (.alt 5 (eO [15,16]) (.alt 15 (eO [5,16]) (eO []))) (.alt 5 (.alt 3 (eO [15,16]) (.alt 15 (eO [3,16]) (eO []))) (.alt 15 (eO [3,5,16]) (eO [])))) (eO [])))))))))))))))))]
theorem GY:aA (ao 37) rP (al Tryz.prog 37)=true:=by kernel_rfl
noncomputable def M3:Code:=sub (al Tryz.prog 37) [1,1,1,0,1,0,0]
theorem GZ:aA (ao 37) rP M3=true:=by kernel_rfl
def K0 (oA:(List Cell)) (oB:(List (List Event))) (oC:(List Int)) (oD:(List Int)) (y3:(List Event)) (y4:(List Int)) (sa:(List Int×(List (Option (List Int))))×Int):St:=bm 60 [(3,.ptr (.O 2) 0 0),(27,.sl (oD.map eI)),(28,(vI (oD.length:Int))),(29,(vI sa.2))] [] [.arr true 4 [[.sl (oA.map Cell.enc),.sl (oB.map (et Event.enc)),.sl (oC.map eI),.sl (oD.map eI)]],.own (some (sa.1.1.map (aR .u64))) 1 (sa.1.2.map (mF eI)) none,.arr false 4 [[.ptr (.O 0) 0 0,.sl (y3.map Event.enc),.sl (y4.map eI),.mp 1]]] 1
def M4 (oA:(List Cell)) (oB:(List (List Event))) (oC:(List Int)) (oD:(List Int)) (y3:(List Event)) (y4:(List Int)) (tt:(List Int×(List (Option (List Int))))):St:=bm 60 [(3,.ptr (.O 2) 0 0)] [] [.arr true 4 [[.sl (oA.map Cell.enc),.sl (oB.map (et Event.enc)),.sl (oC.map eI),.sl (oD.map eI)]],.own (some (tt.1.map (aR .u64))) 1 (tt.2.map (mF eI)) none,.arr false 4 [[.ptr (.O 0) 0 0,.sl (y3.map Event.enc),.sl (y4.map eI),.mp 1]]] 1
def M5 (oA:(List Cell)) (oB:(List (List Event))) (oC:(List Int)) (oD:(List Int)) (y3:(List Event)) (y4:(List Int)) (tt:((List Int×(List (Option (List Int)))))):Ex×St:=(.ex 0,M4 oA oB oC oD y3 y4 tt)
theorem P_ (n:Nat) (oA:(List Cell)) (oB:(List (List Event))) (oC:(List Int)) (oD:(List Int)) (y3:(List Event)) (y4:(List Int)):∀ sa r,jD n oA oB oC oD y3 y4 sa=some r→aW Tryz.prog M3 (K0 oA oB oC oD y3 y4 sa) (rk (K0 oA oB oC oD y3 y4) (M5 oA oB oC oD y3 y4) r):=by
 intro sa r h
 unfold jD at h
 rcases aG h with ⟨ha1,h⟩ | ⟨ha1,h⟩
 ·
  exact kQ h (nA rP [rV 5 [(30,vF)]]) [wK 2 [3] [] 3] GZ (co rfl j8) (fun z=>(aB ha1 z)) (by kernel_rfl)
 obtain ⟨xa2,gxa2,h⟩:=ac h
 obtain ⟨xa3,gxa3,h⟩:=ac h
 obtain ⟨ya4,gya4,h⟩:=ac h
 have c93_:=fun (R:Prop) (z:R)=>(aB ha1 (aM eI gxa2 (aM Event.enc gxa3 (aI (cy n xa3 ya4 gya4) z))))
 let e94_:LR:=[rV 5 [(30,vT)],rR 6 [(31,[(vI xa2)])],rR 7 [(38,(Event.enc xa3))]]
 rcases aG h with ⟨ha5,h⟩ | ⟨ha5,h⟩
 ·
  exact kQ h (nA rP (e94_++[bh 8 [(41,vF)] [(41,.v (.bool ya4))]])) [wK 0 [3,27,28,29] [6] 3] GZ cS (fun z=>(c93_ _ (aB ha5 z))) (by kernel_rfl)
 let e95_:LR:=[bh 8 [(41,vT)] [(41,.v (.bool ya4))]]
 rcases jC h with ⟨ha6,h⟩ | ⟨za6,ha7,h⟩
 ·
  have d0_:∀ K':Option Nat→Prop,K' none→cK Tryz.prog 40 ((vU xa3.Addr)) (eU (sa.1.1.map (aR .u64))) fun _ r=>K' r:=qP sa.1.1 xa3.Addr ha6
  have d1_:∀ K':Option Nat→List AV→Prop,K' none ((sa.1.1++[xa3.Addr]).map (aR .u64))→cK Tryz.prog 40 ((vU xa3.Addr)) (eU (sa.1.1.map (aR .u64))) fun kv r=>bz (qi Tryz.prog 40 kv) (match r with | some i=>bz (Instr.sameBits 10000 (((sa.1.1.map (aR .u64))[i]?.bind tE).getD (.bool false)) kv) (K' (some i) ((sa.1.1.map (aR .u64)).set i ((vU xa3.Addr)))) | none=>K' none ((sa.1.1.map (aR .u64))++[(vU xa3.Addr)])):=C2 sa.1.1 xa3.Addr ha6
  have d2_:bm 60 [(3,.ptr (.O 2) 0 0),(5,(vI xa2)),(6,.ptr (.L 6) 0 0),(27,.sl (oD.map eI)),(28,(vI (oD.length:Int))),(29,(vI sa.2)),(30,vT),(31,.fptr [(vI xa2)] 0),(32,(vI xa2)),(33,.ptr (.O 2) 0 0),(34,.ptr (.O 2) 0 0),(35,.ptr (.O 2) 0 1),(36,.sl (y3.map Event.enc)),(37,(vI xa2)),(38,.fptr (Event.enc xa3) 0),(39,(bT Event.enc xa3)),(40,(bT Event.enc xa3)),(41,vT),(42,.ptr (.O 2) 0 0),(43,.ptr (.O 2) 0 0),(44,.ptr (.O 2) 0 3),(45,.mp 1),(46,.ptr (.L 6) 0 3),(47,(vU xa3.Addr)),(48,.ptr (.O 2) 0 0),(49,.ptr (.O 2) 0 0),(50,.ptr (.O 2) 0 3),(51,.mp 1),(52,.ptr (.L 6) 0 3),(53,(vU xa3.Addr)),(54,.nilsl),(55,(vI xa2)),(56,.sl [[(vI xa2)]]),(57,.mf 3)] [(6,(Event.enc xa3))] [.arr true 4 [[.sl (oA.map Cell.enc),.sl (oB.map (et Event.enc)),.sl (oC.map eI),.sl (oD.map eI)]],.own (some ((sa.1.1++[xa3.Addr]).map (aR .u64))) 1 ((sa.1.2.map (mF eI))++[none]) (some ((sa.1.2.map (mF eI)).length,.mf 3)),.arr false 4 [[.ptr (.O 0) 0 0,.sl (y3.map Event.enc),.sl (y4.map eI),.mp 1]],.arr true 1 (([xa2]:List Int).map eI)] 1=bm 60 [(3,.ptr (.O 2) 0 0),(5,(vI xa2)),(6,.ptr (.L 6) 0 0),(27,.sl (oD.map eI)),(28,(vI (oD.length:Int))),(29,(vI sa.2)),(30,vT),(31,.fptr [(vI xa2)] 0),(32,(vI xa2)),(33,.ptr (.O 2) 0 0),(34,.ptr (.O 2) 0 0),(35,.ptr (.O 2) 0 1),(36,.sl (y3.map Event.enc)),(37,(vI xa2)),(38,.fptr (Event.enc xa3) 0),(39,(bT Event.enc xa3)),(40,(bT Event.enc xa3)),(41,vT),(42,.ptr (.O 2) 0 0),(43,.ptr (.O 2) 0 0),(44,.ptr (.O 2) 0 3),(45,.mp 1),(46,.ptr (.L 6) 0 3),(47,(vU xa3.Addr)),(48,.ptr (.O 2) 0 0),(49,.ptr (.O 2) 0 0),(50,.ptr (.O 2) 0 3),(51,.mp 1),(52,.ptr (.L 6) 0 3),(53,(vU xa3.Addr)),(54,.nilsl),(55,(vI xa2)),(56,.sl [[(vI xa2)]]),(57,.mf 3)] [(6,(Event.enc xa3))] [.arr true 4 [[.sl (oA.map Cell.enc),.sl (oB.map (et Event.enc)),.sl (oC.map eI),.sl (oD.map eI)]],.own (some ((sa.1.1++[xa3.Addr]).map (aR .u64))) 1 ((sa.1.2.map (mF eI))++[none]) (some ((sa.1.2.map (mF eI)).length,.mf 3)),.arr false 4 [[.ptr (.O 0) 0 0,.sl (y3.map Event.enc),.sl (y4.map eI),.mp 1]],.arr true 1 (([xa2]:List Int).map eI)] 1:=rfl
  exact kQ h (nA rP (e94_++(e95_++[(9,⟨[],[57],[],[],[],[],[],[],[(54,⟨none,none,[],[]⟩),(1000045,⟨none,none,(sa.1.1++[xa3.Addr]).map (aR .u64),[]⟩),(2000001,⟨none,none,[],(sa.1.2++[some ([xa2]:List Int)]).map (mF eI)⟩)]⟩)]))) [wK 0 [3,27,28,29] [6] 3] GZ cS (fun z=>(c93_ _ (aB ha5 (aI d0_ (aI (rfl:di 1 [[(vI xa2)]]=true) (aI (rfl:a5 [[(vI xa2)]]=true) (aI (rfl:Nat.ble (1 * 8) 140737488355328=true) (aI d1_ (aI (rfl:di 1 [[(vI xa2)]]=true) (aI (rfl:a5 [[(vI xa2)]]=true) (aI (rfl:Nat.ble (1 * 8) 140737488355328=true) (aI d1_ (aI d2_ (aI d0_ (aI (rfl:di 1 [[(vI xa2)]]=true) (aI (rfl:a5 [[(vI xa2)]]=true) (aI (rfl:Nat.ble (1 * 8) 140737488355328=true) (aI d1_ (aI d0_ (aI (rfl:di 1 [[(vI xa2)]]=true) (aI (rfl:a5 [[(vI xa2)]]=true) (aI (rfl:Nat.ble (1 * 8) 140737488355328=true) (aI d1_ (aI (rfl:di 1 [[(vI xa2)]]=true) (aI (rfl:a5 [[(vI xa2)]]=true) (aI (rfl:Nat.ble (1 * 8) 140737488355328=true) (aI d1_ (aI d2_ (aI d2_ (aI d2_ (aI d0_ (aI (rfl:di 1 [[(vI xa2)]]=true) (aI (rfl:a5 [[(vI xa2)]]=true) (aI (rfl:Nat.ble (1 * 8) 140737488355328=true) (aI d1_ (aI (rfl:di 1 [[(vI xa2)]]=true) (aI (rfl:a5 [[(vI xa2)]]=true) (aI (rfl:Nat.ble (1 * 8) 140737488355328=true) (aI d1_ (aI d2_ (aI (rfl:di 1 [[(vI xa2)]]=true) (aI (rfl:a5 [[(vI xa2)]]=true) (aI (rfl:Nat.ble (1 * 8) 140737488355328=true) (aI d1_ (aI (rfl:di 1 [[(vI xa2)]]=true) (aI (rfl:a5 [[(vI xa2)]]=true) (aI (rfl:Nat.ble (1 * 8) 140737488355328=true) (aI d1_ (aI d2_ (aI d2_ (aI (rfl:di 1 [[(vI xa2)]]=true) (aI (rfl:a5 [[(vI xa2)]]=true) (aI (rfl:Nat.ble (1 * 8) 140737488355328=true) (aI d1_ (aI d2_ (aI d2_ (aI (KJ eI sa.1.2:Nat.blt (sa.1.2.map (mF eI)).length ((sa.1.2.map (mF eI))++[none]).length=true) (aI (KI eI sa.1.2 ([xa2]:List Int):((sa.1.2.map (mF eI))++[none]).set (sa.1.2.map (mF eI)).length (some (([xa2]:List Int).map eI))=(sa.1.2++[some ([xa2]:List Int)]).map (mF eI)) z)))))))))))))))))))))))))))))))))))))))))))))))))))))))))) (by kernel_rfl)
 ·
  obtain ⟨xa8,gxa8,h⟩:=ac h
  rcases jC h with ⟨ha9,h⟩ | ⟨za9,ha10,h⟩
  ·
   have d0_:∀ K':Option Nat→Prop,K' (some za6)→cK Tryz.prog 40 ((vU xa3.Addr)) (eU (sa.1.1.map (aR .u64))) fun _ r=>K' r:=qP sa.1.1 xa3.Addr ha7
   have d1_:(sa.1.2.map (mF eI))[za6]?=some none:=KH eI gxa8 ha9
   have d2_:∀ K':Option Nat→List AV→Prop,K' (some za6) (sa.1.1.map (aR .u64))→cK Tryz.prog 40 ((vU xa3.Addr)) (eU (sa.1.1.map (aR .u64))) fun kv r=>bz (qi Tryz.prog 40 kv) (match r with | some i=>bz (Instr.sameBits 10000 (((sa.1.1.map (aR .u64))[i]?.bind tE).getD (.bool false)) kv) (K' (some i) ((sa.1.1.map (aR .u64)).set i ((vU xa3.Addr)))) | none=>K' none ((sa.1.1.map (aR .u64))++[(vU xa3.Addr)])):=wN sa.1.1 xa3.Addr ha7
   have d3_:bm 60 [(3,.ptr (.O 2) 0 0),(5,(vI xa2)),(6,.ptr (.L 6) 0 0),(27,.sl (oD.map eI)),(28,(vI (oD.length:Int))),(29,(vI sa.2)),(30,vT),(31,.fptr [(vI xa2)] 0),(32,(vI xa2)),(33,.ptr (.O 2) 0 0),(34,.ptr (.O 2) 0 0),(35,.ptr (.O 2) 0 1),(36,.sl (y3.map Event.enc)),(37,(vI xa2)),(38,.fptr (Event.enc xa3) 0),(39,(bT Event.enc xa3)),(40,(bT Event.enc xa3)),(41,vT),(42,.ptr (.O 2) 0 0),(43,.ptr (.O 2) 0 0),(44,.ptr (.O 2) 0 3),(45,.mp 1),(46,.ptr (.L 6) 0 3),(47,(vU xa3.Addr)),(48,.ptr (.O 2) 0 0),(49,.ptr (.O 2) 0 0),(50,.ptr (.O 2) 0 3),(51,.mp 1),(52,.ptr (.L 6) 0 3),(53,(vU xa3.Addr)),(54,.nilsl),(55,(vI xa2)),(56,.sl [[(vI xa2)]]),(57,.mf 3)] [(6,(Event.enc xa3))] [.arr true 4 [[.sl (oA.map Cell.enc),.sl (oB.map (et Event.enc)),.sl (oC.map eI),.sl (oD.map eI)]],.own (some (sa.1.1.map (aR .u64))) 1 (sa.1.2.map (mF eI)) (some (za6,.mf 3)),.arr false 4 [[.ptr (.O 0) 0 0,.sl (y3.map Event.enc),.sl (y4.map eI),.mp 1]],.arr true 1 (([xa2]:List Int).map eI)] 1=bm 60 [(3,.ptr (.O 2) 0 0),(5,(vI xa2)),(6,.ptr (.L 6) 0 0),(27,.sl (oD.map eI)),(28,(vI (oD.length:Int))),(29,(vI sa.2)),(30,vT),(31,.fptr [(vI xa2)] 0),(32,(vI xa2)),(33,.ptr (.O 2) 0 0),(34,.ptr (.O 2) 0 0),(35,.ptr (.O 2) 0 1),(36,.sl (y3.map Event.enc)),(37,(vI xa2)),(38,.fptr (Event.enc xa3) 0),(39,(bT Event.enc xa3)),(40,(bT Event.enc xa3)),(41,vT),(42,.ptr (.O 2) 0 0),(43,.ptr (.O 2) 0 0),(44,.ptr (.O 2) 0 3),(45,.mp 1),(46,.ptr (.L 6) 0 3),(47,(vU xa3.Addr)),(48,.ptr (.O 2) 0 0),(49,.ptr (.O 2) 0 0),(50,.ptr (.O 2) 0 3),(51,.mp 1),(52,.ptr (.L 6) 0 3),(53,(vU xa3.Addr)),(54,.nilsl),(55,(vI xa2)),(56,.sl [[(vI xa2)]]),(57,.mf 3)] [(6,(Event.enc xa3))] [.arr true 4 [[.sl (oA.map Cell.enc),.sl (oB.map (et Event.enc)),.sl (oC.map eI),.sl (oD.map eI)]],.own (some (sa.1.1.map (aR .u64))) 1 (sa.1.2.map (mF eI)) (some (za6,.mf 3)),.arr false 4 [[.ptr (.O 0) 0 0,.sl (y3.map Event.enc),.sl (y4.map eI),.mp 1]],.arr true 1 (([xa2]:List Int).map eI)] 1:=rfl
   exact kQ h (nA rP (e94_++(e95_++[(9,⟨[],[57],[],[],[],[],[],[],[(54,⟨some za6,none,[],[]⟩),(1000045,⟨some za6,none,sa.1.1.map (aR .u64),[]⟩),(2000001,⟨none,none,[],(sa.1.2.set za6 (some ([xa2]:List Int))).map (mF eI)⟩)]⟩)]))) [wK 0 [3,27,28,29] [6] 3] GZ cS (fun z=>(c93_ _ (aB ha5 (aI d0_ (aI d1_ (aI (rfl:di 1 [[(vI xa2)]]=true) (aI (rfl:a5 [[(vI xa2)]]=true) (aI (rfl:Nat.ble (1 * 8) 140737488355328=true) (aI d2_ (aI (rfl:cO none za6=true) (aI (rfl:di 1 [[(vI xa2)]]=true) (aI (rfl:a5 [[(vI xa2)]]=true) (aI (rfl:Nat.ble (1 * 8) 140737488355328=true) (aI d2_ (aI (rfl:cO none za6=true) (aI d3_ (aI d0_ (aI d1_ (aI (rfl:di 1 [[(vI xa2)]]=true) (aI (rfl:a5 [[(vI xa2)]]=true) (aI (rfl:Nat.ble (1 * 8) 140737488355328=true) (aI d2_ (aI (rfl:cO none za6=true) (aI d0_ (aI d1_ (aI (rfl:di 1 [[(vI xa2)]]=true) (aI (rfl:a5 [[(vI xa2)]]=true) (aI (rfl:Nat.ble (1 * 8) 140737488355328=true) (aI d2_ (aI (rfl:cO none za6=true) (aI (rfl:di 1 [[(vI xa2)]]=true) (aI (rfl:a5 [[(vI xa2)]]=true) (aI (rfl:Nat.ble (1 * 8) 140737488355328=true) (aI d2_ (aI (rfl:cO none za6=true) (aI d3_ (aI d3_ (aI d3_ (aI d0_ (aI d1_ (aI (rfl:di 1 [[(vI xa2)]]=true) (aI (rfl:a5 [[(vI xa2)]]=true) (aI (rfl:Nat.ble (1 * 8) 140737488355328=true) (aI d2_ (aI (rfl:cO none za6=true) (aI (rfl:di 1 [[(vI xa2)]]=true) (aI (rfl:a5 [[(vI xa2)]]=true) (aI (rfl:Nat.ble (1 * 8) 140737488355328=true) (aI d2_ (aI (rfl:cO none za6=true) (aI d3_ (aI (rfl:di 1 [[(vI xa2)]]=true) (aI (rfl:a5 [[(vI xa2)]]=true) (aI (rfl:Nat.ble (1 * 8) 140737488355328=true) (aI d2_ (aI (rfl:cO none za6=true) (aI (rfl:di 1 [[(vI xa2)]]=true) (aI (rfl:a5 [[(vI xa2)]]=true) (aI (rfl:Nat.ble (1 * 8) 140737488355328=true) (aI d2_ (aI (rfl:cO none za6=true) (aI d3_ (aI d3_ (aI (rfl:di 1 [[(vI xa2)]]=true) (aI (rfl:a5 [[(vI xa2)]]=true) (aI (rfl:Nat.ble (1 * 8) 140737488355328=true) (aI d2_ (aI (rfl:cO none za6=true) (aI d3_ (aI d3_ (aI (JQ eI gxa8:Nat.blt za6 (sa.1.2.map (mF eI)).length=true) (aI (GB eI sa.1.2 _ ([xa2]:List Int):(sa.1.2.map (mF eI)).set za6 (some (([xa2]:List Int).map eI))=(sa.1.2.set za6 (some ([xa2]:List Int))).map (mF eI)) z)))))))))))))))))))))))))))))))))))))))))))))))))))))))))))))))))))))))) (by kernel_rfl)
  ·
   obtain ⟨ha11,h⟩:=fj h
   have d0_:∀ K':Option Nat→Prop,K' (some za6)→cK Tryz.prog 40 ((vU xa3.Addr)) (eU (sa.1.1.map (aR .u64))) fun _ r=>K' r:=qP sa.1.1 xa3.Addr ha7
   have d1_:(sa.1.2.map (mF eI))[za6]?=some (some (za9.map eI)):=KG eI gxa8 ha10
   have d2_:Nat.ble (((za9.map eI).length + 1) * 8) 140737488355328=true:=mE ha11
   have d3_:(za9.map eI)++[[(vI xa2)]]=(za9++([xa2]:List Int)).map eI:=pD eI za9 ([xa2]:List Int)
   have d4_:∀ K':Option Nat→List AV→Prop,K' (some za6) (sa.1.1.map (aR .u64))→cK Tryz.prog 40 ((vU xa3.Addr)) (eU (sa.1.1.map (aR .u64))) fun kv r=>bz (qi Tryz.prog 40 kv) (match r with | some i=>bz (Instr.sameBits 10000 (((sa.1.1.map (aR .u64))[i]?.bind tE).getD (.bool false)) kv) (K' (some i) ((sa.1.1.map (aR .u64)).set i ((vU xa3.Addr)))) | none=>K' none ((sa.1.1.map (aR .u64))++[(vU xa3.Addr)])):=wN sa.1.1 xa3.Addr ha7
   have d5_:bm 60 [(3,.ptr (.O 2) 0 0),(5,(vI xa2)),(6,.ptr (.L 6) 0 0),(27,.sl (oD.map eI)),(28,(vI (oD.length:Int))),(29,(vI sa.2)),(30,vT),(31,.fptr [(vI xa2)] 0),(32,(vI xa2)),(33,.ptr (.O 2) 0 0),(34,.ptr (.O 2) 0 0),(35,.ptr (.O 2) 0 1),(36,.sl (y3.map Event.enc)),(37,(vI xa2)),(38,.fptr (Event.enc xa3) 0),(39,(bT Event.enc xa3)),(40,(bT Event.enc xa3)),(41,vT),(42,.ptr (.O 2) 0 0),(43,.ptr (.O 2) 0 0),(44,.ptr (.O 2) 0 3),(45,.mp 1),(46,.ptr (.L 6) 0 3),(47,(vU xa3.Addr)),(48,.ptr (.O 2) 0 0),(49,.ptr (.O 2) 0 0),(50,.ptr (.O 2) 0 3),(51,.mp 1),(52,.ptr (.L 6) 0 3),(53,(vU xa3.Addr)),(54,.bad),(55,(vI xa2)),(56,.sl [[(vI xa2)]]),(57,.mf 3)] [(6,(Event.enc xa3))] [.arr true 4 [[.sl (oA.map Cell.enc),.sl (oB.map (et Event.enc)),.sl (oC.map eI),.sl (oD.map eI)]],.own (some (sa.1.1.map (aR .u64))) 1 (sa.1.2.map (mF eI)) (some (za6,.mf 3)),.arr false 4 [[.ptr (.O 0) 0 0,.sl (y3.map Event.enc),.sl (y4.map eI),.mp 1]],.arr true 1 ((za9++([xa2]:List Int)).map eI)] 1=bm 60 [(3,.ptr (.O 2) 0 0),(5,(vI xa2)),(6,.ptr (.L 6) 0 0),(27,.sl (oD.map eI)),(28,(vI (oD.length:Int))),(29,(vI sa.2)),(30,vT),(31,.fptr [(vI xa2)] 0),(32,(vI xa2)),(33,.ptr (.O 2) 0 0),(34,.ptr (.O 2) 0 0),(35,.ptr (.O 2) 0 1),(36,.sl (y3.map Event.enc)),(37,(vI xa2)),(38,.fptr (Event.enc xa3) 0),(39,(bT Event.enc xa3)),(40,(bT Event.enc xa3)),(41,vT),(42,.ptr (.O 2) 0 0),(43,.ptr (.O 2) 0 0),(44,.ptr (.O 2) 0 3),(45,.mp 1),(46,.ptr (.L 6) 0 3),(47,(vU xa3.Addr)),(48,.ptr (.O 2) 0 0),(49,.ptr (.O 2) 0 0),(50,.ptr (.O 2) 0 3),(51,.mp 1),(52,.ptr (.L 6) 0 3),(53,(vU xa3.Addr)),(54,.bad),(55,(vI xa2)),(56,.sl [[(vI xa2)]]),(57,.mf 3)] [(6,(Event.enc xa3))] [.arr true 4 [[.sl (oA.map Cell.enc),.sl (oB.map (et Event.enc)),.sl (oC.map eI),.sl (oD.map eI)]],.own (some (sa.1.1.map (aR .u64))) 1 (sa.1.2.map (mF eI)) (some (za6,.mf 3)),.arr false 4 [[.ptr (.O 0) 0 0,.sl (y3.map Event.enc),.sl (y4.map eI),.mp 1]],.arr true 1 ((za9++([xa2]:List Int)).map eI)] 1:=rfl
   exact kQ h (nA rP (e94_++(e95_++[(9,⟨[],[57],[],[],[],[],[(57,(3,(za9++([xa2]:List Int)).map eI))],[],[(54,⟨some za6,(some (za9.map eI)),[],[]⟩),(1000045,⟨some za6,none,sa.1.1.map (aR .u64),[]⟩),(2000001,⟨none,none,[],(sa.1.2.set za6 (some (za9++([xa2]:List Int)))).map (mF eI)⟩)]⟩)]))) [wK 0 [3,27,28,29] [6] 3] GZ cS (fun z=>(c93_ _ (aB ha5 (aI d0_ (aI d1_ (aI (rfl:di 1 [[(vI xa2)]]=true) (aI (rfl:a5 [[(vI xa2)]]=true) (aI d2_ (aI d3_ (aI d4_ (aI ((xP _):cO (some (za6,.bad)) za6=true) (aI (rfl:di 1 [[(vI xa2)]]=true) (aI (rfl:a5 [[(vI xa2)]]=true) (aI d2_ (aI d3_ (aI d4_ (aI ((xP _):cO (some (za6,.bad)) za6=true) (aI d5_ (aI d0_ (aI d1_ (aI (rfl:di 1 [[(vI xa2)]]=true) (aI (rfl:a5 [[(vI xa2)]]=true) (aI d2_ (aI d3_ (aI d4_ (aI ((xP _):cO (some (za6,.bad)) za6=true) (aI d0_ (aI d1_ (aI (rfl:di 1 [[(vI xa2)]]=true) (aI (rfl:a5 [[(vI xa2)]]=true) (aI d2_ (aI d3_ (aI d4_ (aI ((xP _):cO (some (za6,.bad)) za6=true) (aI (rfl:di 1 [[(vI xa2)]]=true) (aI (rfl:a5 [[(vI xa2)]]=true) (aI d2_ (aI d3_ (aI d4_ (aI ((xP _):cO (some (za6,.bad)) za6=true) (aI d5_ (aI d5_ (aI d5_ (aI d0_ (aI d1_ (aI (rfl:di 1 [[(vI xa2)]]=true) (aI (rfl:a5 [[(vI xa2)]]=true) (aI d2_ (aI d3_ (aI d4_ (aI ((xP _):cO (some (za6,.bad)) za6=true) (aI (rfl:di 1 [[(vI xa2)]]=true) (aI (rfl:a5 [[(vI xa2)]]=true) (aI d2_ (aI d3_ (aI d4_ (aI ((xP _):cO (some (za6,.bad)) za6=true) (aI d5_ (aI (rfl:di 1 [[(vI xa2)]]=true) (aI (rfl:a5 [[(vI xa2)]]=true) (aI d2_ (aI d3_ (aI d4_ (aI ((xP _):cO (some (za6,.bad)) za6=true) (aI (rfl:di 1 [[(vI xa2)]]=true) (aI (rfl:a5 [[(vI xa2)]]=true) (aI d2_ (aI d3_ (aI d4_ (aI ((xP _):cO (some (za6,.bad)) za6=true) (aI d5_ (aI d5_ (aI (rfl:di 1 [[(vI xa2)]]=true) (aI (rfl:a5 [[(vI xa2)]]=true) (aI d2_ (aI d3_ (aI d4_ (aI ((xP _):cO (some (za6,.bad)) za6=true) (aI d5_ (aI d5_ (aI (JQ eI gxa8:Nat.blt za6 (sa.1.2.map (mF eI)).length=true) (aI (GB eI sa.1.2 _ (za9++([xa2]:List Int)):(sa.1.2.map (mF eI)).set za6 (some ((za9++([xa2]:List Int)).map eI))=(sa.1.2.set za6 (some (za9++([xa2]:List Int)))).map (mF eI)) z)))))))))))))))))))))))))))))))))))))))))))))))))))))))))))))))))))))))))))))))))) (by kernel_rfl)

def rQ (oA:(List Cell)) (oB:(List (List Event))) (oC:(List Int)) (oD:(List Int)) (y0:(Unit⊕((List (Int×(List Int)))×(List Event)×(List Int)))):AV×List Ob:=match y0 with | .inl y=>(.nilp,[.arr true 4 [[.sl (oA.map Cell.enc),.sl (oB.map (et Event.enc)),.sl (oC.map eI),.sl (oD.map eI)]]]) | .inr y=>(.ptr (.O 2) 0 0,[.arr true 4 [[.sl (oA.map Cell.enc),.sl (oB.map (et Event.enc)),.sl (oC.map eI),.sl (oD.map eI)]],.mapo true (y.1.map (dr (aR .u64) (ep eI))),.arr false 4 [[.ptr (.O 0) 0 0,.sl (y.2.1.map Event.enc),.sl (y.2.2.map eI),.mp 1]]])
theorem oQ (n:Nat) (oA:(List Cell)) (oB:(List (List Event))) (oC:(List Int)) (oD:(List Int)) (y:(Unit⊕((List (Int×(List Int)))×(List Event)×(List Int)))) (h:g0 n oA oB oC oD=some y):SD Tryz.prog 37 [.ptr (.O 0) 0 0] [.arr true 4 [[.sl (oA.map Cell.enc),.sl (oB.map (et Event.enc)),.sl (oC.map eI),.sl (oD.map eI)]]] (fun r' o'=>r'=(rQ oA oB oC oD y).1∧o'=(rQ oA oB oC oD y).2):=by
 unfold g0 at h
 obtain ⟨y1,gy1,h⟩:=ac h
 have c96_:=fun (R:Prop) (z:R)=>(aI (iT n (af.mk oA oB oC oD) y1 gy1) z)
 rcases au h with ⟨h2,h⟩ | ⟨h2,h⟩
 ·
  obtain rfl:=aS h
  exact kS (nA rP [bh 1 [(11,vT)] [(10,(vI y1))]]) GY ⟨rfl,rfl⟩ (fun z=>(c96_ _ (aB h2 z))) (by kernel_rfl)
 obtain ⟨y3,gy3,h⟩:=ac h
 obtain ⟨y4,gy4,h⟩:=ac h
 obtain ⟨t23,gt23,h⟩:=ac h
 obtain ⟨h24,h⟩:=fj h
 obtain rfl:=aS h
 have d0_:pP 61 [.agg [.sl (oA.map Cell.enc),.sl (oB.map (et Event.enc)),.sl (oC.map eI),.sl (oD.map eI)]] (eY (.sl (y3.map Event.enc))):=(Aj n (af.mk oA oB oC oD) y3 gy3)
 have d1_:pP 62 [.agg [.sl (oA.map Cell.enc),.sl (oB.map (et Event.enc)),.sl (oC.map eI),.sl (oD.map eI)]] (eY (.sl (y4.map eI))):=(uF n (af.mk oA oB oC oD) y4 gy4)
 have d2_:bm 60 [(0,.ptr (.O 0) 0 0),(2,.nilp),(3,.ptr (.O 2) 0 0),(7,.ptr (.O 0) 0 0),(8,.ptr (.O 0) 0 0),(9,.agg [.sl (oA.map Cell.enc),.sl (oB.map (et Event.enc)),.sl (oC.map eI),.sl (oD.map eI)]),(10,(vI y1)),(11,vF),(12,.ptr (.O 0) 0 0),(13,.ptr (.O 0) 0 0),(14,.ptr (.O 0) 0 0),(15,.agg [.sl (oA.map Cell.enc),.sl (oB.map (et Event.enc)),.sl (oC.map eI),.sl (oD.map eI)]),(16,.sl (y3.map Event.enc)),(17,.ptr (.O 0) 0 0),(18,.ptr (.O 0) 0 0),(19,.agg [.sl (oA.map Cell.enc),.sl (oB.map (et Event.enc)),.sl (oC.map eI),.sl (oD.map eI)]),(20,.sl (y4.map eI)),(21,.mp 1),(22,.agg [.ptr (.O 0) 0 0,.sl (y3.map Event.enc),.sl (y4.map eI),.mp 1]),(23,.ptr (.O 2) 0 0)] [] [.arr true 4 [[.sl (oA.map Cell.enc),.sl (oB.map (et Event.enc)),.sl (oC.map eI),.sl (oD.map eI)]],.own (some (([]:List Int).map (aR .u64))) 1 (([]:List (Option (List Int))).map (mF eI)) none,.arr false 4 [[.ptr (.O 0) 0 0,.sl (y3.map Event.enc),.sl (y4.map eI),.mp 1]]] 1=bm 60 [(0,.ptr (.O 0) 0 0),(2,.nilp),(3,.ptr (.O 2) 0 0),(7,.ptr (.O 0) 0 0),(8,.ptr (.O 0) 0 0),(9,.agg [.sl (oA.map Cell.enc),.sl (oB.map (et Event.enc)),.sl (oC.map eI),.sl (oD.map eI)]),(10,(vI y1)),(11,vF),(12,.ptr (.O 0) 0 0),(13,.ptr (.O 0) 0 0),(14,.ptr (.O 0) 0 0),(15,.agg [.sl (oA.map Cell.enc),.sl (oB.map (et Event.enc)),.sl (oC.map eI),.sl (oD.map eI)]),(16,.sl (y3.map Event.enc)),(17,.ptr (.O 0) 0 0),(18,.ptr (.O 0) 0 0),(19,.agg [.sl (oA.map Cell.enc),.sl (oB.map (et Event.enc)),.sl (oC.map eI),.sl (oD.map eI)]),(20,.sl (y4.map eI)),(21,.mp 1),(22,.agg [.ptr (.O 0) 0 0,.sl (y3.map Event.enc),.sl (y4.map eI),.mp 1]),(23,.ptr (.O 2) 0 0)] [] [.arr true 4 [[.sl (oA.map Cell.enc),.sl (oB.map (et Event.enc)),.sl (oC.map eI),.sl (oD.map eI)]],.own (some (([]:List Int).map (aR .u64))) 1 (([]:List (Option (List Int))).map (mF eI)) none,.arr false 4 [[.ptr (.O 0) 0 0,.sl (y3.map Event.enc),.sl (y4.map eI),.mp 1]]] 1:=rfl
 exact kS ⟨rP,[bh 1 [(11,vF)] [(10,(vI y1))],bh 3 [] [(16,.sl (y3.map Event.enc)),(20,.sl (y4.map eI))],rV 4 [(28,(vI (oD.length:Int)))],(11,⟨[],[],[],[],[],[],[],[(2000001,(AF t23.1 t23.2).map (dr (aR .u64) (ep eI)))],[]⟩)],[],[(5,(⟨[3,27,28,29],[],3,[],[],[]⟩,l0,(.ex 0),M4 oA oB oC oD y3 y4 t23))],[]⟩ GY ⟨rfl,rfl⟩ (fun z=>(c96_ _ (aB h2 (aI d0_ (aI d1_ (aI d1_ (aI d2_ (aI d1_ (aI d2_ (aI d0_ (aI d1_ (aI d1_ (aI d2_ (aI d0_ (aI d1_ (aI d2_ (aI d2_ (aI d0_ (aI d1_ (aI d2_ (aI d0_ (aI d1_ (aI d1_ (aI d2_ (aI d0_ (aI d1_ (aI d2_ (aI d0_ (aI d1_ (aI d2_ (aI d2_ (aI d0_ (aI d1_ (aI d2_ (aL eI oD (aI (eA (pl:=ao 37) (K0 oA oB oC oD y3 y4) (M5 oA oB oC oD y3 y4) (P_ n oA oB oC oD y3 y4) n _ t23 gt23) (aI (MH eI (aR .u64) _ _ h24:lE (t23.1.map (aR .u64)) (t23.2.map (mF eI))=(AF t23.1 t23.2).map (dr (aR .u64) (ep eI))) z))))))))))))))))))))))))))))))))))))) (by kernel_rfl)

def J0:List (Nat×PT):=[]
theorem K3:aA (ao 38) J0 (al Tryz.prog 38)=true:=by kernel_rfl
theorem gU (n:Nat) (why:Int) (a:Int) (b:Int) (r:bi) (h:eD n why a b=some r):az Tryz.prog 38 [(vI why),(vI a),(vI b)] (eY ((bT bi.enc r))):=by
 unfold eD at h
 obtain rfl:=aS h
 exact kP (nA J0 []) K3 (fun z=>z) (by kernel_rfl)

noncomputable def M6:Code:=sub (al Tryz.prog 81) [1,1,1,1,1,1,0,0,0]
theorem M7:aA (ao 81) rO M6=true:=by kernel_rfl
def K4 (oA:(List Cell)) (oB:(List (List Event))) (oC:(List Int)) (oD:(List Int)) (oE:(List Event)) (sa:(List Int)×Int):St:=bm 48 [(7,.mf 1),(8,(vI sa.2))] [] [.arr true 7 [[.fptr [.sl (oA.map Cell.enc),.sl (oB.map (et Event.enc)),.sl (oC.map eI),.sl (oD.map eI)] 0,.sl (oE.map Event.enc),.nilsl,.nilsl,.nilsl,.nilsl,.nilsl]],.arr true 1 (sa.1.map eI)] 1
def M8 (oA:(List Cell)) (oB:(List (List Event))) (oC:(List Int)) (oD:(List Int)) (oE:(List Event)) (tt:(List Int)):St:=bm 48 [(7,.mf 1)] [] [.arr true 7 [[.fptr [.sl (oA.map Cell.enc),.sl (oB.map (et Event.enc)),.sl (oC.map eI),.sl (oD.map eI)] 0,.sl (oE.map Event.enc),.nilsl,.nilsl,.nilsl,.nilsl,.nilsl]],.arr true 1 (tt.map eI)] 1
def M9 (oA:(List Cell)) (oB:(List (List Event))) (oC:(List Int)) (oD:(List Int)) (oE:(List Event)) (tt:((List Int))):Ex×St:=(.ex 0,M8 oA oB oC oD oE tt)
theorem Qa (n:Nat) (oA:(List Cell)) (oB:(List (List Event))) (oC:(List Int)) (oD:(List Int)) (oE:(List Event)):∀ sa r,cz n oA oB oC oD oE sa=some r→aW Tryz.prog M6 (K4 oA oB oC oD oE sa) (rk (K4 oA oB oC oD oE) (M9 oA oB oC oD oE) r):=by
 intro sa r h
 unfold cz at h
 rcases aG h with ⟨ha1,h⟩ | ⟨ha1,h⟩
 ·
  exact kQ h (nA rO [rV 8 [(36,(vI (sa.1.length:Int))),(37,vF)]]) [wK 2 [7] [] 2] M7 (co rfl j8) (fun z=>(aL eI sa.1 (aB ha1 z))) (by kernel_rfl)
 obtain ⟨ha2,h⟩:=fj h
 obtain ⟨ha3,h⟩:=fj h
 obtain ⟨ha4,h⟩:=fj h
 have d0_:a5 (((sa.1.map eI).drop 0).take ((sa.2).toNat))=true:=(by rw [← List.map_drop,← List.map_take]; exact H6)
 have d1_:Nat.ble ((sa.2).toNat + (sa.1.length - (sa.2).toNat)) (sa.1.map eI).length=true:=(by rw [List.length_map]; exact ha4)
 have d2_:AV.v (.int .i64 ((min (((sa.1.map eI).drop 0).take ((sa.2).toNat)).length (sa.1.length - (sa.2).toNat):Nat):Int))=AV.v (.int .i64 ((min ((sa.1.drop 0).take ((sa.2).toNat)).length (sa.1.length - (sa.2).toNat):Nat):Int)):=(by simp [])
 have d3_:(sa.1.map eI).take ((sa.2).toNat)++((((sa.1.map eI).drop 0).take ((sa.2).toNat)).take (sa.1.length - (sa.2).toNat)++(sa.1.map eI).drop ((sa.2).toNat + min (((sa.1.map eI).drop 0).take ((sa.2).toNat)).length (sa.1.length - (sa.2).toNat)))=(sa.1.take ((sa.2).toNat)++(((sa.1.drop 0).take ((sa.2).toNat)).take (sa.1.length - (sa.2).toNat)++sa.1.drop ((sa.2).toNat + min ((sa.1.drop 0).take ((sa.2).toNat)).length (sa.1.length - (sa.2).toNat)))).map eI:=(by simp [List.map_take,List.map_drop])
 exact kQ h (nA rO [rV 8 [(36,(vI (sa.1.length:Int))),(37,vT)],(9,⟨[],[41,44],[],[(41,.msl 1 ((sa.2).toNat) (sa.1.length - (sa.2).toNat) 0),(44,.msl 1 0 ((sa.2).toNat) (sa.1.length - (sa.2).toNat)),(45,.v (.int .i64 ((min ((sa.1.drop 0).take ((sa.2).toNat)).length (sa.1.length - (sa.2).toNat):Nat):Int)))],[],[],[(45,(1,(sa.1.take ((sa.2).toNat)++(((sa.1.drop 0).take ((sa.2).toNat)).take (sa.1.length - (sa.2).toNat)++sa.1.drop ((sa.2).toNat + min ((sa.1.drop 0).take ((sa.2).toNat)).length (sa.1.length - (sa.2).toNat)))).map eI))],[],[]⟩)]) [wK 0 [7,8] [] 2] M7 cS (fun z=>(aL eI sa.1 (aB ha1 (aI (Ad ha2:(decide ((0:Int)≤sa.2)&&decide (sa.2≤(((sa.1.map eI).length:Nat):Int)))=true) (aI (BS eI sa.1 _ _ _ _:AV.msl 1 (sa.2).toNat ((sa.1.map eI).length - (sa.2).toNat) 0=AV.msl 1 ((sa.2).toNat) (sa.1.length - (sa.2).toNat) 0) (aI (Ad ha3:(decide ((0:Int)≤sa.2)&&decide (sa.2≤(((sa.1.map eI).length:Nat):Int)))=true) (aI (D2 eI sa.1 _ _ _ _:AV.msl 1 0 ((sa.2).toNat - 0) ((sa.1.map eI).length - (sa.2).toNat)=AV.msl 1 0 ((sa.2).toNat) (sa.1.length - (sa.2).toNat)) (aI d0_ (aI d1_ (aI d2_ (aI d3_ (aI d0_ (aI d1_ (aI d2_ (aI d3_ (aI (rfl:bm 48 [(7,.mf 1),(8,.v (.int .i64 (ah .i64 sa.2 ((min ((sa.1.drop 0).take ((sa.2).toNat)).length (sa.1.length - (sa.2).toNat):Nat):Int)))),(34,(vI sa.2)),(35,.mf 1),(36,(vI (sa.1.length:Int))),(37,vT),(38,(vI sa.2)),(39,.mf 1),(40,(vI sa.2)),(41,.msl 1 ((sa.2).toNat) (sa.1.length - (sa.2).toNat) 0),(42,.mf 1),(43,(vI sa.2)),(44,.msl 1 0 ((sa.2).toNat) (sa.1.length - (sa.2).toNat)),(45,.v (.int .i64 ((min ((sa.1.drop 0).take ((sa.2).toNat)).length (sa.1.length - (sa.2).toNat):Nat):Int))),(46,.v (.int .i64 (ah .i64 sa.2 ((min ((sa.1.drop 0).take ((sa.2).toNat)).length (sa.1.length - (sa.2).toNat):Nat):Int))))] [] [.arr true 7 [[.fptr [.sl (oA.map Cell.enc),.sl (oB.map (et Event.enc)),.sl (oC.map eI),.sl (oD.map eI)] 0,.sl (oE.map Event.enc),.nilsl,.nilsl,.nilsl,.nilsl,.nilsl]],.arr true 1 ((sa.1.take ((sa.2).toNat)++(((sa.1.drop 0).take ((sa.2).toNat)).take (sa.1.length - (sa.2).toNat)++sa.1.drop ((sa.2).toNat + min ((sa.1.drop 0).take ((sa.2).toNat)).length (sa.1.length - (sa.2).toNat)))).map eI)] 1=bm 48 [(7,.mf 1),(8,.v (.int .i64 (ah .i64 sa.2 ((min ((sa.1.drop 0).take ((sa.2).toNat)).length (sa.1.length - (sa.2).toNat):Nat):Int)))),(34,(vI sa.2)),(35,.mf 1),(36,(vI (sa.1.length:Int))),(37,vT),(38,(vI sa.2)),(39,.mf 1),(40,(vI sa.2)),(41,.msl 1 ((sa.2).toNat) (sa.1.length - (sa.2).toNat) 0),(42,.mf 1),(43,(vI sa.2)),(44,.msl 1 0 ((sa.2).toNat) (sa.1.length - (sa.2).toNat)),(45,.v (.int .i64 ((min ((sa.1.drop 0).take ((sa.2).toNat)).length (sa.1.length - (sa.2).toNat):Nat):Int))),(46,.v (.int .i64 (ah .i64 sa.2 ((min ((sa.1.drop 0).take ((sa.2).toNat)).length (sa.1.length - (sa.2).toNat):Nat):Int))))] [] [.arr true 7 [[.fptr [.sl (oA.map Cell.enc),.sl (oB.map (et Event.enc)),.sl (oC.map eI),.sl (oD.map eI)] 0,.sl (oE.map Event.enc),.nilsl,.nilsl,.nilsl,.nilsl,.nilsl]],.arr true 1 ((sa.1.take ((sa.2).toNat)++(((sa.1.drop 0).take ((sa.2).toNat)).take (sa.1.length - (sa.2).toNat)++sa.1.drop ((sa.2).toNat + min ((sa.1.drop 0).take ((sa.2).toNat)).length (sa.1.length - (sa.2).toNat)))).map eI)] 1) z)))))))))))))))) (by kernel_rfl)

def gh (x:(List Int)) (count:Int) (oA:(List Cell)) (oB:(List (List Event))) (oC:(List Int)) (oD:(List Int)) (oE:(List Event)) (y:(List Int)):AV×List Ob:=(.mf 1,[.arr true 7 [[.fptr [.sl (oA.map Cell.enc),.sl (oB.map (et Event.enc)),.sl (oC.map eI),.sl (oD.map eI)] 0,.sl (oE.map Event.enc),.nilsl,.nilsl,.nilsl,.nilsl,.nilsl]],.arr true 1 (y.map eI)])
theorem j9 (n:Nat) (x:(List Int)) (count:Int) (oA:(List Cell)) (oB:(List (List Event))) (oC:(List Int)) (oD:(List Int)) (oE:(List Event)) (y:(List Int)) (h:cg n x count oA oB oC oD oE=some y):SD Tryz.prog 81 [.sl (x.map eI),(vI count)] [.arr true 7 [[.fptr [.sl (oA.map Cell.enc),.sl (oB.map (et Event.enc)),.sl (oC.map eI),.sl (oD.map eI)] 0,.sl (oE.map Event.enc),.nilsl,.nilsl,.nilsl,.nilsl,.nilsl]]] (fun r' o'=>r'=(gh x count oA oB oC oD oE y).1∧o'=(gh x count oA oB oC oD oE y).2):=by
 unfold cg at h
 rcases au h with ⟨h1,h⟩ | ⟨h1,h⟩
 ·
  cases h
 obtain ⟨y2,gy2,h⟩:=ac h
 have c97_:=fun (R:Prop) (z:R)=>(aB h1 (aL eI x (aI (lQ n (IntKind.wrap .u64 (x.length:Int)) (IntKind.wrap .u64 count) y2 gy2) z)))
 let e98_:LR:=[rV 1 [(10,vF)],bh 3 [(14,(vI (x.length:Int)))] [(18,.tup [(vU y2.1),(vU y2.2)])]]
 rcases au h with ⟨h3,h⟩ | ⟨h3,h⟩
 ·
  cases h
 rcases au h with ⟨h4,h⟩ | ⟨h4,h⟩
 ·
  cases h
 obtain ⟨h5,h⟩:=fj h
 obtain ⟨t6,gt6,h⟩:=ac h
 obtain rfl:=aS h
 exact kS ⟨rO,(e98_++[rV 4 [(23,vF),(26,vF)],(6,⟨[],[30],[],[],[],[],[(30,(1,(List.replicate ((IntKind.wrap .i64 y2.2)).toNat 0).map eI))],[],[]⟩),(7,⟨[],[],[],[(33,.v (.int .i64 ((min x.length (List.replicate ((IntKind.wrap .i64 y2.2)).toNat 0).length:Nat):Int)))],[],[],[(33,(1,(x.take (List.replicate ((IntKind.wrap .i64 y2.2)).toNat 0).length++(List.replicate ((IntKind.wrap .i64 y2.2)).toNat 0).drop x.length).map eI))],[],[]⟩)]),[],[(8,(⟨[7,8],[],2,[],[],[]⟩,l0,(.ex 0),M8 oA oB oC oD oE t6))],[]⟩ GW ⟨rfl,rfl⟩ (fun z=>(c97_ _ (aB h3 (aB h4 (aI h5 (aI (ku eI _ 0:List.replicate ((IntKind.wrap .i64 y2.2)).toNat [(vI 0)]=(List.replicate ((IntKind.wrap .i64 y2.2)).toNat 0).map eI) (aI (JS:di 1 (x.map eI)=true) (aI (H6:a5 (x.map eI)=true) (aI ((by simp []):AV.v (.int .i64 ((min (x.map eI).length ((List.replicate ((IntKind.wrap .i64 y2.2)).toNat 0).map eI).length:Nat):Int))=AV.v (.int .i64 ((min x.length (List.replicate ((IntKind.wrap .i64 y2.2)).toNat 0).length:Nat):Int))) (aI ((by simp [List.map_take]):(x.map eI).take ((List.replicate ((IntKind.wrap .i64 y2.2)).toNat 0).map eI).length++((List.replicate ((IntKind.wrap .i64 y2.2)).toNat 0).map eI).drop (x.map eI).length=(x.take (List.replicate ((IntKind.wrap .i64 y2.2)).toNat 0).length++(List.replicate ((IntKind.wrap .i64 y2.2)).toNat 0).drop x.length).map eI) (aI (eA (pl:=ao 81) (K4 oA oB oC oD oE) (M9 oA oB oC oD oE) (Qa n oA oB oC oD oE) n _ t6 gt6) z))))))))))) (by kernel_rfl)

end
end Go.Proofs.YtomahedcdcnnhaaGreatDoor
