/- What the functions compute, they compute: printed by a program, path by path. No conditions. -/
import Derived.Test.YtcckeabholabcaaGreatP0
import Derived.KernelRfl
namespace Go.Proofs.YtcckeabholabcaaGreat
open Go A
set_option linter.unusedVariables false
set_option maxRecDepth 100000
set_option maxHeartbeats 0

theorem kM (n:Nat) (from_:Int):pC (mc n from_) 24 [(vI from_)] (fun r=>(eD ai.enc r)):=tP []<|
.rp (ai.mk ([]:List Cell) ([([(Event.mk 0 0 2 8 0 1 false false 0 0 0 (Deps.mk ([]:List Int) ([]:List Int) ([]:List Int)))]:List Event),([(Event.mk 1 0 1 8 1 0 false false 0 0 0 (Deps.mk ([]:List Int) ([]:List Int) ([]:List Int)))]:List Event)]:List (List Event)) ([(-1),from_]:List Int) ([0,1]:List Int)) (dm (.agg [.nilsl,.sl [[.sl [[(vI 0),(vI 0),(vI 2),(vU 8),(vU 0),(vU 1),vF,vF,(vI 0),(vI 0),(vI 0),.nilsl,.nilsl,.nilsl]]],[.sl [[(vI 1),(vI 0),(vI 1),(vU 8),(vU 1),(vU 0),vF,vF,(vI 0),(vI 0),(vI 0),.nilsl,.nilsl,.nilsl]]]],.sl [[(vI (-1))],[(vI from_)]],.sl [[(vI 0)],[(vI 1)]]]) (.agg [.sl (((ai.mk ([]:List Cell) ([([(Event.mk 0 0 2 8 0 1 false false 0 0 0 (Deps.mk ([]:List Int) ([]:List Int) ([]:List Int)))]:List Event),([(Event.mk 1 0 1 8 1 0 false false 0 0 0 (Deps.mk ([]:List Int) ([]:List Int) ([]:List Int)))]:List Event)]:List (List Event)) ([(-1),from_]:List Int) ([0,1]:List Int)).First).map Cell.enc),.sl (((ai.mk ([]:List Cell) ([([(Event.mk 0 0 2 8 0 1 false false 0 0 0 (Deps.mk ([]:List Int) ([]:List Int) ([]:List Int)))]:List Event),([(Event.mk 1 0 1 8 1 0 false false 0 0 0 (Deps.mk ([]:List Int) ([]:List Int) ([]:List Int)))]:List Event)]:List (List Event)) ([(-1),from_]:List Int) ([0,1]:List Int)).Harts).map (gf Event.enc)),.sl (((ai.mk ([]:List Cell) ([([(Event.mk 0 0 2 8 0 1 false false 0 0 0 (Deps.mk ([]:List Int) ([]:List Int) ([]:List Int)))]:List Event),([(Event.mk 1 0 1 8 1 0 false false 0 0 0 (Deps.mk ([]:List Int) ([]:List Int) ([]:List Int)))]:List Event)]:List (List Event)) ([(-1),from_]:List Int) ([0,1]:List Int)).From).map eI),.sl (((ai.mk ([]:List Cell) ([([(Event.mk 0 0 2 8 0 1 false false 0 0 0 (Deps.mk ([]:List Int) ([]:List Int) ([]:List Int)))]:List Event),([(Event.mk 1 0 1 8 1 0 false false 0 0 0 (Deps.mk ([]:List Int) ([]:List Int) ([]:List Int)))]:List Event)]:List (List Event)) ([(-1),from_]:List Int) ([0,1]:List Int)).Order).map eI)])) (fun _=>(dm.agg (cZ.cons dm.nil (cZ.cons (dm.sl (iY.cons (cZ.cons (dm.sl (iY.cons (cZ.cons (dm.refl _) (cZ.cons (dm.refl _) (cZ.cons (dm.refl _) (cZ.cons (dm.refl _) (cZ.cons (dm.refl _) (cZ.cons (dm.refl _) (cZ.cons (dm.refl _) (cZ.cons (dm.refl _) (cZ.cons (dm.refl _) (cZ.cons (dm.refl _) (cZ.cons (dm.refl _) (cZ.cons dm.nil (cZ.cons dm.nil (cZ.cons dm.nil cZ.nil)))))))))))))) iY.nil)) cZ.nil) (iY.cons (cZ.cons (dm.sl (iY.cons (cZ.cons (dm.refl _) (cZ.cons (dm.refl _) (cZ.cons (dm.refl _) (cZ.cons (dm.refl _) (cZ.cons (dm.refl _) (cZ.cons (dm.refl _) (cZ.cons (dm.refl _) (cZ.cons (dm.refl _) (cZ.cons (dm.refl _) (cZ.cons (dm.refl _) (cZ.cons (dm.refl _) (cZ.cons dm.nil (cZ.cons dm.nil (cZ.cons dm.nil cZ.nil)))))))))))))) iY.nil)) cZ.nil) iY.nil))) (cZ.cons (dm.refl _) (cZ.cons (dm.refl _) cZ.nil))))))
def IB:List (Nat×PT):=[(4,(hZ [0,1,2,3,4,5,6,7,8,9,10,11,12,13,14,15,16,17,18]))]
noncomputable def Z0:Code:=sub (aS Tryz.prog 27) [1,0,1,0,0]
def Z1 (l:(List Cell)) (sa:Int):St:=bE 32 [(0,.sl (l.map Cell.enc)),(5,.sl (l.map Cell.enc)),(6,(vI (l.length:Int))),(7,(vI sa))] [] [] 0
def Z2 (l:(List Cell)) (t0:(Unit⊕Unit)):Ex×St:=match t0 with | .inl tt=>(.ex 0,bE 32 [] [] [] 0) | .inr tt=>(.ret,bE 32 [(2,vF)] [] [] 0)
theorem Z3 (n:Nat) (l:(List Cell)):lC (jY n l) Z0 (Z1 l) (Z2 l):=tR IB 27 (uI (fun _=>h_) fun _=>tu) fun sa =>
.rg 2<|tB 8 (decide (sa<(l.length:Int))) (.rg 3<|tI 10 Cell.enc l sa<|fun xa2 =>.rg 4<|tB 16 ((ri .u64 xa2.Addr 8) != 0) (.wk (wK [2] [4] 0) l0<|.ret (.inr (.inr ())))<|
tB 19 (decide (sa>0)) (tI 23 Cell.enc l (al .i64 sa 1)<|fun xa5 =>tB 30 (decide (xa5.Addr≥xa2.Addr)) (.wk (wK [2] [4] 0) l0<|.ret (.inr (.inr ())))<|
.wk (wK [0,5,6,7] [4] 0) l0<|.ret (.inl (ae .i64 sa 1)))<|
.wk (wK [0,5,6,7] [4] 0) l0<|.ret (.inl (ae .i64 sa 1)))<|
.wk (wK [] [] 0) l0<|.ret (.inr (.inl ()))
theorem xk (n:Nat) (l:(List Cell)):pC (jH n l) 27 [.sl (l.map Cell.enc)] (fun r=>.v (.bool r)):=tP IB<|
.rg 1<|tL 6 Cell.enc l<|.bind 3000002 (iter (fun s=>jY n l s) n 0)<|fun t1 =>.alt 3000002 t1 (fun w2 =>tX 3000002 (wK [0,5,6,7] [] 0) 27 (Z3 n l) (fun g_=>(eS g_.1.2 g_.2))<|.ret true)<|
fun w2 =>tX 3000002 (wK [0,5,6,7] [] 0) 27 (Z3 n l) (fun g_=>(eS g_.1.2 g_.2))<|.ret false
theorem mP (n:Nat) (kind:Int):pC (lf n kind) 72 [(vI kind)] (fun r=>(vU r)):=tP []<|
.rg 1<|tB 5 (decide (kind<1)) (.ret 0)<|
tB 8 (decide (kind>6)) (.ret 0)<|
.rg 3<|.ite 10 (kind==0) (.op 10 (vA 10 ((vI 0)))<|.o _ (fun g_=>Ay (k:=.i64) g_.2)<|.ret 0)<|
.ite 10 (kind==1) (.op 10 (vA 10 ((vI 1)))<|.o _ (fun g_=>Ay (k:=.i64) g_.2)<|.ret 1)<|
.ite 10 (kind==2) (.op 10 (vA 10 ((vI 2)))<|.o _ (fun g_=>Ay (k:=.i64) g_.2)<|.ret 2)<|
.ite 10 (kind==3) (.op 10 (vA 10 ((vI 3)))<|.o _ (fun g_=>Ay (k:=.i64) g_.2)<|.ret 5)<|
.ite 10 (kind==4) (.op 10 (vA 10 ((vI 4)))<|.o _ (fun g_=>Ay (k:=.i64) g_.2)<|.ret 14)<|
.ite 10 (kind==5) (.op 10 (vA 10 ((vI 5)))<|.o _ (fun g_=>Ay (k:=.i64) g_.2)<|.ret 7)<|
.ite 10 (kind==6) (.op 10 (vA 10 ((vI 6)))<|.o _ (fun g_=>Ay (k:=.i64) g_.2)<|.ret 16)<|
.bad
def IC:List (Nat×PT):=[(6,(hZ [0,1,2,3,4,5,6,7,8]))]
noncomputable def Z4:Code:=sub (aS Tryz.prog 55) [1,1,0,1,0,0]
def Z5 (s1_:(List Int)) (s2_:(List Int)) (sa:Int):St:=bE 26 [(0,.sl (s1_.map eI)),(1,.sl (s2_.map eI)),(12,(vI (s1_.length:Int))),(13,(vI sa))] [] [] 0
def Z6 (s1_:(List Int)) (s2_:(List Int)) (t0:(Unit⊕Unit)):Ex×St:=match t0 with | .inl tt=>(.ex 0,bE 26 [] [] [] 0) | .inr tt=>(.ret,bE 26 [(4,vF)] [] [] 0)
theorem Z7 (n:Nat) (s1_:(List Int)) (s2_:(List Int)):lC (bi n s1_ s2_) Z4 (Z5 s1_ s2_) (Z6 s1_ s2_):=tR IC 55 (uI (fun _=>h_) fun _=>tu) fun sa =>
.rg 4<|tB 14 (decide (sa<(s1_.length:Int))) (.rg 6<|tI 18 eI s1_ sa<|fun xa2 =>tI 22 eI s2_ sa<|fun xa3 =>tB 24 (xa2 != xa3) (.wk (wK [4] [] 0) l0<|.ret (.inr (.inr ())))<|
.wk (wK [0,1,12,13] [] 0) l0<|.ret (.inl (ae .i64 sa 1)))<|
.wk (wK [] [] 0) l0<|.ret (.inr (.inl ()))
theorem cR (n:Nat) (s1_:(List Int)) (s2_:(List Int)):pC (bF n s1_ s2_) 55 [.sl (s1_.map eI),.sl (s2_.map eI)] (fun r=>.v (.bool r)):=tP IC<|
.rg 1<|tL 7 eI s1_<|tL 9 eI s2_<|tB 10 ((s1_.length:Int) != (s2_.length:Int)) (.ret false)<|
.rg 3<|tL 12 eI s1_<|.bind 3000004 (iter (fun s=>bi n s1_ s2_ s) n 0)<|fun t2 =>.alt 3000004 t2 (fun w3 =>tX 3000004 (wK [0,1,12,13] [] 0) 55 (Z7 n s1_ s2_) (fun g_=>(eS g_.1.2 g_.2))<|.ret true)<|
fun w3 =>tX 3000004 (wK [0,1,12,13] [] 0) 55 (Z7 n s1_ s2_) (fun g_=>(eS g_.1.2 g_.2))<|.ret false
theorem nf (n:Nat) (e:Event):pC (i5 n e) 76 [(eD Event.enc e)] (fun r=>(eD aL.enc r)):=tP []<|
.ret (aL.mk e.Hart e.At e.Kind e.Pred e.Succ e.Pair e.Addr e.Load e.Store e.Aq e.Rl)
def Km:List (Nat×PT):=[(1,(hZ [0,1,2,3,4,5,6,7])),(5,(hZ [0,1,2,3,4,5,6,7]))]
theorem pD (n:Nat) (a:Event) (b:Event):pC (iz n a b) 52 [(eD Event.enc a),(eD Event.enc b)] (fun r=>.v (.bool r)):=tP Km<|
.rg 2<|tC 16 (cR n a.Deps.Addr b.Deps.Addr)<|fun y1 =>tB 18 (!y1) (.ret false)<|
tC 23 (cR n a.Deps.Data b.Deps.Data)<|fun y3 =>tB 26 (!y3) (.ret false)<|
tC 31 (cR n a.Deps.Way b.Deps.Way)<|fun y5 =>tB 33 (!y5) (.ret false)<|
.rg 5<|tC 36 (nf n a)<|fun y7 =>tC 39 (nf n b)<|fun y8 =>.ite 40 (aL.beq y7 y8) (.op 40 (B_ 40 (vT))<|.o (lB Tryz.prog .eql 97 [(.int .i64 y7.hart),(.int .i64 y7.at_),(.int .i64 y7.kind),(.int .i64 y7.pred),(.int .i64 y7.succ),(.int .i64 y7.pair),(.int .u64 y7.addr),(.int .u64 y7.load),(.int .u64 y7.store),(.bool y7.aq),(.bool y7.rl)] [(.int .i64 y8.hart),(.int .i64 y8.at_),(.int .i64 y8.kind),(.int .i64 y8.pred),(.int .i64 y8.succ),(.int .i64 y8.pair),(.int .u64 y8.addr),(.int .u64 y8.load),(.int .u64 y8.store),(.bool y8.aq),(.bool y8.rl)]=some (.bool true)) (fun g_=>(kC y7 y8).trans (congrArg (fun b=>some (Value.bool b)) g_.2))<|.o (AV.v (.bool true)=AV.v (.bool true)) (fun _=>rfl)<|.ret true)<|
.op 40 (B_ 40 (vF))<|.o (lB Tryz.prog .eql 97 [(.int .i64 y7.hart),(.int .i64 y7.at_),(.int .i64 y7.kind),(.int .i64 y7.pred),(.int .i64 y7.succ),(.int .i64 y7.pair),(.int .u64 y7.addr),(.int .u64 y7.load),(.int .u64 y7.store),(.bool y7.aq),(.bool y7.rl)] [(.int .i64 y8.hart),(.int .i64 y8.at_),(.int .i64 y8.kind),(.int .i64 y8.pred),(.int .i64 y8.succ),(.int .i64 y8.pair),(.int .u64 y8.addr),(.int .u64 y8.load),(.int .u64 y8.store),(.bool y8.aq),(.bool y8.rl)]=some (.bool false)) (fun g_=>(kC y7 y8).trans (congrArg (fun b=>some (Value.bool b)) g_.2))<|.o (AV.v (.bool false)=AV.v (.bool false)) (fun _=>rfl)<|.ret false
noncomputable def Z8:Code:=sub (aS Tryz.prog 87) [1,1,0,1,0,0]
def Z9 (l:(List Int)) (sa:Int×Int):St:=bE 17 [(3,(vI sa.1)),(6,.sl (l.map eI)),(7,(vI (l.length:Int))),(8,(vI sa.2))] [] [] 0
def PU (l:(List Int)) (t0:(Unit⊕Unit)):Ex×St:=match t0 with | .inl tt=>(.ex 0,bE 17 [] [] [] 0) | .inr tt=>(.ret,bE 17 [(2,vF)] [] [] 0)
theorem Pp (n:Nat) (l:(List Int)):lC (dA n l) Z8 (Z9 l) (PU l):=tR [] 87 (uI (fun _=>h_) fun _=>tu) fun sa =>
.rg 3<|tB 9 (decide (sa.2<(l.length:Int))) (.rg 4<|tI 10 eI l sa.2<|fun xa2 =>.rg 5<|tB 14 (decide (xa2≤sa.1)) (.wk (wK [2] [] 0) l0<|.ret (.inr (.inr ())))<|
.wk (wK [3,6,7,8] [] 0) l0<|.ret (.inl (xa2,(ae .i64 sa.2 1))))<|
.wk (wK [] [] 0) l0<|.ret (.inr (.inl ()))
theorem tv (n:Nat) (l:(List Int)):pC (kT n l) 87 [.sl (l.map eI)] (fun r=>.v (.bool r)):=tP []<|
.rg 2<|tL 7 eI l<|.bind 3000003 (iter (fun s=>dA n l s) n ((-1),0))<|fun t1 =>.alt 3000003 t1 (fun w2 =>tX 3000003 (wK [3,6,7,8] [] 0) 87 (Pp n l) (fun g_=>(eS g_.1.2 g_.2))<|.ret true)<|
fun w2 =>tX 3000003 (wK [3,6,7,8] [] 0) 87 (Pp n l) (fun g_=>(eS g_.1.2 g_.2))<|.ret false
theorem eY (n:Nat) (l:(List Int)) (at_:Int):pC (eZ n l at_) 77 [.sl (l.map eI),(vI at_)] (fun r=>.v (.bool r)):=tP []<|
.rg 1<|tC 6 (tv n l)<|fun y1 =>tB 7 y1 (tL 9 eI l<|tB 11 ((l.length:Int)==0) (.ret true)<|
tL 14 eI l<|tI 16 eI l (al .i64 (l.length:Int) 1)<|fun x4 =>.ret (decide (x4<at_)))<|
.ret false
def zD:List (Nat×PT):=[(5,(hZ [0,1,2,3,4,5,6,7])),(6,(hZ [0,1,2,3,4,5,6,7,8,9,10])),(10,(hZ [0,1,2,3,4,5,6,7,8])),(12,(hZ [0,1,2,3,4,5,6,7]))]
noncomputable def Pq:Code:=sub (aS Tryz.prog 58) [1,1,1,1,1]
noncomputable def Pr:Code:=sub Pq [1]
noncomputable def Ps:Code:=sub Pr [1]
noncomputable def Pt:Code:=sub Ps [1]
noncomputable def PV:Code:=sub Pt [1]
def PW (e:Event) (y1:Int) (sf:Int×(List Int)×(List Int)×(List Int)×Int×Int×Int×Bool×Bool×Int×Int):St:=bE 134 [(1,.ptr (.L 1) 0 0),(3,(vU y1)),(4,.ptr (.L 4) 0 0),(5,.ptr (.L 5) 0 0)] [(5,[(vI e.Hart),(vI e.At),(vI e.Kind),(vU sf.2.2.2.2.1),(vU sf.2.2.2.2.2.1),(vU sf.2.2.2.2.2.2.1),.v (.bool sf.2.2.2.2.2.2.2.1),.v (.bool sf.2.2.2.2.2.2.2.2.1),(vI sf.2.2.2.2.2.2.2.2.2.1),(vI sf.2.2.2.2.2.2.2.2.2.2),(vI sf.1),.sl (sf.2.1.map eI),.sl (sf.2.2.1.map eI),.sl (sf.2.2.2.1.map eI)]),(4,(Deps.enc e.Deps)),(1,(Event.enc e))] [] 0
def PX (e:Event) (y1:Int) (tt:Int):Ex×St:=(.ret,bE 134 [(2,(vI tt))] [] [] 0)
theorem Pu (n:Nat) (e:Event) (y1:Int):dC (du n e y1) PV (PW e y1) (PX e y1):=Dw zD 58 fun sf =>
.rg 15<|tB 67 (y1==0) (.wk (wK [2] [5,4,1] 0) l0<|.ret 2)<|
.rg 16<|tB 67 (decide (e.Hart<0)) (.wk (wK [2] [5,4,1] 0) l0<|.ret 2)<|
.rg 17<|tB 67 (decide (e.Hart≥8)) (.wk (wK [2] [5,4,1] 0) l0<|.ret 2)<|
.rg 18<|tB 67 (decide (e.At<0)) (.wk (wK [2] [5,4,1] 0) l0<|.ret 2)<|
.rg 19<|tC 81 (pD n (Event.mk e.Hart e.At e.Kind sf.2.2.2.2.1 sf.2.2.2.2.2.1 sf.2.2.2.2.2.2.1 sf.2.2.2.2.2.2.2.1 sf.2.2.2.2.2.2.2.2.1 sf.2.2.2.2.2.2.2.2.2.1 sf.2.2.2.2.2.2.2.2.2.2 sf.1 (Deps.mk sf.2.1 sf.2.2.1 sf.2.2.2.1)) e)<|fun yf5 =>tB 67 (!yf5) (.wk (wK [2] [5,4,1] 0) l0<|.ret 2)<|
.rg 21<|tB 83 ((ri .u64 e.Addr 8) != 0) (.wk (wK [2] [5,4,1] 0) l0<|.ret 2)<|
.rg 22<|tB 83 (decide (e.Pred<0)) (.wk (wK [2] [5,4,1] 0) l0<|.ret 2)<|
.rg 23<|tB 83 (decide (e.Pred>15)) (.wk (wK [2] [5,4,1] 0) l0<|.ret 2)<|
.rg 24<|tB 83 (decide (e.Succ<0)) (.wk (wK [2] [5,4,1] 0) l0<|.ret 2)<|
.rg 25<|tB 83 (decide (e.Succ>15)) (.wk (wK [2] [5,4,1] 0) l0<|.ret 2)<|
.rg 27<|tB 104 ((bV .u64 y1 8) != 0) (tB 108 (decide (e.Pair<0)) (.wk (wK [2] [5,4,1] 0) l0<|.ret 2)<|
tB 100 (decide (e.Pair≥e.At)) (.wk (wK [2] [5,4,1] 0) l0<|.ret 2)<|
.rg 28<|tC 120 (eY n e.Deps.Addr e.At)<|fun yf15 =>tB 100 (!yf15) (.wk (wK [2] [5,4,1] 0) l0<|.ret 2)<|
.rg 29<|tC 126 (eY n e.Deps.Data e.At)<|fun yf17 =>tB 100 (!yf17) (.wk (wK [2] [5,4,1] 0) l0<|.ret 2)<|
.rg 30<|tC 132 (eY n e.Deps.Way e.At)<|fun yf19 =>tB 100 (!yf19) (.wk (wK [2] [5,4,1] 0) l0<|.ret 2)<|
.wk (wK [2] [5,4,1] 0) l0<|.ret 0)<|
.rg 28<|tC 120 (eY n e.Deps.Addr e.At)<|fun yf13 =>tB 100 (!yf13) (.wk (wK [2] [5,4,1] 0) l0<|.ret 2)<|
.rg 29<|tC 126 (eY n e.Deps.Data e.At)<|fun yf15 =>tB 100 (!yf15) (.wk (wK [2] [5,4,1] 0) l0<|.ret 2)<|
.rg 30<|tC 132 (eY n e.Deps.Way e.At)<|fun yf17 =>tB 100 (!yf17) (.wk (wK [2] [5,4,1] 0) l0<|.ret 2)<|
.wk (wK [2] [5,4,1] 0) l0<|.ret 0
def PY (e:Event) (y1:Int) (se:(List Int)×(List Int)×(List Int)×Int×Int×Int×Bool×Bool×Int×Int):St:=bE 134 [(1,.ptr (.L 1) 0 0),(3,(vU y1)),(4,.ptr (.L 4) 0 0),(5,.ptr (.L 5) 0 0)] [(5,[(vI e.Hart),(vI e.At),(vI e.Kind),(vU se.2.2.2.1),(vU se.2.2.2.2.1),(vU se.2.2.2.2.2.1),.v (.bool se.2.2.2.2.2.2.1),.v (.bool se.2.2.2.2.2.2.2.1),(vI se.2.2.2.2.2.2.2.2.1),(vI se.2.2.2.2.2.2.2.2.2),(vI 0),.sl (se.1.map eI),.sl (se.2.1.map eI),.sl (se.2.2.1.map eI)]),(4,(Deps.enc e.Deps)),(1,(Event.enc e))] [] 0
def PZ (e:Event) (y1:Int) (tt:Int):Ex×St:=(.ret,bE 134 [(2,(vI tt))] [] [] 0)
theorem Pv (n:Nat) (e:Event) (y1:Int):dC (dV n e y1) Pt (PY e y1) (PZ e y1):=Dw zD 58 fun se =>
.rg 13<|tB 63 ((bV .u64 y1 8) != 0) (.bind 4000015 (du n e y1 (e.Pair,se.1,se.2.1,se.2.2.1,se.2.2.2.1,se.2.2.2.2.1,se.2.2.2.2.2.1,se.2.2.2.2.2.2.1,se.2.2.2.2.2.2.2.1,se.2.2.2.2.2.2.2.2.1,se.2.2.2.2.2.2.2.2.2))<|fun te2 =>tQ 4000015 (wK [1,3,4,5] [] 0) (Pu n e y1) (fun g_=>g_.2)<|.wk (wK [2] [] 0) l0<|.ret te2)<|
.bind 4000015 (du n e y1 (0,se.1,se.2.1,se.2.2.1,se.2.2.2.1,se.2.2.2.2.1,se.2.2.2.2.2.1,se.2.2.2.2.2.2.1,se.2.2.2.2.2.2.2.1,se.2.2.2.2.2.2.2.2.1,se.2.2.2.2.2.2.2.2.2))<|fun te2 =>tQ 4000015 (wK [1,3,4,5] [] 0) (Pu n e y1) (fun g_=>g_.2)<|.wk (wK [2] [] 0) l0<|.ret te2
def P0 (e:Event) (y1:Int) (sd:(List Int)×(List Int)×(List Int)×Int×Int×Int×Int×Int):St:=bE 134 [(1,.ptr (.L 1) 0 0),(3,(vU y1)),(4,.ptr (.L 4) 0 0),(5,.ptr (.L 5) 0 0)] [(5,[(vI e.Hart),(vI e.At),(vI e.Kind),(vU sd.2.2.2.1),(vU sd.2.2.2.2.1),(vU sd.2.2.2.2.2.1),vF,vF,(vI sd.2.2.2.2.2.2.1),(vI sd.2.2.2.2.2.2.2),(vI 0),.sl (sd.1.map eI),.sl (sd.2.1.map eI),.sl (sd.2.2.1.map eI)]),(4,(Deps.enc e.Deps)),(1,(Event.enc e))] [] 0
def LM (e:Event) (y1:Int) (tt:Int):Ex×St:=(.ret,bE 134 [(2,(vI tt))] [] [] 0)
theorem Pw (n:Nat) (e:Event) (y1:Int):dC (dW n e y1) Ps (P0 e y1) (LM e y1):=Dw zD 58 fun sd =>
.rg 11<|tB 54 ((bV .u64 y1 4) != 0) (.bind 4000013 (dV n e y1 (sd.1,sd.2.1,sd.2.2.1,sd.2.2.2.1,sd.2.2.2.2.1,sd.2.2.2.2.2.1,e.Aq,e.Rl,sd.2.2.2.2.2.2.1,sd.2.2.2.2.2.2.2))<|fun td2 =>tQ 4000013 (wK [1,3,4,5] [] 0) (Pv n e y1) (fun g_=>g_.2)<|.wk (wK [2] [] 0) l0<|.ret td2)<|
.bind 4000013 (dV n e y1 (sd.1,sd.2.1,sd.2.2.1,sd.2.2.2.1,sd.2.2.2.2.1,sd.2.2.2.2.2.1,false,false,sd.2.2.2.2.2.2.1,sd.2.2.2.2.2.2.2))<|fun td2 =>tQ 4000013 (wK [1,3,4,5] [] 0) (Pv n e y1) (fun g_=>g_.2)<|.wk (wK [2] [] 0) l0<|.ret td2
def P1 (e:Event) (y1:Int) (sb:(List Int)×(List Int)×Int×Int×Int×Int):St:=bE 134 [(1,.ptr (.L 1) 0 0),(3,(vU y1)),(4,.ptr (.L 4) 0 0),(5,.ptr (.L 5) 0 0)] [(5,[(vI e.Hart),(vI e.At),(vI e.Kind),(vU sb.2.2.1),(vU sb.2.2.2.1),(vU 0),vF,vF,(vI sb.2.2.2.2.1),(vI sb.2.2.2.2.2),(vI 0),.sl (sb.1.map eI),.nilsl,.sl (sb.2.1.map eI)]),(4,(Deps.enc e.Deps)),(1,(Event.enc e))] [] 0
def P2 (e:Event) (y1:Int) (tt:Int):Ex×St:=(.ret,bE 134 [(2,(vI tt))] [] [] 0)
theorem Px (n:Nat) (e:Event) (y1:Int):dC (dX n e y1) Pr (P1 e y1) (P2 e y1):=Dw zD 58 fun sb =>
.rg 9<|tB 44 ((bV .u64 y1 2) != 0) (.bind 4000011 (dW n e y1 (sb.1,e.Deps.Data,sb.2.1,sb.2.2.1,sb.2.2.2.1,e.Store,sb.2.2.2.2.1,sb.2.2.2.2.2))<|fun tb2 =>tQ 4000011 (wK [1,3,4,5] [] 0) (Pw n e y1) (fun g_=>g_.2)<|.wk (wK [2] [] 0) l0<|.ret tb2)<|
.bind 4000011 (dW n e y1 (sb.1,([]:List Int),sb.2.1,sb.2.2.1,sb.2.2.2.1,0,sb.2.2.2.2.1,sb.2.2.2.2.2))<|fun tb2 =>.lp 4000011 (wK [1,3,4,5] [] 0) ⟨[],[(5,[(vI e.Hart),(vI e.At),(vI e.Kind),(vU sb.2.2.1),(vU sb.2.2.2.1),(vU 0),vF,vF,(vI sb.2.2.2.2.1),(vI sb.2.2.2.2.2),(vI 0),.sl (sb.1.map eI),.sl (([]:List Int).map eI),.sl (sb.2.1.map eI)])],[]⟩ (LM e y1 tb2).1 (LM e y1 tb2).2<|.o (cZ [(vI e.Hart),(vI e.At),(vI e.Kind),(vU sb.2.2.1),(vU sb.2.2.2.1),(vU 0),vF,vF,(vI sb.2.2.2.2.1),(vI sb.2.2.2.2.2),(vI 0),.sl (sb.1.map eI),.nilsl,.sl (sb.2.1.map eI)] [(vI e.Hart),(vI e.At),(vI e.Kind),(vU sb.2.2.1),(vU sb.2.2.2.1),(vU 0),vF,vF,(vI sb.2.2.2.2.1),(vI sb.2.2.2.2.2),(vI 0),.sl (sb.1.map eI),.sl (([]:List Int).map eI),.sl (sb.2.1.map eI)]) (fun _=>(cZ.cons (dm.refl _) (cZ.cons (dm.refl _) (cZ.cons (dm.refl _) (cZ.cons (dm.refl _) (cZ.cons (dm.refl _) (cZ.cons (dm.refl _) (cZ.cons (dm.refl _) (cZ.cons (dm.refl _) (cZ.cons (dm.refl _) (cZ.cons (dm.refl _) (cZ.cons (dm.refl _) (cZ.cons (dm.refl _) (cZ.cons dm.nil (cZ.cons (dm.refl _) cZ.nil)))))))))))))))<|oQ (Pw n e y1) (fun g_=>g_.2)<|.wk (wK [2] [] 0) l0<|.ret tb2
def P3 (e:Event) (y1:Int) (sa:(List Int)×(List Int)×Int×Int×Int):St:=bE 134 [(1,.ptr (.L 1) 0 0),(3,(vU y1)),(4,.ptr (.L 4) 0 0),(5,.ptr (.L 5) 0 0)] [(5,[(vI e.Hart),(vI e.At),(vI e.Kind),(vU sa.2.2.1),(vU 0),(vU 0),vF,vF,(vI sa.2.2.2.1),(vI sa.2.2.2.2),(vI 0),.sl (sa.1.map eI),.nilsl,.sl (sa.2.1.map eI)]),(4,(Deps.enc e.Deps)),(1,(Event.enc e))] [] 0
def LN (e:Event) (y1:Int) (tt:Int):Ex×St:=(.ret,bE 134 [(2,(vI tt))] [] [] 0)
theorem Py (n:Nat) (e:Event) (y1:Int):dC (dY n e y1) Pq (P3 e y1) (LN e y1):=Dw zD 58 fun sa =>
.rg 7<|tB 38 ((bV .u64 y1 1) != 0) (.bind 4000009 (dX n e y1 (sa.1,sa.2.1,sa.2.2.1,e.Load,sa.2.2.2.1,sa.2.2.2.2))<|fun ta2 =>tQ 4000009 (wK [1,3,4,5] [] 0) (Px n e y1) (fun g_=>g_.2)<|.wk (wK [2] [] 0) l0<|.ret ta2)<|
.bind 4000009 (dX n e y1 (sa.1,sa.2.1,sa.2.2.1,0,sa.2.2.2.1,sa.2.2.2.2))<|fun ta2 =>tQ 4000009 (wK [1,3,4,5] [] 0) (Px n e y1) (fun g_=>g_.2)<|.wk (wK [2] [] 0) l0<|.ret ta2
theorem u5 (n:Nat) (e:Event):pC (kh n e) 58 [(eD Event.enc e)] (fun r=>(vI r)):=tP zD<|
.rg 1<|tC 8 (mP n e.Kind)<|fun y1 =>.rg 4<|tB 20 ((bV .u64 y1 16) != 0) (.bind 4000007 (dY n e y1 (([]:List Int),([]:List Int),0,e.Pred,e.Succ))<|fun t3 =>.lp 4000007 (wK [1,3,4,5] [] 0) ⟨[],[(5,[(vI e.Hart),(vI e.At),(vI e.Kind),(vU 0),(vU 0),(vU 0),vF,vF,(vI e.Pred),(vI e.Succ),(vI 0),.sl (([]:List Int).map eI),.nilsl,.sl (([]:List Int).map eI)])],[]⟩ (LN e y1 t3).1 (LN e y1 t3).2<|.o (cZ [(vI e.Hart),(vI e.At),(vI e.Kind),(vU 0),(vU 0),(vU 0),vF,vF,(vI e.Pred),(vI e.Succ),(vI 0),.nilsl,.nilsl,.nilsl] [(vI e.Hart),(vI e.At),(vI e.Kind),(vU 0),(vU 0),(vU 0),vF,vF,(vI e.Pred),(vI e.Succ),(vI 0),.sl (([]:List Int).map eI),.nilsl,.sl (([]:List Int).map eI)]) (fun _=>(cZ.cons (dm.refl _) (cZ.cons (dm.refl _) (cZ.cons (dm.refl _) (cZ.cons (dm.refl _) (cZ.cons (dm.refl _) (cZ.cons (dm.refl _) (cZ.cons (dm.refl _) (cZ.cons (dm.refl _) (cZ.cons (dm.refl _) (cZ.cons (dm.refl _) (cZ.cons (dm.refl _) (cZ.cons dm.nil (cZ.cons (dm.refl _) (cZ.cons dm.nil cZ.nil)))))))))))))))<|oQ (Py n e y1) (fun g_=>g_.2)<|.ret t3)<|
.bind 4000007 (dY n e y1 (e.Deps.Addr,e.Deps.Way,e.Addr,0,0))<|fun t3 =>tQ 4000007 (wK [1,3,4,5] [] 0) (Py n e y1) (fun g_=>g_.2)<|.ret t3
def ID:List (Nat×PT):=[(11,(hZ [0,1,2,3,4,5,6,7,8,9,10,11,12,13]))]
noncomputable def P4:Code:=sub (aS Tryz.prog 28) [1,1,0,1,0,0]
def P5 (hart:Int) (l:(List Event)) (sa:Int×Int):St:=bE 52 [(0,(vI hart)),(1,.sl (l.map Event.enc)),(5,(vI sa.2)),(8,.sl (l.map Event.enc)),(9,(vI (l.length:Int))),(10,(vI sa.1))] [] [] 0
def P6 (hart:Int) (l:(List Event)) (t0:(Unit⊕Unit)):Ex×St:=match t0 with | .inl tt=>(.ex 0,bE 52 [] [] [] 0) | .inr tt=>(.ret,bE 52 [(4,(vI 4))] [] [] 0)
theorem Pz (n:Nat) (hart:Int) (l:(List Event)):lC (i6 n hart l) P4 (P5 hart l) (P6 hart l):=tR ID 28 (uI (fun _=>h_) fun _=>tu) fun sa =>
.rg 3<|tB 11 (decide (sa.1<(l.length:Int))) (.rg 4<|tI 13 Event.enc l sa.1<|fun xa2 =>.rg 5<|tC 16 (u5 n xa2)<|fun ya3 =>tB 18 (ya3 != 0) (.wk (wK [4] [7] 0) l0<|.ret (.inr (.inr ())))<|
tB 24 (xa2.Hart != hart) (.wk (wK [4] [7] 0) l0<|.ret (.inr (.inr ())))<|
tB 29 (xa2.At != sa.1) (.wk (wK [4] [7] 0) l0<|.ret (.inr (.inr ())))<|
.rg 8<|tB 32 (xa2.Kind==3) (.wk (wK [0,1,5,8,9,10] [7] 0) l0<|.ret (.inl ((ae .i64 sa.1 1),sa.1)))<|
.rg 10<|tB 35 (xa2.Kind==4) (.rg 11<|tB 41 (xa2.Pair != sa.2) (.wk (wK [4] [7] 0) l0<|.ret (.inr (.inr ())))<|
tI 44 Event.enc l sa.2<|fun xa10 =>tB 50 (xa10.Addr != xa2.Addr) (.wk (wK [4] [7] 0) l0<|.ret (.inr (.inr ())))<|
.wk (wK [0,1,5,8,9,10] [7] 0) l0<|.ret (.inl ((ae .i64 sa.1 1),(-1))))<|
.wk (wK [0,1,5,8,9,10] [7] 0) l0<|.ret (.inl ((ae .i64 sa.1 1),sa.2)))<|
.wk (wK [] [] 0) l0<|.ret (.inr (.inl ()))
theorem yn (n:Nat) (hart:Int) (l:(List Event)):pC (jI n hart l) 28 [(vI hart),.sl (l.map Event.enc)] (fun r=>(vI r)):=tP ID<|
.rg 2<|tL 9 Event.enc l<|.bind 3000003 (iter (fun s=>i6 n hart l s) n (0,(-1)))<|fun t1 =>.alt 3000003 t1 (fun w2 =>tX 3000003 (wK [0,1,5,8,9,10] [] 0) 28 (Pz n hart l) (fun g_=>(eS g_.1.2 g_.2))<|.ret 0)<|
fun w2 =>tX 3000003 (wK [0,1,5,8,9,10] [] 0) 28 (Pz n hart l) (fun g_=>(eS g_.1.2 g_.2))<|.ret 4
def ir (n_:Int) (y0:((Nat×Nat×Nat×(List Event))⊕Unit)):AV×List Ob:=match y0 with | .inl y=>(.msl 0 y.1 y.2.1 y.2.2.1,[.arr true 14 (y.2.2.2.map Event.enc)]) | .inr y=>(.nilsl,[])
theorem et (n:Nat) (n_:Int):sC (cq n n_) 78 [.nilsl,(vI n_)] [] (ir n_):=tD []<|
.rg 1<|tB 6 (decide (n_<0)) (.bad)<|
.rg 4<|tB 16 (decide ((al .i64 n_ 0)>0)) (.rg 5<|tG 22 (Nat.blt 0 14&&Nat.blt 0 152&&decide (0<(al .i64 n_ 0))&&decide ((al .i64 n_ 0) * 152≤140737488355328)&&decide ((al .i64 n_ 0)≤140737488355328))<|.op 22 (hA 22)<|.o _ (fun g_=>g_.2)<|tG 25 (decide ((0:Int)≤0)&&decide (0≤(((al .i64 n_ 0)).toNat:Int)))<|.op 25 (B_ 25 (.msl 0 0 0 (((al .i64 n_ 0)).toNat)))<|.o ((decide ((0:Int)≤0)&&decide (0≤(((List.replicate ((al .i64 n_ 0)).toNat ([(vI 0),(vI 0),(vI 0),(vU 0),(vU 0),(vU 0),vF,vF,(vI 0),(vI 0),(vI 0),.nilsl,.nilsl,.nilsl]:List AV)).length:Nat):Int)))=true) (fun g_=>(by rw [List.length_replicate]; exact g_.2))<|.o (AV.msl 0 0 (0 - 0) ((List.replicate ((al .i64 n_ 0)).toNat ([(vI 0),(vI 0),(vI 0),(vU 0),(vU 0),(vU 0),vF,vF,(vI 0),(vI 0),(vI 0),.nilsl,.nilsl,.nilsl]:List AV)).length - 0)=AV.msl 0 0 0 (((al .i64 n_ 0)).toNat)) (fun _=>HZ _ _ _ _ _ _)<|.wr [] ⟨[],[],[(0,(List.replicate ((al .i64 n_ 0)).toNat (Event.mk 0 0 0 0 0 0 false false 0 0 0 (Deps.mk ([]:List Int) ([]:List Int) ([]:List Int)))).map Event.enc)]⟩<|.o (iY (List.replicate ((al .i64 n_ 0)).toNat ([(vI 0),(vI 0),(vI 0),(vU 0),(vU 0),(vU 0),vF,vF,(vI 0),(vI 0),(vI 0),.nilsl,.nilsl,.nilsl]:List AV)) ((List.replicate ((al .i64 n_ 0)).toNat (Event.mk 0 0 0 0 0 0 false false 0 0 0 (Deps.mk ([]:List Int) ([]:List Int) ([]:List Int)))).map Event.enc)) (fun _=>Jm Event.enc _ (cZ.cons (dm.refl _) (cZ.cons (dm.refl _) (cZ.cons (dm.refl _) (cZ.cons (dm.refl _) (cZ.cons (dm.refl _) (cZ.cons (dm.refl _) (cZ.cons (dm.refl _) (cZ.cons (dm.refl _) (cZ.cons (dm.refl _) (cZ.cons (dm.refl _) (cZ.cons (dm.refl _) (cZ.cons dm.nil (cZ.cons dm.nil (cZ.cons dm.nil cZ.nil)))))))))))))))<|.ret (.inl (0,0,((al .i64 n_ 0)).toNat,(List.replicate ((al .i64 n_ 0)).toNat (Event.mk 0 0 0 0 0 0 false false 0 0 0 (Deps.mk ([]:List Int) ([]:List Int) ([]:List Int)))))))<|
.ret (.inr ())
noncomputable def P7:Code:=sub (aS Tryz.prog 59) [1,1,0,1,0,0]
noncomputable def P8:Code:=sub (aS Tryz.prog 59) [1,1,1,1,0,1,0,0]
noncomputable def P9:Code:=sub (aS Tryz.prog 59) [1,1,1,1,0,1,0,0]
def P_ (slices:(List (List Event))) (sa:Int×Int):St:=bE 36 [(0,.sl (slices.map (gf Event.enc))),(3,(vI sa.2)),(9,.sl (slices.map (gf Event.enc))),(10,(vI (slices.length:Int))),(11,(vI sa.1))] [] [] 0
def Qa (slices:(List (List Event))) (tt:Int):Ex×St:=(.ex 0,bE 36 [(0,.sl (slices.map (gf Event.enc))),(3,(vI tt))] [] [] 0)
theorem Qb (n:Nat) (slices:(List (List Event))):lC (cg n slices) P7 (P_ slices) (Qa slices):=tR [] 59 (fun _=>h_) fun sa =>
.rg 3<|tB 12 (decide (sa.1<(slices.length:Int))) (.rg 4<|tI 13 (gf Event.enc) slices sa.1<|fun xa2 =>.rg 5<|tL 17 Event.enc xa2<|.rg 6<|tB 20 (decide ((ae .i64 sa.2 (xa2.length:Int))<0)) (.bad)<|
.wk (wK [0,3,9,10,11] [] 0) l0<|.ret (.inl ((ae .i64 sa.1 1),(ae .i64 sa.2 (xa2.length:Int)))))<|
.wk (wK [0,3] [] 0) l0<|.ret (.inr sa.2)
def Qd (slices:(List (List Event))) (wa3:Nat×Nat×Nat×(List Event)) (sa:Nat×Nat×(List Event)×Int):St:=bE 36 [(6,.msl 0 wa3.1 sa.1 sa.2.1),(25,.sl (slices.map (gf Event.enc))),(26,(vI (slices.length:Int))),(27,(vI sa.2.2.2))] [] [.arr true 14 (sa.2.2.1.map Event.enc)] 0
def Qe (slices:(List (List Event))) (wa3:Nat×Nat×Nat×(List Event)) (tt:(Nat×Nat×(List Event))):Ex×St:=(.ex 2,bE 36 [(6,.msl 0 wa3.1 tt.1 tt.2.1)] [] [.arr true 14 (tt.2.2.map Event.enc)] 0)
theorem Qf (n:Nat) (slices:(List (List Event))) (wa3:Nat×Nat×Nat×(List Event)):lC (ch n slices wa3) P8 (Qd slices wa3) (Qe slices wa3):=tR [] 59 (fun _=>h_) fun sa =>
.rg 11<|tB 28 (decide (sa.2.2.2<(slices.length:Int))) (.rg 12<|tI 29 (gf Event.enc) slices sa.2.2.2<|fun xa2 =>.rg 13<|tG 33 (Nat.ble xa2.length sa.2.1)<|tG 33 (Nat.ble (wa3.1 + sa.1 + sa.2.1) sa.2.2.1.length)<|.op 33 ⟨[],[33],[],[(33,.msl 0 wa3.1 (sa.1 + xa2.length) (sa.2.1 - xa2.length))],[],[],[(33,(0,(sa.2.2.1.take (wa3.1 + sa.1)++(xa2++sa.2.2.1.drop (wa3.1 + sa.1 + xa2.length))).map Event.enc))],[],[]⟩<|.o (kn 14 (xa2.map Event.enc)=true) (fun _=>H5)<|.o (cN (xa2.map Event.enc)=true) (fun _=>GU)<|.o (Nat.ble (xa2.map Event.enc).length sa.2.1=true) (fun g_=>Fp g_.1.2)<|.o (Nat.ble (wa3.1 + sa.1 + sa.2.1) (sa.2.2.1.map Event.enc).length=true) (fun g_=>Fq g_.2)<|.o (AV.msl 0 wa3.1 (sa.1 + (xa2.map Event.enc).length) (sa.2.1 - (xa2.map Event.enc).length)=AV.msl 0 wa3.1 (sa.1 + xa2.length) (sa.2.1 - xa2.length)) (fun _=>HV Event.enc xa2 _ _ _ _)<|.o ((sa.2.2.1.map Event.enc).take (wa3.1 + sa.1)++((xa2.map Event.enc)++(sa.2.2.1.map Event.enc).drop (wa3.1 + sa.1 + (xa2.map Event.enc).length))=(sa.2.2.1.take (wa3.1 + sa.1)++(xa2++sa.2.2.1.drop (wa3.1 + sa.1 + xa2.length))).map Event.enc) (fun _=>HX Event.enc sa.2.2.1 xa2 _)<|.wk (wK [6,25,26,27] [] 1) l0<|.ret (.inl ((sa.1 + xa2.length),(sa.2.1 - xa2.length),(sa.2.2.1.take (wa3.1 + sa.1)++(xa2++sa.2.2.1.drop (wa3.1 + sa.1 + xa2.length))),(ae .i64 sa.2.2.2 1))))<|
.wk (wK [6] [] 1) l0<|.ret (.inr (sa.1,sa.2.1,sa.2.2.1))
def Qg (slices:(List (List Event))) (sa:(List Event)×Int):St:=bE 36 [(6,.mf 0),(25,.sl (slices.map (gf Event.enc))),(26,(vI (slices.length:Int))),(27,(vI sa.2))] [] [.arr true 14 (sa.1.map Event.enc)] 0
def Qh (slices:(List (List Event))) (tt:((List Event))):Ex×St:=(.ex 2,bE 36 [(6,.mf 0)] [] [.arr true 14 (tt.map Event.enc)] 0)
theorem Qi (n:Nat) (slices:(List (List Event))):lC (bD n slices) P9 (Qg slices) (Qh slices):=tR [] 59 (fun _=>h_) fun sa =>
.rg 11<|tB 28 (decide (sa.2<(slices.length:Int))) (.rg 12<|tI 29 (gf Event.enc) slices sa.2<|fun xa2 =>.rg 13<|tG 33 (Nat.ble ((sa.1.length + xa2.length) * 152) 140737488355328)<|.op 33 (Fy 33 0 ((sa.1++xa2).map Event.enc))<|.o (kn 14 (xa2.map Event.enc)=true) (fun _=>H5)<|.o (cN (xa2.map Event.enc)=true) (fun _=>GU)<|.o (Nat.ble (((sa.1.map Event.enc).length + (xa2.map Event.enc).length) * 152) 140737488355328=true) (fun g_=>Fs g_.2)<|.o _ (fun _=>k_ Event.enc sa.1 xa2)<|.wk (wK [6,25,26,27] [] 1) l0<|.ret (.inl ((sa.1++xa2),(ae .i64 sa.2 1))))<|
.wk (wK [6] [] 1) l0<|.ret (.inr sa.1)
theorem gX (n:Nat) (slices:(List (List Event))):pC (bQ n slices) 59 [.sl (slices.map (gf Event.enc))] (fun r=>.sl (r.map Event.enc)):=tP []<|
.rg 2<|tL 10 (gf Event.enc) slices<|.bind 3000003 (iter (fun s=>cg n slices s) n (0,0))<|fun t1 =>tX 3000003 (wK [0,3,9,10,11] [] 0) 59 (Qb n slices) (fun g_=>g_.2)<|.rg 9<|.bind 24 (cq n t1)<|fun y2 =>.alt 24 y2 (fun wa3 =>.op 24 ⟨[],[],[],[],[],[(24,(.msl 0 wa3.1 wa3.2.1 wa3.2.2.1,[.arr true 14 (wa3.2.2.2.map Event.enc)]))],[],[],[]⟩<|.o _ (fun g_=>et n t1 (.inl wa3) (eS g_.1.2 g_.2))<|.rg 10<|tL 26 (gf Event.enc) slices<|.bind 3000011 (iter (fun s=>ch n slices wa3 s) n (wa3.2.1,wa3.2.2.1,wa3.2.2.2,0))<|fun t4 =>tX 3000011 (wK [6,25,26,27] [] 1) 59 (Qf n slices wa3) (fun g_=>g_.2)<|.rp ((t4.2.2.drop wa3.1).take t4.1) (dm (.sl (((t4.2.2.map Event.enc).drop wa3.1).take t4.1)) (.sl (((t4.2.2.drop wa3.1).take t4.1).map Event.enc))) (fun _=>(Jl Event.enc t4.2.2 _ _)))<|
fun wb3 =>.op 24 ⟨[],[],[],[],[],[(24,(.nilsl,[]))],[],[],[]⟩<|.o _ (fun g_=>et n t1 (.inr wb3) (eS g_.1.2 g_.2))<|.rg 10<|tL 26 (gf Event.enc) slices<|.bind 3000011 (iter (fun s=>bD n slices s) n (([]:List Event),0))<|fun t4 =>tX 3000011 ⟨[6,25,26,27],[],0,[(6,14)],[],[]⟩ 59 (Qi n slices) (fun g_=>g_.2)<|.ret t4
def yo (oA:(List Cell)) (oB:(List (List Event))) (oC:(List Int)) (oD:(List Int)) (y:(List Event)):AV×List Ob:=(.sl (y.map Event.enc),[.arr true 4 [[.sl (oA.map Cell.enc),.sl (oB.map (gf Event.enc)),.sl (oC.map eI),.sl (oD.map eI)]]])
theorem kN (n:Nat) (oA:(List Cell)) (oB:(List (List Event))) (oC:(List Int)) (oD:(List Int)):sC (iK n oA oB oC oD) 29 [.ptr (.O 0) 0 0] [.arr true 4 [[.sl (oA.map Cell.enc),.sl (oB.map (gf Event.enc)),.sl (oC.map eI),.sl (oD.map eI)]]] (yo oA oB oC oD):=tD []<|
.rg 1<|tC 7 (gX n oB)<|fun y1 =>.ret y1
theorem oq (n:Nat) (e:Event):pC (ki n e) 60 [(eD Event.enc e)] (fun r=>.v (.bool r)):=tP []<|
.rg 1<|tC 5 (mP n e.Kind)<|fun y1 =>.ret ((bV .u64 y1 1) != 0)
theorem fg (n:Nat) (x:Int):pC (dJ n x) 83 [(vU x)] (fun r=>.v (.bool r)):=tP []<|
.ret (x != x)
theorem nS (n:Nat) (x:Int) (y:Int):pC (fF n x y) 71 [(vU x),(vU y)] (fun r=>(vI r)):=tP []<|
.rg 1<|tC 8 (fg n x)<|fun y1 =>.rg 2<|tC 10 (fg n y)<|fun y2 =>.rg 3<|tB 11 y1 (.rg 4<|tB 12 y2 (.ret 0)<|
.ret (-1))<|
.rg 7<|tB 13 y2 (.ret 1)<|
.rg 9<|tB 16 (decide (x<y)) (.ret (-1))<|
.rg 11<|tB 19 (decide (x>y)) (.ret 1)<|
.ret 0
theorem ng (n:Nat) (x:Cell) (a:Int):pC (i7 n x a) 70 [(eD Cell.enc x),(vU a)] (fun r=>(vI r)):=tP []<|
.rg 1<|tC 8 (nS n x.Addr a)<|fun y1 =>.ret y1
noncomputable def Qj:Code:=sub (aS Tryz.prog 69) [1,1,1,0,0,0]
def Qk (x:(List Cell)) (target:Int) (sa:Int×Int):St:=bE 49 [(0,.sl (x.map Cell.enc)),(1,(vU target)),(2,.fn 70 [] []),(8,(vI (x.length:Int))),(9,(vI sa.2)),(10,(vI sa.1))] [] [] 0
def Ql (x:(List Cell)) (target:Int) (tt:Int):Ex×St:=(.ex 0,bE 49 [(0,.sl (x.map Cell.enc)),(1,(vU target)),(2,.fn 70 [] []),(8,(vI (x.length:Int))),(9,(vI tt))] [] [] 0)
theorem Qm (n:Nat) (x:(List Cell)) (target:Int):lC (aK n x target) Qj (Qk x target) (Ql x target):=tR [] 69 (fun _=>h_) fun sa =>
.rg 3<|tB 17 (decide (sa.2<sa.1)) (.rg 5<|tI 27 Cell.enc x (IntKind.wrap .i64 (bL .u64 (IntKind.wrap .u64 (ae .i64 sa.2 sa.1)) 1))<|fun xa2 =>tC 30 (ng n xa2 target)<|fun ya3 =>tB 31 (decide (ya3<0)) (.wk (wK [0,1,2,8,9,10] [] 0) l0<|.ret (.inl (sa.1,(ae .i64 (IntKind.wrap .i64 (bL .u64 (IntKind.wrap .u64 (ae .i64 sa.2 sa.1)) 1)) 1))))<|
.wk (wK [0,1,2,8,9,10] [] 0) l0<|.ret (.inl ((IntKind.wrap .i64 (bL .u64 (IntKind.wrap .u64 (ae .i64 sa.2 sa.1)) 1)),sa.2)))<|
.wk (wK [0,1,2,8,9] [] 0) l0<|.ret (.inr sa.2)
theorem eH (n:Nat) (x:(List Cell)) (target:Int):pC (bT n x target) 69 [.sl (x.map Cell.enc),(vU target),.fn 70 [] []] (fun r=>.tup [(vI r.1),.v (.bool r.2)]):=tP []<|
.rg 1<|tL 13 Cell.enc x<|.bind 3000003 (iter (fun s=>aK n x target s) n ((x.length:Int),0))<|fun t1 =>tX 3000003 (wK [0,1,2,8,9,10] [] 0) 69 (Qm n x target) (fun g_=>g_.2)<|.rg 8<|tB 39 (decide (t1<(x.length:Int))) (tI 43 Cell.enc x t1<|fun x3 =>tC 46 (ng n x3 target)<|fun y4 =>.ret (t1,(y4==0)))<|
.ret (t1,false)
theorem pE (n:Nat) (l:(List Cell)) (addr:Int):pC (jJ n l addr) 43 [.sl (l.map Cell.enc),(vU addr)] (fun r=>(vU r)):=tP []<|
.rg 1<|tC 10 (eH n l addr)<|fun y1 =>.rg 2<|tB 14 (!y1.2) (.ret 0)<|
.rg 4<|tI 17 Cell.enc l y1.1<|fun x3 =>.ret x3.Value
theorem gY (n:Nat) (e:Event):pC (fG n e) 45 [(eD Event.enc e)] (fun r=>.v (.bool r)):=tP []<|
.rg 1<|tC 5 (mP n e.Kind)<|fun y1 =>.ret ((bV .u64 y1 2) != 0)
def Kn:List (Nat×PT):=[(1,(hZ [0,1,2,3,4,5,6,7,8,9,10,11,12,13])),(5,(hZ [0,1,2,3,4,5,6,7,8,9,10]))]
theorem yq (n:Nat) (c:ai) (all:(List Event)) (n_:Int):pC (fy n c all n_) 30 [.fptr (ai.enc c) 0,.sl (all.map Event.enc),(vI n_)] (fun r=>.v (.bool r)):=tP Kn<|
.rg 1<|tI 12 Event.enc all n_<|fun x1 =>tI 19 eI c.From n_<|fun x2 =>.rg 2<|tC 23 (oq n x1)<|fun y3 =>tB 21 (!y3) (.ret (x2==(-1)))<|
.rg 4<|tB 27 (x2==(-1)) (.rg 5<|tC 38 (pE n c.First x1.Addr)<|fun y6 =>.ret (x1.Load==y6))<|
.rg 6<|tB 43 (decide (x2<0)) (.ret false)<|
tL 46 Event.enc all<|tB 49 (decide (x2≥(all.length:Int))) (.ret false)<|
tB 40 (x2==n_) (.ret false)<|
.rg 8<|tI 56 Event.enc all x2<|fun x9 =>.rg 9<|tC 59 (gY n x9)<|fun y10 =>tB 60 y10 (tB 67 (x9.Addr==x1.Addr) (.ret (x9.Store==x1.Load))<|
.ret false)<|
.ret false
theorem nh (n:Nat) (e:Event):pC (i8 n e) 61 [(eD Event.enc e)] (fun r=>.v (.bool r)):=tP []<|
.rg 1<|tC 4 (oq n e)<|fun y1 =>tB 5 y1 (.ret true)<|
tC 7 (gY n e)<|fun y3 =>.ret y3
noncomputable def Qn:Code:=sub (aS Tryz.prog 31) [1,1,1,0,1,0,0]
noncomputable def Qo:Code:=sub (aS Tryz.prog 31) [1,1,1,1,0,1,0,0]
def Qp (c:ai) (all:(List Event)) (sa:(List Bool)×Int×Int):St:=bE 61 [(0,.fptr (ai.enc c) 0),(5,.mf 0),(6,(vI sa.2.2)),(14,.sl (all.map Event.enc)),(15,(vI (all.length:Int))),(16,(vI sa.2.1))] [] [.arr true 1 (sa.1.map ff)] 0
def Qq (c:ai) (all:(List Event)) (tt:((List Bool)×Int)):Ex×St:=(.ex 0,bE 61 [(0,.fptr (ai.enc c) 0),(5,.mf 0),(6,(vI tt.2))] [] [.arr true 1 (tt.1.map ff)] 0)
theorem Qr (n:Nat) (c:ai) (all:(List Event)):lC (fU n c all) Qn (Qp c all) (Qq c all):=tR [] 31 (fun _=>h_) fun sa =>
.rg 4<|tB 17 (decide (sa.2.1<(all.length:Int))) (.rg 5<|tI 19 Event.enc all sa.2.1<|fun xa2 =>.rg 6<|.bind 22 (i8 n xa2)<|fun ya3 =>.ite 22 ya3 (.op 22 (xL 22 (.v (.bool ya3)) (vT))<|.o _ (fun g_=>(nh n xa2 ya3 g_.1.2))<|.o _ (fun g_=>cB g_.2)<|.rg 7<|tI 25 ff sa.1 sa.2.1<|fun xa5 =>.op 1000025 (mW 1000025 [.v (.bool xa5)] 0 ((sa.1.set (sa.2.1).toNat true).map ff))<|.o _ (fun g_=>bv ff g_.2)<|.o _ (fun _=>bA ff sa.1 ((sa.2.1).toNat) true)<|.wk (wK [0,5,6,14,15,16] [8] 1) l0<|.ret (.inl ((sa.1.set (sa.2.1).toNat true),(ae .i64 sa.2.1 1),(ae .i64 sa.2.2 1))))<|
.op 22 (xL 22 (.v (.bool ya3)) (vF))<|.o _ (fun g_=>(nh n xa2 ya3 g_.1.2))<|.o _ (fun g_=>cB g_.2)<|.wk (wK [0,5,6,14,15,16] [8] 1) l0<|.ret (.inl (sa.1,(ae .i64 sa.2.1 1),sa.2.2)))<|
.wk (wK [0,5,6] [] 1) l0<|.ret (.inr (sa.1,sa.2.2))
def Qs (c:ai) (sa:(List Bool)×Int×Int):St:=bE 61 [(5,.mf 0),(6,(vI sa.2.2)),(32,.sl (c.Order.map eI)),(33,(vI (c.Order.length:Int))),(34,(vI sa.2.1))] [] [.arr true 1 (sa.1.map ff)] 0
def Qt (c:ai) (t0:(Int⊕Unit)):Ex×St:=match t0 with | .inl tt=>(.ex 2,bE 61 [(6,(vI tt))] [] [] 0) | .inr tt=>(.ret,bE 61 [(4,vF)] [] [] 0)
theorem PC (n:Nat) (c:ai):lC (fV n c) Qo (Qs c) (Qt c):=tR [] 31 (uI (fun _=>h_) fun _=>tu) fun sa =>
.rg 11<|tB 35 (decide (sa.2.1<(c.Order.length:Int))) (.rg 12<|tI 36 eI c.Order sa.2.1<|fun xa2 =>.rg 13<|tB 40 (decide (xa2<0)) (.wk (wK [4] [] 0) l0<|.ret (.inr (.inr ())))<|
tL 43 ff sa.1<|tB 46 (decide (xa2≥(sa.1.length:Int))) (.wk (wK [4] [] 0) l0<|.ret (.inr (.inr ())))<|
tI 49 ff sa.1 xa2<|fun xa5 =>tN 50 ff (fun g_=>g_.2)<|tB 52 (!xa5) (.wk (wK [4] [] 0) l0<|.ret (.inr (.inr ())))<|
.rg 15<|tM 55 ff (fun g_=>g_.1.2)<|.op 1000055 (mW 1000055 [.v (.bool xa5)] 0 ((sa.1.set (xa2).toNat false).map ff))<|.o _ (fun g_=>bv ff g_.1.2)<|.o _ (fun _=>bA ff sa.1 ((xa2).toNat) false)<|.wk (wK [5,6,32,33,34] [] 1) l0<|.ret (.inl ((sa.1.set (xa2).toNat false),(ae .i64 sa.2.1 1),(al .i64 sa.2.2 1))))<|
.wk (wK [6] [] 0) l0<|.ret (.inr (.inl sa.2.2))
theorem tw (n:Nat) (c:ai) (all:(List Event)):pC (e_ n c all) 31 [.fptr (ai.enc c) 0,.sl (all.map Event.enc)] (fun r=>.v (.bool r)):=tP []<|
.rg 1<|tL 12 Event.enc all<|tG 13 (decide ((0:Int)≤(all.length:Int))&&decide ((all.length:Int)≤(all.length:Int))&&decide (1 * (all.length:Int)≤140737488355328)&&decide ((all.length:Int)≤140737488355328)&&Nat.blt 0 1)<|.op 13 (Fy 13 0 ((List.replicate ((all.length:Int)).toNat false).map ff))<|.o _ (fun g_=>g_.2)<|.o (List.replicate ((all.length:Int)).toNat [vF]=(List.replicate ((all.length:Int)).toNat false).map ff) (fun _=>vp ff _ false)<|.rg 3<|tL 15 Event.enc all<|.bind 3000004 (iter (fun s=>fU n c all s) n ((List.replicate ((all.length:Int)).toNat false),0,0))<|fun t2 =>tX 3000004 (wK [0,5,6,14,15,16] [] 1) 31 (Qr n c all) (fun g_=>g_.2)<|.rg 10<|tL 33 eI c.Order<|.bind 3000011 (iter (fun s=>fV n c s) n (t2.1,0,t2.2))<|fun t3 =>.alt 3000011 t3 (fun w4 =>tX 3000011 (wK [5,6,32,33,34] [] 1) 31 (PC n c) (fun g_=>(eS g_.1.2 g_.2))<|.ret (w4==0))<|
fun w4 =>tX 3000011 (wK [5,6,32,33,34] [] 1) 31 (PC n c) (fun g_=>(eS g_.1.2 g_.2))<|.ret false
noncomputable def Qu:Code:=sub (aS Tryz.prog 8) [1,1,1,0,1,0,0]
noncomputable def Qv:Code:=sub (aS Tryz.prog 8) [1,1,1,1,1,1,0,1,0,0]
def Qw (c:ai) (sa:Int×Int):St:=bE 64 [(1,.ptr (.O 0) 0 0),(3,(vI sa.2)),(25,.sl (c.Harts.map (gf Event.enc))),(26,(vI (c.Harts.length:Int))),(27,(vI sa.1))] [] [.arr true 4 [(ai.enc c)]] 0
def Qx (c:ai) (t0:(Int⊕Unit)):Ex×St:=match t0 with | .inl tt=>(.ex 0,bE 64 [(1,.ptr (.O 0) 0 0),(3,(vI tt))] [] [.arr true 4 [(ai.enc c)]] 0) | .inr tt=>(.ret,bE 64 [(2,(vI 2))] [] [] 0)
theorem PD (n:Nat) (c:ai):lC (eJ n c) Qu (Qw c) (Qx c):=tR [] 8 (uI (fun _=>h_) fun _=>tu) fun sa =>
.rg 5<|tB 28 (decide (sa.1<(c.Harts.length:Int))) (.rg 6<|tI 30 (gf Event.enc) c.Harts sa.1<|fun xa2 =>.rg 7<|tL 34 Event.enc xa2<|.rg 8<|tB 38 (decide ((ae .i64 sa.2 (xa2.length:Int))>4096)) (.wk (wK [2] [] 0) l0<|.ret (.inr (.inr ())))<|
tC 41 (yn n sa.1 xa2)<|fun ya4 =>tB 43 (ya4 != 0) (.wk (wK [2] [] 0) l0<|.ret (.inr (.inr ())))<|
.wk (wK [1,3,25,26,27] [] 1) l0<|.ret (.inl ((ae .i64 sa.1 1),(ae .i64 sa.2 (xa2.length:Int)))))<|
.wk (wK [1,3] [] 1) l0<|.ret (.inr (.inl sa.2))
def Qy (c:ai) (y7:(List Event)) (sa:Int):St:=bE 64 [(1,.ptr (.O 0) 0 0),(6,.sl (y7.map Event.enc)),(52,(vI (y7.length:Int))),(53,(vI sa))] [] [.arr true 4 [(ai.enc c)]] 0
def Qz (c:ai) (y7:(List Event)) (t0:(Unit⊕Unit)):Ex×St:=match t0 with | .inl tt=>(.ex 2,bE 64 [(1,.ptr (.O 0) 0 0),(6,.sl (y7.map Event.enc))] [] [.arr true 4 [(ai.enc c)]] 0) | .inr tt=>(.ret,bE 64 [(2,(vI 2))] [] [] 0)
theorem PE (n:Nat) (c:ai) (y7:(List Event)):lC (f9 n c y7) Qv (Qy c y7) (Qz c y7):=tR [] 8 (uI (fun _=>h_) fun _=>tu) fun sa =>
.rg 15<|tB 54 (decide (sa<(y7.length:Int))) (.rg 17<|tC 58 (yq n c y7 sa)<|fun ya2 =>tB 59 (!ya2) (.wk (wK [2] [] 0) l0<|.ret (.inr (.inr ())))<|
.wk (wK [1,6,52,53] [] 1) l0<|.ret (.inl (ae .i64 sa 1)))<|
.wk (wK [1,6] [] 1) l0<|.ret (.inr (.inl ()))
theorem eh (n:Nat) (c:ai):pC (bW n c) 8 [(eD ai.enc c)] (fun r=>(vI r)):=tP []<|
.rg 1<|tC 10 (xk n c.First)<|fun y1 =>tB 12 (!y1) (.ret 2)<|
tL 15 (gf Event.enc) c.Harts<|tB 18 (decide ((c.Harts.length:Int)<1)) (.ret 2)<|
tL 21 (gf Event.enc) c.Harts<|tB 23 (decide ((c.Harts.length:Int)>8)) (.ret 2)<|
.rg 4<|tL 26 (gf Event.enc) c.Harts<|.bind 3000005 (iter (fun s=>eJ n c s) n (0,0))<|fun t5 =>.alt 3000005 t5 (fun w6 =>tX 3000005 (wK [1,3,25,26,27] [] 1) 8 (PD n c) (fun g_=>(eS g_.1.2 g_.2))<|.rg 11<|tS 45 (kN n c.First c.Harts c.From c.Order)<|fun y7 =>.rg 12<|tL 48 eI c.From<|tB 50 ((c.From.length:Int) != w6) (.ret 2)<|
.rg 14<|tL 52 Event.enc y7<|.bind 3000015 (iter (fun s=>f9 n c y7 s) n 0)<|fun t9 =>.alt 3000015 t9 (fun w10 =>tX 3000015 (wK [1,6,52,53] [] 1) 8 (PE n c y7) (fun g_=>(eS g_.1.2 g_.2))<|.rg 20<|tC 62 (tw n c y7)<|fun y11 =>tB 63 (!y11) (.ret 2)<|
.ret 0)<|
fun w10 =>tX 3000015 (wK [1,6,52,53] [] 1) 8 (PE n c y7) (fun g_=>(eS g_.1.2 g_.2))<|.ret 2)<|
fun w6 =>tX 3000005 (wK [1,3,25,26,27] [] 1) 8 (PD n c) (fun g_=>(eS g_.1.2 g_.2))<|.ret 2
def fu (oA:(List Cell)) (oB:(List (List Event))) (oC:(List Int)) (oD:(List Int)) (oE:(List (Int×Int))) (y:Unit):AV×List Ob:=(.fn 75 [] [.ptr (.O 2) 0 0],[.arr true 4 [[.sl (oA.map Cell.enc),.sl (oB.map (gf Event.enc)),.sl (oC.map eI),.sl (oD.map eI)]],.mapo true (oE.map (pA (ft .u64) (ft .u64))),.arr false 1 [[.mp 1]]])
theorem fh (n:Nat) (oA:(List Cell)) (oB:(List (List Event))) (oC:(List Int)) (oD:(List Int)) (oE:(List (Int×Int))):sC (co n oA oB oC oD oE) 47 [.mp 1] [.arr true 4 [[.sl (oA.map Cell.enc),.sl (oB.map (gf Event.enc)),.sl (oC.map eI),.sl (oD.map eI)]],.mapo true (oE.map (pA (ft .u64) (ft .u64)))] (fu oA oB oC oD oE):=tD []<|
.ret ()
theorem p9 (n:Nat) (x:Int):pC (nX n x) 99 [(vU x)] (fun r=>(vI r)):=tP []<|
.rg 1<|tB 4 (decide (x≥4294967296)) (.rg 4<|tB 8 (decide ((bL .u64 x 32)≥65536)) (.rg 7<|tB 14 (decide ((bL .u64 (bL .u64 x 32) 16)≥256)) (.rg 10<|.bind 22 (iJ (ByteArray.mk #[0,1,2,2,3,3,3,3,4,4,4,4,4,4,4,4,5,5,5,5,5,5,5,5,5,5,5,5,5,5,5,5,6,6,6,6,6,6,6,6,6,6,6,6,6,6,6,6,6,6,6,6,6,6,6,6,6,6,6,6,6,6,6,6,7,7,7,7,7,7,7,7,7,7,7,7,7,7,7,7,7,7,7,7,7,7,7,7,7,7,7,7,7,7,7,7,7,7,7,7,7,7,7,7,7,7,7,7,7,7,7,7,7,7,7,7,7,7,7,7,7,7,7,7,7,7,7,7,8,8,8,8,8,8,8,8,8,8,8,8,8,8,8,8,8,8,8,8,8,8,8,8,8,8,8,8,8,8,8,8,8,8,8,8,8,8,8,8,8,8,8,8,8,8,8,8,8,8,8,8,8,8,8,8,8,8,8,8,8,8,8,8,8,8,8,8,8,8,8,8,8,8,8,8,8,8,8,8,8,8,8,8,8,8,8,8,8,8,8,8,8,8,8,8,8,8,8,8,8,8,8,8,8,8,8,8,8,8,8,8,8,8,8,8,8,8,8,8,8,8,8,8,8,8,8,8]) (IntKind.wrap .u8 (bL .u64 (bL .u64 (bL .u64 x 32) 16) 8)))<|fun x4 =>.op 22 (B_ 22 (.v (.int .u8 x4)))<|.o ((if 0≤(IntKind.wrap .u8 (bL .u64 (bL .u64 (bL .u64 x 32) 16) 8)) then (ByteArray.mk #[0,1,2,2,3,3,3,3,4,4,4,4,4,4,4,4,5,5,5,5,5,5,5,5,5,5,5,5,5,5,5,5,6,6,6,6,6,6,6,6,6,6,6,6,6,6,6,6,6,6,6,6,6,6,6,6,6,6,6,6,6,6,6,6,7,7,7,7,7,7,7,7,7,7,7,7,7,7,7,7,7,7,7,7,7,7,7,7,7,7,7,7,7,7,7,7,7,7,7,7,7,7,7,7,7,7,7,7,7,7,7,7,7,7,7,7,7,7,7,7,7,7,7,7,7,7,7,7,8,8,8,8,8,8,8,8,8,8,8,8,8,8,8,8,8,8,8,8,8,8,8,8,8,8,8,8,8,8,8,8,8,8,8,8,8,8,8,8,8,8,8,8,8,8,8,8,8,8,8,8,8,8,8,8,8,8,8,8,8,8,8,8,8,8,8,8,8,8,8,8,8,8,8,8,8,8,8,8,8,8,8,8,8,8,8,8,8,8,8,8,8,8,8,8,8,8,8,8,8,8,8,8,8,8,8,8,8,8,8,8,8,8,8,8,8,8,8,8,8,8,8,8,8,8,8,8])[((IntKind.wrap .u8 (bL .u64 (bL .u64 (bL .u64 x 32) 16) 8))).toNat]? else none)=some (UInt8.ofNat x4.toNat)) (fun g_=>Ca g_.2)<|.o (x4=((UInt8.ofNat x4.toNat).toNat:Int)) (fun g_=>Cb g_.2)<|.o (AV.v (.int .u8 x4)=AV.v (.int .u8 x4)) (fun _=>rfl)<|.ret (ae .i64 56 (IntKind.wrap .i64 x4)))<|
.rg 10<|.bind 22 (iJ (ByteArray.mk #[0,1,2,2,3,3,3,3,4,4,4,4,4,4,4,4,5,5,5,5,5,5,5,5,5,5,5,5,5,5,5,5,6,6,6,6,6,6,6,6,6,6,6,6,6,6,6,6,6,6,6,6,6,6,6,6,6,6,6,6,6,6,6,6,7,7,7,7,7,7,7,7,7,7,7,7,7,7,7,7,7,7,7,7,7,7,7,7,7,7,7,7,7,7,7,7,7,7,7,7,7,7,7,7,7,7,7,7,7,7,7,7,7,7,7,7,7,7,7,7,7,7,7,7,7,7,7,7,8,8,8,8,8,8,8,8,8,8,8,8,8,8,8,8,8,8,8,8,8,8,8,8,8,8,8,8,8,8,8,8,8,8,8,8,8,8,8,8,8,8,8,8,8,8,8,8,8,8,8,8,8,8,8,8,8,8,8,8,8,8,8,8,8,8,8,8,8,8,8,8,8,8,8,8,8,8,8,8,8,8,8,8,8,8,8,8,8,8,8,8,8,8,8,8,8,8,8,8,8,8,8,8,8,8,8,8,8,8,8,8,8,8,8,8,8,8,8,8,8,8,8,8,8,8,8,8]) (IntKind.wrap .u8 (bL .u64 (bL .u64 x 32) 16)))<|fun x4 =>.op 22 (B_ 22 (.v (.int .u8 x4)))<|.o ((if 0≤(IntKind.wrap .u8 (bL .u64 (bL .u64 x 32) 16)) then (ByteArray.mk #[0,1,2,2,3,3,3,3,4,4,4,4,4,4,4,4,5,5,5,5,5,5,5,5,5,5,5,5,5,5,5,5,6,6,6,6,6,6,6,6,6,6,6,6,6,6,6,6,6,6,6,6,6,6,6,6,6,6,6,6,6,6,6,6,7,7,7,7,7,7,7,7,7,7,7,7,7,7,7,7,7,7,7,7,7,7,7,7,7,7,7,7,7,7,7,7,7,7,7,7,7,7,7,7,7,7,7,7,7,7,7,7,7,7,7,7,7,7,7,7,7,7,7,7,7,7,7,7,8,8,8,8,8,8,8,8,8,8,8,8,8,8,8,8,8,8,8,8,8,8,8,8,8,8,8,8,8,8,8,8,8,8,8,8,8,8,8,8,8,8,8,8,8,8,8,8,8,8,8,8,8,8,8,8,8,8,8,8,8,8,8,8,8,8,8,8,8,8,8,8,8,8,8,8,8,8,8,8,8,8,8,8,8,8,8,8,8,8,8,8,8,8,8,8,8,8,8,8,8,8,8,8,8,8,8,8,8,8,8,8,8,8,8,8,8,8,8,8,8,8,8,8,8,8,8,8])[((IntKind.wrap .u8 (bL .u64 (bL .u64 x 32) 16))).toNat]? else none)=some (UInt8.ofNat x4.toNat)) (fun g_=>Ca g_.2)<|.o (x4=((UInt8.ofNat x4.toNat).toNat:Int)) (fun g_=>Cb g_.2)<|.o (AV.v (.int .u8 x4)=AV.v (.int .u8 x4)) (fun _=>rfl)<|.ret (ae .i64 48 (IntKind.wrap .i64 x4)))<|
.rg 7<|tB 14 (decide ((bL .u64 x 32)≥256)) (.rg 10<|.bind 22 (iJ (ByteArray.mk #[0,1,2,2,3,3,3,3,4,4,4,4,4,4,4,4,5,5,5,5,5,5,5,5,5,5,5,5,5,5,5,5,6,6,6,6,6,6,6,6,6,6,6,6,6,6,6,6,6,6,6,6,6,6,6,6,6,6,6,6,6,6,6,6,7,7,7,7,7,7,7,7,7,7,7,7,7,7,7,7,7,7,7,7,7,7,7,7,7,7,7,7,7,7,7,7,7,7,7,7,7,7,7,7,7,7,7,7,7,7,7,7,7,7,7,7,7,7,7,7,7,7,7,7,7,7,7,7,8,8,8,8,8,8,8,8,8,8,8,8,8,8,8,8,8,8,8,8,8,8,8,8,8,8,8,8,8,8,8,8,8,8,8,8,8,8,8,8,8,8,8,8,8,8,8,8,8,8,8,8,8,8,8,8,8,8,8,8,8,8,8,8,8,8,8,8,8,8,8,8,8,8,8,8,8,8,8,8,8,8,8,8,8,8,8,8,8,8,8,8,8,8,8,8,8,8,8,8,8,8,8,8,8,8,8,8,8,8,8,8,8,8,8,8,8,8,8,8,8,8,8,8,8,8,8,8]) (IntKind.wrap .u8 (bL .u64 (bL .u64 x 32) 8)))<|fun x4 =>.op 22 (B_ 22 (.v (.int .u8 x4)))<|.o ((if 0≤(IntKind.wrap .u8 (bL .u64 (bL .u64 x 32) 8)) then (ByteArray.mk #[0,1,2,2,3,3,3,3,4,4,4,4,4,4,4,4,5,5,5,5,5,5,5,5,5,5,5,5,5,5,5,5,6,6,6,6,6,6,6,6,6,6,6,6,6,6,6,6,6,6,6,6,6,6,6,6,6,6,6,6,6,6,6,6,7,7,7,7,7,7,7,7,7,7,7,7,7,7,7,7,7,7,7,7,7,7,7,7,7,7,7,7,7,7,7,7,7,7,7,7,7,7,7,7,7,7,7,7,7,7,7,7,7,7,7,7,7,7,7,7,7,7,7,7,7,7,7,7,8,8,8,8,8,8,8,8,8,8,8,8,8,8,8,8,8,8,8,8,8,8,8,8,8,8,8,8,8,8,8,8,8,8,8,8,8,8,8,8,8,8,8,8,8,8,8,8,8,8,8,8,8,8,8,8,8,8,8,8,8,8,8,8,8,8,8,8,8,8,8,8,8,8,8,8,8,8,8,8,8,8,8,8,8,8,8,8,8,8,8,8,8,8,8,8,8,8,8,8,8,8,8,8,8,8,8,8,8,8,8,8,8,8,8,8,8,8,8,8,8,8,8,8,8,8,8,8])[((IntKind.wrap .u8 (bL .u64 (bL .u64 x 32) 8))).toNat]? else none)=some (UInt8.ofNat x4.toNat)) (fun g_=>Ca g_.2)<|.o (x4=((UInt8.ofNat x4.toNat).toNat:Int)) (fun g_=>Cb g_.2)<|.o (AV.v (.int .u8 x4)=AV.v (.int .u8 x4)) (fun _=>rfl)<|.ret (ae .i64 40 (IntKind.wrap .i64 x4)))<|
.rg 10<|.bind 22 (iJ (ByteArray.mk #[0,1,2,2,3,3,3,3,4,4,4,4,4,4,4,4,5,5,5,5,5,5,5,5,5,5,5,5,5,5,5,5,6,6,6,6,6,6,6,6,6,6,6,6,6,6,6,6,6,6,6,6,6,6,6,6,6,6,6,6,6,6,6,6,7,7,7,7,7,7,7,7,7,7,7,7,7,7,7,7,7,7,7,7,7,7,7,7,7,7,7,7,7,7,7,7,7,7,7,7,7,7,7,7,7,7,7,7,7,7,7,7,7,7,7,7,7,7,7,7,7,7,7,7,7,7,7,7,8,8,8,8,8,8,8,8,8,8,8,8,8,8,8,8,8,8,8,8,8,8,8,8,8,8,8,8,8,8,8,8,8,8,8,8,8,8,8,8,8,8,8,8,8,8,8,8,8,8,8,8,8,8,8,8,8,8,8,8,8,8,8,8,8,8,8,8,8,8,8,8,8,8,8,8,8,8,8,8,8,8,8,8,8,8,8,8,8,8,8,8,8,8,8,8,8,8,8,8,8,8,8,8,8,8,8,8,8,8,8,8,8,8,8,8,8,8,8,8,8,8,8,8,8,8,8,8]) (IntKind.wrap .u8 (bL .u64 x 32)))<|fun x4 =>.op 22 (B_ 22 (.v (.int .u8 x4)))<|.o ((if 0≤(IntKind.wrap .u8 (bL .u64 x 32)) then (ByteArray.mk #[0,1,2,2,3,3,3,3,4,4,4,4,4,4,4,4,5,5,5,5,5,5,5,5,5,5,5,5,5,5,5,5,6,6,6,6,6,6,6,6,6,6,6,6,6,6,6,6,6,6,6,6,6,6,6,6,6,6,6,6,6,6,6,6,7,7,7,7,7,7,7,7,7,7,7,7,7,7,7,7,7,7,7,7,7,7,7,7,7,7,7,7,7,7,7,7,7,7,7,7,7,7,7,7,7,7,7,7,7,7,7,7,7,7,7,7,7,7,7,7,7,7,7,7,7,7,7,7,8,8,8,8,8,8,8,8,8,8,8,8,8,8,8,8,8,8,8,8,8,8,8,8,8,8,8,8,8,8,8,8,8,8,8,8,8,8,8,8,8,8,8,8,8,8,8,8,8,8,8,8,8,8,8,8,8,8,8,8,8,8,8,8,8,8,8,8,8,8,8,8,8,8,8,8,8,8,8,8,8,8,8,8,8,8,8,8,8,8,8,8,8,8,8,8,8,8,8,8,8,8,8,8,8,8,8,8,8,8,8,8,8,8,8,8,8,8,8,8,8,8,8,8,8,8,8,8])[((IntKind.wrap .u8 (bL .u64 x 32))).toNat]? else none)=some (UInt8.ofNat x4.toNat)) (fun g_=>Ca g_.2)<|.o (x4=((UInt8.ofNat x4.toNat).toNat:Int)) (fun g_=>Cb g_.2)<|.o (AV.v (.int .u8 x4)=AV.v (.int .u8 x4)) (fun _=>rfl)<|.ret (ae .i64 32 (IntKind.wrap .i64 x4)))<|
.rg 4<|tB 8 (decide (x≥65536)) (.rg 7<|tB 14 (decide ((bL .u64 x 16)≥256)) (.rg 10<|.bind 22 (iJ (ByteArray.mk #[0,1,2,2,3,3,3,3,4,4,4,4,4,4,4,4,5,5,5,5,5,5,5,5,5,5,5,5,5,5,5,5,6,6,6,6,6,6,6,6,6,6,6,6,6,6,6,6,6,6,6,6,6,6,6,6,6,6,6,6,6,6,6,6,7,7,7,7,7,7,7,7,7,7,7,7,7,7,7,7,7,7,7,7,7,7,7,7,7,7,7,7,7,7,7,7,7,7,7,7,7,7,7,7,7,7,7,7,7,7,7,7,7,7,7,7,7,7,7,7,7,7,7,7,7,7,7,7,8,8,8,8,8,8,8,8,8,8,8,8,8,8,8,8,8,8,8,8,8,8,8,8,8,8,8,8,8,8,8,8,8,8,8,8,8,8,8,8,8,8,8,8,8,8,8,8,8,8,8,8,8,8,8,8,8,8,8,8,8,8,8,8,8,8,8,8,8,8,8,8,8,8,8,8,8,8,8,8,8,8,8,8,8,8,8,8,8,8,8,8,8,8,8,8,8,8,8,8,8,8,8,8,8,8,8,8,8,8,8,8,8,8,8,8,8,8,8,8,8,8,8,8,8,8,8,8]) (IntKind.wrap .u8 (bL .u64 (bL .u64 x 16) 8)))<|fun x4 =>.op 22 (B_ 22 (.v (.int .u8 x4)))<|.o ((if 0≤(IntKind.wrap .u8 (bL .u64 (bL .u64 x 16) 8)) then (ByteArray.mk #[0,1,2,2,3,3,3,3,4,4,4,4,4,4,4,4,5,5,5,5,5,5,5,5,5,5,5,5,5,5,5,5,6,6,6,6,6,6,6,6,6,6,6,6,6,6,6,6,6,6,6,6,6,6,6,6,6,6,6,6,6,6,6,6,7,7,7,7,7,7,7,7,7,7,7,7,7,7,7,7,7,7,7,7,7,7,7,7,7,7,7,7,7,7,7,7,7,7,7,7,7,7,7,7,7,7,7,7,7,7,7,7,7,7,7,7,7,7,7,7,7,7,7,7,7,7,7,7,8,8,8,8,8,8,8,8,8,8,8,8,8,8,8,8,8,8,8,8,8,8,8,8,8,8,8,8,8,8,8,8,8,8,8,8,8,8,8,8,8,8,8,8,8,8,8,8,8,8,8,8,8,8,8,8,8,8,8,8,8,8,8,8,8,8,8,8,8,8,8,8,8,8,8,8,8,8,8,8,8,8,8,8,8,8,8,8,8,8,8,8,8,8,8,8,8,8,8,8,8,8,8,8,8,8,8,8,8,8,8,8,8,8,8,8,8,8,8,8,8,8,8,8,8,8,8,8])[((IntKind.wrap .u8 (bL .u64 (bL .u64 x 16) 8))).toNat]? else none)=some (UInt8.ofNat x4.toNat)) (fun g_=>Ca g_.2)<|.o (x4=((UInt8.ofNat x4.toNat).toNat:Int)) (fun g_=>Cb g_.2)<|.o (AV.v (.int .u8 x4)=AV.v (.int .u8 x4)) (fun _=>rfl)<|.ret (ae .i64 24 (IntKind.wrap .i64 x4)))<|
.rg 10<|.bind 22 (iJ (ByteArray.mk #[0,1,2,2,3,3,3,3,4,4,4,4,4,4,4,4,5,5,5,5,5,5,5,5,5,5,5,5,5,5,5,5,6,6,6,6,6,6,6,6,6,6,6,6,6,6,6,6,6,6,6,6,6,6,6,6,6,6,6,6,6,6,6,6,7,7,7,7,7,7,7,7,7,7,7,7,7,7,7,7,7,7,7,7,7,7,7,7,7,7,7,7,7,7,7,7,7,7,7,7,7,7,7,7,7,7,7,7,7,7,7,7,7,7,7,7,7,7,7,7,7,7,7,7,7,7,7,7,8,8,8,8,8,8,8,8,8,8,8,8,8,8,8,8,8,8,8,8,8,8,8,8,8,8,8,8,8,8,8,8,8,8,8,8,8,8,8,8,8,8,8,8,8,8,8,8,8,8,8,8,8,8,8,8,8,8,8,8,8,8,8,8,8,8,8,8,8,8,8,8,8,8,8,8,8,8,8,8,8,8,8,8,8,8,8,8,8,8,8,8,8,8,8,8,8,8,8,8,8,8,8,8,8,8,8,8,8,8,8,8,8,8,8,8,8,8,8,8,8,8,8,8,8,8,8,8]) (IntKind.wrap .u8 (bL .u64 x 16)))<|fun x4 =>.op 22 (B_ 22 (.v (.int .u8 x4)))<|.o ((if 0≤(IntKind.wrap .u8 (bL .u64 x 16)) then (ByteArray.mk #[0,1,2,2,3,3,3,3,4,4,4,4,4,4,4,4,5,5,5,5,5,5,5,5,5,5,5,5,5,5,5,5,6,6,6,6,6,6,6,6,6,6,6,6,6,6,6,6,6,6,6,6,6,6,6,6,6,6,6,6,6,6,6,6,7,7,7,7,7,7,7,7,7,7,7,7,7,7,7,7,7,7,7,7,7,7,7,7,7,7,7,7,7,7,7,7,7,7,7,7,7,7,7,7,7,7,7,7,7,7,7,7,7,7,7,7,7,7,7,7,7,7,7,7,7,7,7,7,8,8,8,8,8,8,8,8,8,8,8,8,8,8,8,8,8,8,8,8,8,8,8,8,8,8,8,8,8,8,8,8,8,8,8,8,8,8,8,8,8,8,8,8,8,8,8,8,8,8,8,8,8,8,8,8,8,8,8,8,8,8,8,8,8,8,8,8,8,8,8,8,8,8,8,8,8,8,8,8,8,8,8,8,8,8,8,8,8,8,8,8,8,8,8,8,8,8,8,8,8,8,8,8,8,8,8,8,8,8,8,8,8,8,8,8,8,8,8,8,8,8,8,8,8,8,8,8])[((IntKind.wrap .u8 (bL .u64 x 16))).toNat]? else none)=some (UInt8.ofNat x4.toNat)) (fun g_=>Ca g_.2)<|.o (x4=((UInt8.ofNat x4.toNat).toNat:Int)) (fun g_=>Cb g_.2)<|.o (AV.v (.int .u8 x4)=AV.v (.int .u8 x4)) (fun _=>rfl)<|.ret (ae .i64 16 (IntKind.wrap .i64 x4)))<|
.rg 7<|tB 14 (decide (x≥256)) (.rg 10<|.bind 22 (iJ (ByteArray.mk #[0,1,2,2,3,3,3,3,4,4,4,4,4,4,4,4,5,5,5,5,5,5,5,5,5,5,5,5,5,5,5,5,6,6,6,6,6,6,6,6,6,6,6,6,6,6,6,6,6,6,6,6,6,6,6,6,6,6,6,6,6,6,6,6,7,7,7,7,7,7,7,7,7,7,7,7,7,7,7,7,7,7,7,7,7,7,7,7,7,7,7,7,7,7,7,7,7,7,7,7,7,7,7,7,7,7,7,7,7,7,7,7,7,7,7,7,7,7,7,7,7,7,7,7,7,7,7,7,8,8,8,8,8,8,8,8,8,8,8,8,8,8,8,8,8,8,8,8,8,8,8,8,8,8,8,8,8,8,8,8,8,8,8,8,8,8,8,8,8,8,8,8,8,8,8,8,8,8,8,8,8,8,8,8,8,8,8,8,8,8,8,8,8,8,8,8,8,8,8,8,8,8,8,8,8,8,8,8,8,8,8,8,8,8,8,8,8,8,8,8,8,8,8,8,8,8,8,8,8,8,8,8,8,8,8,8,8,8,8,8,8,8,8,8,8,8,8,8,8,8,8,8,8,8,8,8]) (IntKind.wrap .u8 (bL .u64 x 8)))<|fun x4 =>.op 22 (B_ 22 (.v (.int .u8 x4)))<|.o ((if 0≤(IntKind.wrap .u8 (bL .u64 x 8)) then (ByteArray.mk #[0,1,2,2,3,3,3,3,4,4,4,4,4,4,4,4,5,5,5,5,5,5,5,5,5,5,5,5,5,5,5,5,6,6,6,6,6,6,6,6,6,6,6,6,6,6,6,6,6,6,6,6,6,6,6,6,6,6,6,6,6,6,6,6,7,7,7,7,7,7,7,7,7,7,7,7,7,7,7,7,7,7,7,7,7,7,7,7,7,7,7,7,7,7,7,7,7,7,7,7,7,7,7,7,7,7,7,7,7,7,7,7,7,7,7,7,7,7,7,7,7,7,7,7,7,7,7,7,8,8,8,8,8,8,8,8,8,8,8,8,8,8,8,8,8,8,8,8,8,8,8,8,8,8,8,8,8,8,8,8,8,8,8,8,8,8,8,8,8,8,8,8,8,8,8,8,8,8,8,8,8,8,8,8,8,8,8,8,8,8,8,8,8,8,8,8,8,8,8,8,8,8,8,8,8,8,8,8,8,8,8,8,8,8,8,8,8,8,8,8,8,8,8,8,8,8,8,8,8,8,8,8,8,8,8,8,8,8,8,8,8,8,8,8,8,8,8,8,8,8,8,8,8,8,8,8])[((IntKind.wrap .u8 (bL .u64 x 8))).toNat]? else none)=some (UInt8.ofNat x4.toNat)) (fun g_=>Ca g_.2)<|.o (x4=((UInt8.ofNat x4.toNat).toNat:Int)) (fun g_=>Cb g_.2)<|.o (AV.v (.int .u8 x4)=AV.v (.int .u8 x4)) (fun _=>rfl)<|.ret (ae .i64 8 (IntKind.wrap .i64 x4)))<|
.rg 10<|.bind 22 (iJ (ByteArray.mk #[0,1,2,2,3,3,3,3,4,4,4,4,4,4,4,4,5,5,5,5,5,5,5,5,5,5,5,5,5,5,5,5,6,6,6,6,6,6,6,6,6,6,6,6,6,6,6,6,6,6,6,6,6,6,6,6,6,6,6,6,6,6,6,6,7,7,7,7,7,7,7,7,7,7,7,7,7,7,7,7,7,7,7,7,7,7,7,7,7,7,7,7,7,7,7,7,7,7,7,7,7,7,7,7,7,7,7,7,7,7,7,7,7,7,7,7,7,7,7,7,7,7,7,7,7,7,7,7,8,8,8,8,8,8,8,8,8,8,8,8,8,8,8,8,8,8,8,8,8,8,8,8,8,8,8,8,8,8,8,8,8,8,8,8,8,8,8,8,8,8,8,8,8,8,8,8,8,8,8,8,8,8,8,8,8,8,8,8,8,8,8,8,8,8,8,8,8,8,8,8,8,8,8,8,8,8,8,8,8,8,8,8,8,8,8,8,8,8,8,8,8,8,8,8,8,8,8,8,8,8,8,8,8,8,8,8,8,8,8,8,8,8,8,8,8,8,8,8,8,8,8,8,8,8,8,8]) (IntKind.wrap .u8 x))<|fun x4 =>.op 22 (B_ 22 (.v (.int .u8 x4)))<|.o ((if 0≤(IntKind.wrap .u8 x) then (ByteArray.mk #[0,1,2,2,3,3,3,3,4,4,4,4,4,4,4,4,5,5,5,5,5,5,5,5,5,5,5,5,5,5,5,5,6,6,6,6,6,6,6,6,6,6,6,6,6,6,6,6,6,6,6,6,6,6,6,6,6,6,6,6,6,6,6,6,7,7,7,7,7,7,7,7,7,7,7,7,7,7,7,7,7,7,7,7,7,7,7,7,7,7,7,7,7,7,7,7,7,7,7,7,7,7,7,7,7,7,7,7,7,7,7,7,7,7,7,7,7,7,7,7,7,7,7,7,7,7,7,7,8,8,8,8,8,8,8,8,8,8,8,8,8,8,8,8,8,8,8,8,8,8,8,8,8,8,8,8,8,8,8,8,8,8,8,8,8,8,8,8,8,8,8,8,8,8,8,8,8,8,8,8,8,8,8,8,8,8,8,8,8,8,8,8,8,8,8,8,8,8,8,8,8,8,8,8,8,8,8,8,8,8,8,8,8,8,8,8,8,8,8,8,8,8,8,8,8,8,8,8,8,8,8,8,8,8,8,8,8,8,8,8,8,8,8,8,8,8,8,8,8,8,8,8,8,8,8,8])[((IntKind.wrap .u8 x)).toNat]? else none)=some (UInt8.ofNat x4.toNat)) (fun g_=>Ca g_.2)<|.o (x4=((UInt8.ofNat x4.toNat).toNat:Int)) (fun g_=>Cb g_.2)<|.o (AV.v (.int .u8 x4)=AV.v (.int .u8 x4)) (fun _=>rfl)<|.ret (ae .i64 0 (IntKind.wrap .i64 x4))
theorem bC (n:Nat) (x:Int):pC (dT n x) 86 [(vU x)] (fun r=>(vI r)):=tP []<|
.rg 2<|tC 7 (p9 n x)<|fun y1 =>.ret y1
theorem aI (n:Nat) (x:Int) (y:Int):pC (aR n x y) 95 [(vU x),(vU y)] (fun r=>.v (.bool r)):=tP []<|
.rg 1<|tC 6 (fg n x)<|fun y1 =>tB 7 y1 (tC 9 (fg n y)<|fun y3 =>tB 12 (!y3) (.ret true)<|
.ret (decide (x<y)))<|
.ret (decide (x<y))
def GV:List (Nat×PT):=[(4,(hZ [0,1,2,3,4,5,6,7,8,9,10,11,12,13,14])),(6,(hZ [0,1,2,3,4,5,6,7,8,9,10,11,12,13,14,15,16,17]))]
noncomputable def PF:Code:=sub (aS Tryz.prog 89) [1,0,0]
noncomputable def QA:Code:=sub PF [1,0,0,1,0,0]
def QB (a:Int) (b:Int) (sb:(List Int)×Int×Int):St:=bE 49 [(0,.mf 0),(1,(vI a)),(2,(vI b)),(6,(vI sb.2.1)),(7,(vI sb.2.2))] [] [.arr true 1 (sb.1.map (ac .u64))] 1
def QC (a:Int) (b:Int) (tt:((List Int)×Int)):Ex×St:=(.ex 2,bE 49 [(0,.mf 0),(1,(vI a)),(2,(vI b)),(6,(vI tt.2))] [] [.arr true 1 (tt.1.map (ac .u64))] 1)
theorem QD (n:Nat) (a:Int) (b:Int):lC (aX n a b) QA (QB a b) (QC a b):=tR GV 89 (fun _=>h_) fun sb =>
.rg 4<|tB 19 (decide (sb.2.2>a)) (tI 22 (ac .u64) sb.1 sb.2.2<|fun xb2 =>tN 23 (ac .u64) (fun g_=>g_.2)<|tI 27 (ac .u64) sb.1 (al .i64 sb.2.2 1)<|fun xb3 =>tN 28 (ac .u64) (fun g_=>g_.2)<|tC 29 (aI n xb2 xb3)<|fun yb4 =>tB 30 yb4 (.rg 6<|tM 41 (ac .u64) (fun g_=>g_.1.1.2)<|tN 42 (ac .u64) (fun g_=>g_.1.1.2)<|tM 45 (ac .u64) (fun g_=>g_.1.1.1.2)<|tN 46 (ac .u64) (fun g_=>g_.1.1.1.2)<|tM 47 (ac .u64) (fun g_=>g_.1.1.1.2)<|.op 1000047 (mW 1000047 [(vU xb2)] 0 ((sb.1.set (sb.2.2).toNat xb3).map (ac .u64)))<|.o _ (fun g_=>bv (ac .u64) g_.1.1.1.2)<|.o _ (fun _=>bA (ac .u64) sb.1 ((sb.2.2).toNat) xb3)<|tI 48 (ac .u64) (sb.1.set (sb.2.2).toNat xb3) (al .i64 sb.2.2 1)<|fun xb6 =>.op 1000048 (mW 1000048 [(vU xb6)] 0 (((sb.1.set (sb.2.2).toNat xb3).set ((al .i64 sb.2.2 1)).toNat xb2).map (ac .u64)))<|.o _ (fun g_=>bv (ac .u64) g_.2)<|.o _ (fun _=>bA (ac .u64) (sb.1.set (sb.2.2).toNat xb3) (((al .i64 sb.2.2 1)).toNat) xb2)<|.wk (wK [0,1,2,6,7] [] 1) l0<|.ret (.inl (((sb.1.set (sb.2.2).toNat xb3).set ((al .i64 sb.2.2 1)).toNat xb2),sb.2.1,(al .i64 sb.2.2 1))))<|
.wk (wK [0,1,2,6] [] 1) l0<|.ret (.inr (sb.1,sb.2.1)))<|
.wk (wK [0,1,2,6] [] 1) l0<|.ret (.inr (sb.1,sb.2.1))
def QE (a:Int) (b:Int) (sa:(List Int)×Int):St:=bE 49 [(0,.mf 0),(1,(vI a)),(2,(vI b)),(6,(vI sa.2))] [] [.arr true 1 (sa.1.map (ac .u64))] 1
def QF (a:Int) (b:Int) (tt:((List Int))):Ex×St:=(.ex 0,bE 49 [] [] [.arr true 1 (tt.map (ac .u64))] 1)
theorem QG (n:Nat) (a:Int) (b:Int):lC (br n a b) PF (QE a b) (QF a b):=tR GV 89 (fun _=>h_) fun sa =>
.rg 1<|tB 12 (decide (sa.2<b)) (.bind 3000004 (iter (fun s=>aX n a b s) n (sa.1,sa.2,sa.2))<|fun ta2 =>tX 3000004 (wK [0,1,2,6,7] [] 1) 89 (QD n a b) (fun g_=>g_.2)<|.wk (wK [0,1,2,6] [] 1) l0<|.ret (.inl (ta2.1,(ae .i64 ta2.2 1))))<|
.wk (wK [] [] 1) l0<|.ret (.inr sa.1)
def gG (a:Int) (b:Int) (oA:(List Int)) (y:(List Int)):AV×List Ob:=(.tup [],[.arr true 1 (y.map (ac .u64))])
theorem gk (n:Nat) (a:Int) (b:Int) (oA:(List Int)):sC (ci n a b oA) 89 [.mf 0,(vI a),(vI b)] [.arr true 1 (oA.map (ac .u64))] (gG a b oA):=tD GV<|
.bind 3000001 (iter (fun s=>br n a b s) n (oA,(ae .i64 a 1)))<|fun t1 =>tX 3000001 (wK [0,1,2,6] [] 1) 89 (QG n a b) (fun g_=>g_.2)<|.ret t1
def GW:List (Nat×PT):=[(3,(hZ [0,1,2,3,4,5,6,7,8,9,10,11,12,13,14,15,16,17,18,19])),(5,(hZ [0,1,2,3,4,5,6,7,8,9,10,11,12,13])),(6,(hZ [0,1,2,3,4,5,6,7,8,9,10,11,12,13,14,15,16,17,18,19,20,21,22,23]))]
noncomputable def QH:Code:=sub (aS Tryz.prog 100) [1,0,0]
def QI (hi:Int) (first:Int) (sa:(List Int)×Int):St:=bE 76 [(0,.mf 0),(2,(vI hi)),(3,(vI first)),(8,(vI sa.2))] [] [.arr true 1 (sa.1.map (ac .u64))] 1
def QJ (hi:Int) (first:Int) (t0:(((List Int))⊕((List Int)))):Ex×St:=match t0 with | .inl tt=>(.ex 0,bE 76 [] [] [.arr true 1 (tt.map (ac .u64))] 1) | .inr tt=>(.ret,bE 76 [] [] [.arr true 1 (tt.map (ac .u64))] 1)
theorem PG (n:Nat) (hi:Int) (first:Int):lC (aM n hi first) QH (QI hi first) (QJ hi first):=tR GW 100 (uI (fun _=>h_) fun _=>tu) fun sa =>
.rg 2<|tB 16 (decide ((ae .i64 (cf .i64 2 sa.2) 1)≥hi)) (.wk (wK [] [] 1) l0<|.ret (.inr (.inl sa.1)))<|
.rg 3<|tB 21 (decide ((ae .i64 (ae .i64 (cf .i64 2 sa.2) 1) 1)<hi)) (tI 26 (ac .u64) sa.1 (ae .i64 first (ae .i64 (cf .i64 2 sa.2) 1))<|fun xa3 =>tN 27 (ac .u64) (fun g_=>g_.2)<|tI 33 (ac .u64) sa.1 (ae .i64 (ae .i64 first (ae .i64 (cf .i64 2 sa.2) 1)) 1)<|fun xa4 =>tN 34 (ac .u64) (fun g_=>g_.2)<|tC 35 (aI n xa3 xa4)<|fun ya5 =>tB 36 ya5 (.rg 5<|tI 43 (ac .u64) sa.1 (ae .i64 first sa.2)<|fun xa7 =>tN 44 (ac .u64) (fun g_=>g_.2)<|tI 49 (ac .u64) sa.1 (ae .i64 first (ae .i64 (ae .i64 (cf .i64 2 sa.2) 1) 1))<|fun xa8 =>tN 50 (ac .u64) (fun g_=>g_.2)<|tC 51 (aI n xa7 xa8)<|fun ya9 =>tB 52 (!ya9) (.wk (wK [] [] 1) l0<|.ret (.inr (.inr sa.1)))<|
.rg 6<|tM 65 (ac .u64) (fun g_=>g_.1.1.2)<|tN 66 (ac .u64) (fun g_=>g_.1.1.2)<|tM 71 (ac .u64) (fun g_=>g_.1.1.1.2)<|tN 72 (ac .u64) (fun g_=>g_.1.1.1.2)<|tM 73 (ac .u64) (fun g_=>g_.1.1.1.2)<|.op 1000073 (mW 1000073 [(vU xa7)] 0 ((sa.1.set ((ae .i64 first sa.2)).toNat xa8).map (ac .u64)))<|.o _ (fun g_=>bv (ac .u64) g_.1.1.1.2)<|.o _ (fun _=>bA (ac .u64) sa.1 (((ae .i64 first sa.2)).toNat) xa8)<|tI 74 (ac .u64) (sa.1.set ((ae .i64 first sa.2)).toNat xa8) (ae .i64 first (ae .i64 (ae .i64 (cf .i64 2 sa.2) 1) 1))<|fun xa11 =>.op 1000074 (mW 1000074 [(vU xa11)] 0 (((sa.1.set ((ae .i64 first sa.2)).toNat xa8).set ((ae .i64 first (ae .i64 (ae .i64 (cf .i64 2 sa.2) 1) 1))).toNat xa7).map (ac .u64)))<|.o _ (fun g_=>bv (ac .u64) g_.2)<|.o _ (fun _=>bA (ac .u64) (sa.1.set ((ae .i64 first sa.2)).toNat xa8) (((ae .i64 first (ae .i64 (ae .i64 (cf .i64 2 sa.2) 1) 1))).toNat) xa7)<|.wk (wK [0,2,3,8] [] 1) l0<|.ret (.inl (((sa.1.set ((ae .i64 first sa.2)).toNat xa8).set ((ae .i64 first (ae .i64 (ae .i64 (cf .i64 2 sa.2) 1) 1))).toNat xa7),(ae .i64 (ae .i64 (cf .i64 2 sa.2) 1) 1))))<|
.rg 5<|tI 43 (ac .u64) sa.1 (ae .i64 first sa.2)<|fun xa7 =>tN 44 (ac .u64) (fun g_=>g_.2)<|tM 49 (ac .u64) (fun g_=>g_.1.1.1.1.2)<|tN 50 (ac .u64) (fun g_=>g_.1.1.1.1.2)<|tC 51 (aI n xa7 xa3)<|fun ya8 =>tB 52 (!ya8) (.wk (wK [] [] 1) l0<|.ret (.inr (.inr sa.1)))<|
.rg 6<|tM 65 (ac .u64) (fun g_=>g_.1.1.1.1.1.1.2)<|tN 66 (ac .u64) (fun g_=>g_.1.1.1.1.1.1.2)<|tM 71 (ac .u64) (fun g_=>g_.1.1.2)<|tN 72 (ac .u64) (fun g_=>g_.1.1.2)<|tM 73 (ac .u64) (fun g_=>g_.1.1.2)<|.op 1000073 (mW 1000073 [(vU xa7)] 0 ((sa.1.set ((ae .i64 first sa.2)).toNat xa3).map (ac .u64)))<|.o _ (fun g_=>bv (ac .u64) g_.1.1.2)<|.o _ (fun _=>bA (ac .u64) sa.1 (((ae .i64 first sa.2)).toNat) xa3)<|tI 74 (ac .u64) (sa.1.set ((ae .i64 first sa.2)).toNat xa3) (ae .i64 first (ae .i64 (cf .i64 2 sa.2) 1))<|fun xa10 =>.op 1000074 (mW 1000074 [(vU xa10)] 0 (((sa.1.set ((ae .i64 first sa.2)).toNat xa3).set ((ae .i64 first (ae .i64 (cf .i64 2 sa.2) 1))).toNat xa7).map (ac .u64)))<|.o _ (fun g_=>bv (ac .u64) g_.2)<|.o _ (fun _=>bA (ac .u64) (sa.1.set ((ae .i64 first sa.2)).toNat xa3) (((ae .i64 first (ae .i64 (cf .i64 2 sa.2) 1))).toNat) xa7)<|.wk (wK [0,2,3,8] [] 1) l0<|.ret (.inl (((sa.1.set ((ae .i64 first sa.2)).toNat xa3).set ((ae .i64 first (ae .i64 (cf .i64 2 sa.2) 1))).toNat xa7),(ae .i64 (cf .i64 2 sa.2) 1))))<|
.rg 5<|tI 43 (ac .u64) sa.1 (ae .i64 first sa.2)<|fun xa3 =>tN 44 (ac .u64) (fun g_=>g_.2)<|tI 49 (ac .u64) sa.1 (ae .i64 first (ae .i64 (cf .i64 2 sa.2) 1))<|fun xa4 =>tN 50 (ac .u64) (fun g_=>g_.2)<|tC 51 (aI n xa3 xa4)<|fun ya5 =>tB 52 (!ya5) (.wk (wK [] [] 1) l0<|.ret (.inr (.inr sa.1)))<|
.rg 6<|tM 65 (ac .u64) (fun g_=>g_.1.1.2)<|tN 66 (ac .u64) (fun g_=>g_.1.1.2)<|tM 71 (ac .u64) (fun g_=>g_.1.1.1.2)<|tN 72 (ac .u64) (fun g_=>g_.1.1.1.2)<|tM 73 (ac .u64) (fun g_=>g_.1.1.1.2)<|.op 1000073 (mW 1000073 [(vU xa3)] 0 ((sa.1.set ((ae .i64 first sa.2)).toNat xa4).map (ac .u64)))<|.o _ (fun g_=>bv (ac .u64) g_.1.1.1.2)<|.o _ (fun _=>bA (ac .u64) sa.1 (((ae .i64 first sa.2)).toNat) xa4)<|tI 74 (ac .u64) (sa.1.set ((ae .i64 first sa.2)).toNat xa4) (ae .i64 first (ae .i64 (cf .i64 2 sa.2) 1))<|fun xa7 =>.op 1000074 (mW 1000074 [(vU xa7)] 0 (((sa.1.set ((ae .i64 first sa.2)).toNat xa4).set ((ae .i64 first (ae .i64 (cf .i64 2 sa.2) 1))).toNat xa3).map (ac .u64)))<|.o _ (fun g_=>bv (ac .u64) g_.2)<|.o _ (fun _=>bA (ac .u64) (sa.1.set ((ae .i64 first sa.2)).toNat xa4) (((ae .i64 first (ae .i64 (cf .i64 2 sa.2) 1))).toNat) xa3)<|.wk (wK [0,2,3,8] [] 1) l0<|.ret (.inl (((sa.1.set ((ae .i64 first sa.2)).toNat xa4).set ((ae .i64 first (ae .i64 (cf .i64 2 sa.2) 1))).toNat xa3),(ae .i64 (cf .i64 2 sa.2) 1)))
def iZ (lo:Int) (hi:Int) (first:Int) (oA:(List Int)) (y:(List Int)):AV×List Ob:=(.tup [],[.arr true 1 (y.map (ac .u64))])
theorem eN (n:Nat) (lo:Int) (hi:Int) (first:Int) (oA:(List Int)):sC (bZ n lo hi first oA) 100 [.mf 0,(vI lo),(vI hi),(vI first)] [.arr true 1 (oA.map (ac .u64))] (iZ lo hi first oA):=tD GW<|
.bind 3000001 (iter (fun s=>aM n hi first s) n (oA,lo))<|fun t1 =>.alt 3000001 t1 (fun w2 =>tX 3000001 (wK [0,2,3,8] [] 1) 100 (PG n hi first) (fun g_=>(eS g_.1.2 g_.2))<|.ret w2)<|
fun w2 =>tX 3000001 (wK [0,2,3,8] [] 1) 100 (PG n hi first) (fun g_=>(eS g_.1.2 g_.2))<|.ret w2
def GX:List (Nat×PT):=[(10,(hZ [0,1,2,3,4,5,6,7,8,9,10,11,12,13,14,15,16,17,18,19]))]
noncomputable def QK:Code:=sub (aS Tryz.prog 90) [1,1,1,0,1,0,0]
noncomputable def QL:Code:=sub (aS Tryz.prog 90) [1,1,1,1,1,0,0]
def QM (a:Int) (b:Int) (sa:(List Int)×Int):St:=bE 56 [(0,.mf 0),(6,(vI a)),(7,(vI 0)),(8,(vI (al .i64 b a))),(9,(vI sa.2))] [] [.arr true 1 (sa.1.map (ac .u64))] 1
def QN (a:Int) (b:Int) (tt:((List Int))):Ex×St:=(.ex 0,bE 56 [(0,.mf 0),(6,(vI a)),(7,(vI 0)),(8,(vI (al .i64 b a)))] [] [.arr true 1 (tt.map (ac .u64))] 1)
theorem QO (n:Nat) (a:Int) (b:Int):lC (aY n a b) QK (QM a b) (QN a b):=tR GX 90 (fun _=>h_) fun sa =>
.rg 4<|tB 19 (decide (sa.2≥0)) (.rg 6<|tS 26 (eN n sa.2 (al .i64 b a) a sa.1)<|fun ya2 =>.wk (wK [0,6,7,8,9] [] 1) l0<|.ret (.inl (ya2,(al .i64 sa.2 1))))<|
.wk (wK [0,6,7,8] [] 1) l0<|.ret (.inr sa.1)
def QP (a:Int) (sa:(List Int)×Int):St:=bE 56 [(0,.mf 0),(6,(vI a)),(7,(vI 0)),(10,(vI sa.2))] [] [.arr true 1 (sa.1.map (ac .u64))] 1
def QQ (a:Int) (tt:((List Int))):Ex×St:=(.ex 2,bE 56 [] [] [.arr true 1 (tt.map (ac .u64))] 1)
theorem QR (n:Nat) (a:Int):lC (aZ n a) QL (QP a) (QQ a):=tR GX 90 (fun _=>h_) fun sa =>
.rg 8<|tB 30 (decide (sa.2≥0)) (.rg 10<|tI 43 (ac .u64) sa.1 (ae .i64 a sa.2)<|fun xa2 =>tN 44 (ac .u64) (fun g_=>g_.2)<|tI 47 (ac .u64) sa.1 a<|fun xa3 =>tN 48 (ac .u64) (fun g_=>g_.2)<|tM 49 (ac .u64) (fun g_=>g_.2)<|.op 1000049 (mW 1000049 [(vU xa3)] 0 ((sa.1.set (a).toNat xa2).map (ac .u64)))<|.o _ (fun g_=>bv (ac .u64) g_.2)<|.o _ (fun _=>bA (ac .u64) sa.1 ((a).toNat) xa2)<|tI 50 (ac .u64) (sa.1.set (a).toNat xa2) (ae .i64 a sa.2)<|fun xa4 =>.op 1000050 (mW 1000050 [(vU xa4)] 0 (((sa.1.set (a).toNat xa2).set ((ae .i64 a sa.2)).toNat xa3).map (ac .u64)))<|.o _ (fun g_=>bv (ac .u64) g_.2)<|.o _ (fun _=>bA (ac .u64) (sa.1.set (a).toNat xa2) (((ae .i64 a sa.2)).toNat) xa3)<|.rg 11<|tS 55 (eN n 0 sa.2 a ((sa.1.set (a).toNat xa2).set ((ae .i64 a sa.2)).toNat xa3))<|fun ya5 =>.wk (wK [0,6,7,10] [] 1) l0<|.ret (.inl (ya5,(al .i64 sa.2 1))))<|
.wk (wK [] [] 1) l0<|.ret (.inr sa.1)
def i1 (a:Int) (b:Int) (oA:(List Int)) (y:(List Int)):AV×List Ob:=(.tup [],[.arr true 1 (y.map (ac .u64))])
theorem iu (n:Nat) (a:Int) (b:Int) (oA:(List Int)):sC (cz n a b oA) 90 [.mf 0,(vI a),(vI b)] [.arr true 1 (oA.map (ac .u64))] (i1 a b oA):=tD GX<|
.bind 3000004 (iter (fun s=>aY n a b s) n (oA,(gw .i64 (al .i64 (al .i64 b a) 1) 2)))<|fun t1 =>tX 3000004 (wK [0,6,7,8,9] [] 1) 90 (QO n a b) (fun g_=>g_.2)<|.bind 3000008 (iter (fun s=>aZ n a s) n (t1,(al .i64 (al .i64 b a) 1)))<|fun t2 =>tX 3000008 (wK [0,6,7,10] [] 1) 90 (QR n a) (fun g_=>g_.2)<|.ret t2
def Jv:List (Nat×PT):=[(1,(hZ [0,1,2,3,4,5,6,7,8]))]
def jB (a:Int) (b:Int) (oA:(List Int)) (oB:Int) (y:(Int×Int×Int)):AV×List Ob:=(.tup [(vI y.1),(vI y.2.1)],[.arr true 1 (oA.map (ac .u64)),.arr true 1 [[(vI y.2.2)]]])
theorem dp (n:Nat) (a:Int) (b:Int) (oA:(List Int)) (oB:Int):sC (bN n a b oA oB) 105 [.mf 0,(vI a),(vI b),.ptr (.O 1) 0 0] [.arr true 1 (oA.map (ac .u64)),.arr true 1 [[(vI oB)]]] (jB a b oA oB):=tD Jv<|
.rg 1<|tI 12 (ac .u64) oA b<|fun x1 =>tN 13 (ac .u64) (fun g_=>g_.2)<|tI 16 (ac .u64) oA a<|fun x2 =>tN 17 (ac .u64) (fun g_=>g_.2)<|.bind 18 (aR n x1 x2)<|fun y3 =>.ite 18 y3 (.op 18 (xL 18 (.v (.bool y3)) (vT))<|.o _ (fun g_=>(aI n x1 x2 y3 g_.1.2))<|.o _ (fun g_=>cB g_.2)<|.ret (b,a,(ae .i64 oB 1)))<|
.op 18 (xL 18 (.v (.bool y3)) (vF))<|.o _ (fun g_=>(aI n x1 x2 y3 g_.1.2))<|.o _ (fun g_=>cB g_.2)<|.ret (a,b,oB)
def jC (a:Int) (b:Int) (c:Int) (oA:(List Int)) (oB:Int) (y:(Int×Int)):AV×List Ob:=((vI y.1),[.arr true 1 (oA.map (ac .u64)),.arr true 1 [[(vI y.2)]]])
theorem dq (n:Nat) (a:Int) (b:Int) (c:Int) (oA:(List Int)) (oB:Int):sC (bO n a b c oA oB) 104 [.mf 0,(vI a),(vI b),(vI c),.ptr (.O 1) 0 0] [.arr true 1 (oA.map (ac .u64)),.arr true 1 [[(vI oB)]]] (jC a b c oA oB):=tD []<|
.rg 1<|tS 16 (dp n a b oA oB)<|fun y1 =>.rg 2<|tS 24 (dp n y1.2.1 c oA y1.2.2)<|fun y2 =>.rg 3<|tS 32 (dp n y1.1 y2.1 oA y2.2.2)<|fun y3 =>.ret (y3.2.1,y3.2.2)
def gr (a:Int) (oA:(List Int)) (oB:Int) (y:(Int×Int)):AV×List Ob:=((vI y.1),[.arr true 1 (oA.map (ac .u64)),.arr true 1 [[(vI y.2)]]])
theorem cp (n:Nat) (a:Int) (oA:(List Int)) (oB:Int):sC (bh n a oA oB) 103 [.mf 0,(vI a),.ptr (.O 1) 0 0] [.arr true 1 (oA.map (ac .u64)),.arr true 1 [[(vI oB)]]] (gr a oA oB):=tD []<|
.rg 1<|tS 14 (dq n (al .i64 a 1) a (ae .i64 a 1) oA oB)<|fun y1 =>.ret (y1.1,y1.2)
def ia (a:Int) (b:Int) (oA:(List Int)) (y:(Int×Int×Int)):AV×List Ob:=(.tup [(vI y.1),(vI y.2.1)],[.arr true 1 (oA.map (ac .u64)),.arr true 1 [[(vI y.2.2)]]])
theorem ei (n:Nat) (a:Int) (b:Int) (oA:(List Int)):sC (bM n a b oA) 92 [.mf 0,(vI a),(vI b)] [.arr true 1 (oA.map (ac .u64))] (ia a b oA):=tD []<|
.rg 6<|tB 32 (decide ((al .i64 b a)≥8)) (.rg 7<|tB 34 (decide ((al .i64 b a)≥50)) (.rg 8<|tS 37 (cp n (ae .i64 a (cf .i64 (gw .i64 (al .i64 b a) 4) 1)) oA 0)<|fun y3 =>.rg 9<|tS 40 (cp n (ae .i64 a (cf .i64 (gw .i64 (al .i64 b a) 4) 2)) oA y3.2)<|fun y4 =>.rg 10<|tS 43 (cp n (ae .i64 a (cf .i64 (gw .i64 (al .i64 b a) 4) 3)) oA y4.2)<|fun y5 =>.rg 11<|tS 48 (dq n y3.1 y4.1 y5.1 oA y5.2)<|fun y6 =>.rg 14<|tB 51 (y6.2==0) (.ret (y6.1,1,y6.2))<|
.rg 16<|tB 54 (y6.2==12) (.ret (y6.1,2,y6.2))<|
.ret (y6.1,0,y6.2))<|
.rg 11<|tS 48 (dq n (ae .i64 a (cf .i64 (gw .i64 (al .i64 b a) 4) 1)) (ae .i64 a (cf .i64 (gw .i64 (al .i64 b a) 4) 2)) (ae .i64 a (cf .i64 (gw .i64 (al .i64 b a) 4) 3)) oA 0)<|fun y3 =>.rg 14<|tB 51 (y3.2==0) (.ret (y3.1,1,y3.2))<|
.rg 16<|tB 54 (y3.2==12) (.ret (y3.1,2,y3.2))<|
.ret (y3.1,0,y3.2))<|
.ret ((ae .i64 a (cf .i64 (gw .i64 (al .i64 b a) 4) 2)),1,0)
def IE:List (Nat×PT):=[(3,(hZ [0,1,2,3,4,5,6,7,8,9,10,11,12,13,14,15]))]
noncomputable def QS:Code:=sub (aS Tryz.prog 93) [1,1,0,0]
def QT (sa:(List Int)×Int×Int):St:=bE 32 [(0,.mf 0),(6,(vI sa.2.1)),(7,(vI sa.2.2))] [] [.arr true 1 (sa.1.map (ac .u64))] 1
def QU (tt:((List Int))):Ex×St:=(.ex 0,bE 32 [] [] [.arr true 1 (tt.map (ac .u64))] 1)
theorem QV (n:Nat):lC (bw n) QS (QT) (QU):=tR IE 93 (fun _=>h_) fun sa =>
.rg 2<|tB 13 (decide (sa.2.1<sa.2.2)) (.rg 3<|tI 20 (ac .u64) sa.1 sa.2.2<|fun xa2 =>tN 21 (ac .u64) (fun g_=>g_.2)<|tI 24 (ac .u64) sa.1 sa.2.1<|fun xa3 =>tN 25 (ac .u64) (fun g_=>g_.2)<|tM 26 (ac .u64) (fun g_=>g_.2)<|.op 1000026 (mW 1000026 [(vU xa3)] 0 ((sa.1.set (sa.2.1).toNat xa2).map (ac .u64)))<|.o _ (fun g_=>bv (ac .u64) g_.2)<|.o _ (fun _=>bA (ac .u64) sa.1 ((sa.2.1).toNat) xa2)<|tI 27 (ac .u64) (sa.1.set (sa.2.1).toNat xa2) sa.2.2<|fun xa4 =>.op 1000027 (mW 1000027 [(vU xa4)] 0 (((sa.1.set (sa.2.1).toNat xa2).set (sa.2.2).toNat xa3).map (ac .u64)))<|.o _ (fun g_=>bv (ac .u64) g_.2)<|.o _ (fun _=>bA (ac .u64) (sa.1.set (sa.2.1).toNat xa2) ((sa.2.2).toNat) xa3)<|.wk (wK [0,6,7] [] 1) l0<|.ret (.inl (((sa.1.set (sa.2.1).toNat xa2).set (sa.2.2).toNat xa3),(ae .i64 sa.2.1 1),(al .i64 sa.2.2 1))))<|
.wk (wK [] [] 1) l0<|.ret (.inr sa.1)
def gZ (a:Int) (b:Int) (oA:(List Int)) (y:(List Int)):AV×List Ob:=(.tup [],[.arr true 1 (y.map (ac .u64))])
theorem gu (n:Nat) (a:Int) (b:Int) (oA:(List Int)):sC (cn n a b oA) 93 [.mf 0,(vI a),(vI b)] [.arr true 1 (oA.map (ac .u64))] (gZ a b oA):=tD IE<|
.bind 3000002 (iter (fun s=>bw n s) n (oA,a,(al .i64 b 1)))<|fun t1 =>tX 3000002 (wK [0,6,7] [] 1) 93 (QV n) (fun g_=>g_.2)<|.ret t1
def Cc:List (Nat×PT):=[(5,(hZ [0,1,2,3,4,5,6,7,8,9,10,11,12,13,14,15])),(11,(hZ [0,1,2,3,4,5,6,7,8,9,10,11,12,13,14,15,16,17])),(16,(hZ [0,1,2,3,4,5,6,7,8,9,10])),(17,(hZ [0,1,2,3,4,5,6,7,8,9,10,11,12,13,14,15,16,17])),(22,(hZ [0,1,2,3,4,5,6,7,8,9,10])),(23,(hZ [0,1,2,3,4,5,6,7,8,9,10,11,12,13,14,15,16,17]))]
noncomputable def Lz:Code:=sub (aS Tryz.prog 94) [1,1,0,1,0,0]
noncomputable def QW:Code:=sub Lz [1,0,0,0,0,0]
noncomputable def QX:Code:=sub Lz [1,0,0,1,1,1,1,0,1,0,1,0,0]
noncomputable def QY:Code:=sub Lz [1,0,0,1,1,1,1,1,1,0,1,0,0]
def QZ (a:Int) (b:Int) (sb:(List Int)×Int×Int):St:=bE 133 [(0,.mf 0),(1,(vI a)),(2,(vI b)),(7,(vI sb.2.1)),(8,(vI sb.2.2))] [] [.arr true 1 (sb.1.map (ac .u64))] 1
def Q1 (a:Int) (b:Int) (tt:((List Int)×Int×Int)):Ex×St:=(.ex 2,bE 133 [(0,.mf 0),(1,(vI a)),(2,(vI b)),(7,(vI tt.2.1)),(8,(vI tt.2.2))] [] [.arr true 1 (tt.1.map (ac .u64))] 1)
theorem Q2 (n:Nat) (a:Int) (b:Int):lC (aH n a b) QW (QZ a b) (Q1 a b):=tR Cc 94 (fun _=>h_) fun sb =>
.rg 5<|tB 20 (decide (sb.2.1<b)) (tI 23 (ac .u64) sb.1 sb.2.1<|fun xb2 =>tN 24 (ac .u64) (fun g_=>g_.2)<|tI 28 (ac .u64) sb.1 (al .i64 sb.2.1 1)<|fun xb3 =>tN 29 (ac .u64) (fun g_=>g_.2)<|tC 30 (aI n xb2 xb3)<|fun yb4 =>tB 32 (!yb4) (.wk (wK [0,1,2,7,8] [] 1) l0<|.ret (.inl (sb.1,(ae .i64 sb.2.1 1),sb.2.2)))<|
.wk (wK [0,1,2,7,8] [] 1) l0<|.ret (.inr (sb.1,sb.2.1,sb.2.2)))<|
.wk (wK [0,1,2,7,8] [] 1) l0<|.ret (.inr (sb.1,sb.2.1,sb.2.2))
def Q3 (a:Int) (b:Int) (sb:(List Int)×Int×Int×Int):St:=bE 133 [(0,.mf 0),(1,(vI a)),(2,(vI b)),(7,(vI sb.2.1)),(8,(vI sb.2.2.1)),(9,(vI sb.2.2.2))] [] [.arr true 1 (sb.1.map (ac .u64))] 1
def LO (a:Int) (b:Int) (tt:((List Int)×Int×Int)):Ex×St:=(.ex 4,bE 133 [(0,.mf 0),(1,(vI a)),(2,(vI b)),(7,(vI tt.2.1)),(8,(vI tt.2.2))] [] [.arr true 1 (tt.1.map (ac .u64))] 1)
theorem LQ (n:Nat) (a:Int) (b:Int):lC (ay n a b) QX (Q3 a b) (LO a b):=tR Cc 94 (fun _=>h_) fun sb =>
.rg 14<|tB 65 (decide (sb.2.2.2≥1)) (.rg 16<|tI 70 (ac .u64) sb.1 sb.2.2.2<|fun xb2 =>tN 71 (ac .u64) (fun g_=>g_.2)<|tI 75 (ac .u64) sb.1 (al .i64 sb.2.2.2 1)<|fun xb3 =>tN 76 (ac .u64) (fun g_=>g_.2)<|tC 77 (aI n xb2 xb3)<|fun yb4 =>tB 78 (!yb4) (.wk (wK [0,1,2,7,8] [] 1) l0<|.ret (.inr (sb.1,sb.2.1,sb.2.2.1)))<|
.rg 17<|tM 87 (ac .u64) (fun g_=>g_.1.1.2)<|tN 88 (ac .u64) (fun g_=>g_.1.1.2)<|tM 91 (ac .u64) (fun g_=>g_.1.1.1.2)<|tN 92 (ac .u64) (fun g_=>g_.1.1.1.2)<|tM 93 (ac .u64) (fun g_=>g_.1.1.1.2)<|.op 1000093 (mW 1000093 [(vU xb2)] 0 ((sb.1.set (sb.2.2.2).toNat xb3).map (ac .u64)))<|.o _ (fun g_=>bv (ac .u64) g_.1.1.1.2)<|.o _ (fun _=>bA (ac .u64) sb.1 ((sb.2.2.2).toNat) xb3)<|tI 94 (ac .u64) (sb.1.set (sb.2.2.2).toNat xb3) (al .i64 sb.2.2.2 1)<|fun xb6 =>.op 1000094 (mW 1000094 [(vU xb6)] 0 (((sb.1.set (sb.2.2.2).toNat xb3).set ((al .i64 sb.2.2.2 1)).toNat xb2).map (ac .u64)))<|.o _ (fun g_=>bv (ac .u64) g_.2)<|.o _ (fun _=>bA (ac .u64) (sb.1.set (sb.2.2.2).toNat xb3) (((al .i64 sb.2.2.2 1)).toNat) xb2)<|.wk (wK [0,1,2,7,8,9] [] 1) l0<|.ret (.inl (((sb.1.set (sb.2.2.2).toNat xb3).set ((al .i64 sb.2.2.2 1)).toNat xb2),sb.2.1,sb.2.2.1,(al .i64 sb.2.2.2 1))))<|
.wk (wK [0,1,2,7,8] [] 1) l0<|.ret (.inr (sb.1,sb.2.1,sb.2.2.1))
def LR (a:Int) (b:Int) (sb:(List Int)×Int×Int×Int):St:=bE 133 [(0,.mf 0),(1,(vI a)),(2,(vI b)),(7,(vI sb.2.2.1)),(8,(vI sb.2.2.2)),(10,(vI sb.2.1))] [] [.arr true 1 (sb.1.map (ac .u64))] 1
def LS (a:Int) (b:Int) (tt:((List Int)×Int×Int)):Ex×St:=(.ex 6,bE 133 [(0,.mf 0),(1,(vI a)),(2,(vI b)),(7,(vI tt.2.1)),(8,(vI tt.2.2))] [] [.arr true 1 (tt.1.map (ac .u64))] 1)
theorem Ko (n:Nat) (a:Int) (b:Int):lC (av n a b) QY (LR a b) (LS a b):=tR Cc 94 (fun _=>h_) fun sb =>
.rg 20<|tB 103 (decide (sb.2.1<b)) (.rg 22<|tI 108 (ac .u64) sb.1 sb.2.1<|fun xb2 =>tN 109 (ac .u64) (fun g_=>g_.2)<|tI 113 (ac .u64) sb.1 (al .i64 sb.2.1 1)<|fun xb3 =>tN 114 (ac .u64) (fun g_=>g_.2)<|tC 115 (aI n xb2 xb3)<|fun yb4 =>tB 116 (!yb4) (.wk (wK [0,1,2,7,8] [] 1) l0<|.ret (.inr (sb.1,sb.2.2.1,sb.2.2.2)))<|
.rg 23<|tM 125 (ac .u64) (fun g_=>g_.1.1.2)<|tN 126 (ac .u64) (fun g_=>g_.1.1.2)<|tM 129 (ac .u64) (fun g_=>g_.1.1.1.2)<|tN 130 (ac .u64) (fun g_=>g_.1.1.1.2)<|tM 131 (ac .u64) (fun g_=>g_.1.1.1.2)<|.op 1000131 (mW 1000131 [(vU xb2)] 0 ((sb.1.set (sb.2.1).toNat xb3).map (ac .u64)))<|.o _ (fun g_=>bv (ac .u64) g_.1.1.1.2)<|.o _ (fun _=>bA (ac .u64) sb.1 ((sb.2.1).toNat) xb3)<|tI 132 (ac .u64) (sb.1.set (sb.2.1).toNat xb3) (al .i64 sb.2.1 1)<|fun xb6 =>.op 1000132 (mW 1000132 [(vU xb6)] 0 (((sb.1.set (sb.2.1).toNat xb3).set ((al .i64 sb.2.1 1)).toNat xb2).map (ac .u64)))<|.o _ (fun g_=>bv (ac .u64) g_.2)<|.o _ (fun _=>bA (ac .u64) (sb.1.set (sb.2.1).toNat xb3) (((al .i64 sb.2.1 1)).toNat) xb2)<|.wk (wK [0,1,2,7,8,10] [] 1) l0<|.ret (.inl (((sb.1.set (sb.2.1).toNat xb3).set ((al .i64 sb.2.1 1)).toNat xb2),(ae .i64 sb.2.1 1),sb.2.2.1,sb.2.2.2)))<|
.wk (wK [0,1,2,7,8] [] 1) l0<|.ret (.inr (sb.1,sb.2.2.1,sb.2.2.2))
def LU (a:Int) (b:Int) (sa:(List Int)×Int×Int):St:=bE 133 [(0,.mf 0),(1,(vI a)),(2,(vI b)),(7,(vI sa.2.1)),(8,(vI sa.2.2))] [] [.arr true 1 (sa.1.map (ac .u64))] 1
def LV (a:Int) (b:Int) (t0:(((List Int))⊕((List Int)×Bool))):Ex×St:=match t0 with | .inl tt=>(.ex 0,bE 133 [] [] [.arr true 1 (tt.map (ac .u64))] 1) | .inr tt=>(.ret,bE 133 [(6,.v (.bool tt.2))] [] [.arr true 1 (tt.1.map (ac .u64))] 1)
theorem Kp (n:Nat) (a:Int) (b:Int):lC (az n a b) Lz (LU a b) (LV a b):=tR Cc 94 (uI (fun _=>h_) fun _=>tu) fun sa =>
.rg 3<|tB 14 (decide (sa.2.2<5)) (.bind 3000005 (iter (fun s=>aH n a b s) n (sa.1,sa.2.1,sa.2.2))<|fun ta2 =>tX 3000005 (wK [0,1,2,7,8] [] 1) 94 (Q2 n a b) (fun g_=>g_.2)<|.rg 7<|tB 37 (ta2.2.1==b) (.wk (wK [6] [] 1) l0<|.ret (.inr (.inr (ta2.1,true))))<|
.rg 9<|tB 41 (decide ((al .i64 b a)<50)) (.wk (wK [6] [] 1) l0<|.ret (.inr (.inr (ta2.1,false))))<|
.rg 11<|tI 50 (ac .u64) ta2.1 (al .i64 ta2.2.1 1)<|fun xa5 =>tN 51 (ac .u64) (fun g_=>g_.2)<|tI 54 (ac .u64) ta2.1 ta2.2.1<|fun xa6 =>tN 55 (ac .u64) (fun g_=>g_.2)<|tM 56 (ac .u64) (fun g_=>g_.2)<|.op 1000056 (mW 1000056 [(vU xa6)] 0 ((ta2.1.set (ta2.2.1).toNat xa5).map (ac .u64)))<|.o _ (fun g_=>bv (ac .u64) g_.2)<|.o _ (fun _=>bA (ac .u64) ta2.1 ((ta2.2.1).toNat) xa5)<|tI 57 (ac .u64) (ta2.1.set (ta2.2.1).toNat xa5) (al .i64 ta2.2.1 1)<|fun xa7 =>.op 1000057 (mW 1000057 [(vU xa7)] 0 (((ta2.1.set (ta2.2.1).toNat xa5).set ((al .i64 ta2.2.1 1)).toNat xa6).map (ac .u64)))<|.o _ (fun g_=>bv (ac .u64) g_.2)<|.o _ (fun _=>bA (ac .u64) (ta2.1.set (ta2.2.1).toNat xa5) (((al .i64 ta2.2.1 1)).toNat) xa6)<|.rg 12<|tB 61 (decide ((al .i64 ta2.2.1 a)≥2)) (.bind 3000014 (iter (fun s=>ay n a b s) n (((ta2.1.set (ta2.2.1).toNat xa5).set ((al .i64 ta2.2.1 1)).toNat xa6),ta2.2.1,ta2.2.2,(al .i64 ta2.2.1 1)))<|fun ta9 =>tX 3000014 (wK [0,1,2,7,8,9] [] 1) 94 (LQ n a b) (fun g_=>g_.2)<|.rg 18<|tB 98 (decide ((al .i64 b ta9.2.1)≥2)) (.bind 3000020 (iter (fun s=>av n a b s) n (ta9.1,(ae .i64 ta9.2.1 1),ta9.2.1,ta9.2.2))<|fun ta11 =>tX 3000020 (wK [0,1,2,7,8,10] [] 1) 94 (Ko n a b) (fun g_=>g_.2)<|.wk (wK [0,1,2,7,8] [] 1) l0<|.ret (.inl (ta11.1,ta11.2.1,(ae .i64 ta11.2.2 1))))<|
.wk (wK [0,1,2,7,8] [] 1) l0<|.ret (.inl (ta9.1,ta9.2.1,(ae .i64 ta9.2.2 1))))<|
.rg 18<|tB 98 (decide ((al .i64 b ta2.2.1)≥2)) (.bind 3000020 (iter (fun s=>av n a b s) n (((ta2.1.set (ta2.2.1).toNat xa5).set ((al .i64 ta2.2.1 1)).toNat xa6),(ae .i64 ta2.2.1 1),ta2.2.1,ta2.2.2))<|fun ta10 =>tX 3000020 (wK [0,1,2,7,8,10] [] 1) 94 (Ko n a b) (fun g_=>g_.2)<|.wk (wK [0,1,2,7,8] [] 1) l0<|.ret (.inl (ta10.1,ta10.2.1,(ae .i64 ta10.2.2 1))))<|
.wk (wK [0,1,2,7,8] [] 1) l0<|.ret (.inl (((ta2.1.set (ta2.2.1).toNat xa5).set ((al .i64 ta2.2.1 1)).toNat xa6),ta2.2.1,(ae .i64 ta2.2.2 1))))<|
.wk (wK [] [] 1) l0<|.ret (.inr (.inl sa.1))
def fw (a:Int) (b:Int) (oA:(List Int)) (y:(Bool×(List Int))):AV×List Ob:=(.v (.bool y.1),[.arr true 1 (y.2.map (ac .u64))])
theorem cM (n:Nat) (a:Int) (b:Int) (oA:(List Int)):sC (bg n a b oA) 94 [.mf 0,(vI a),(vI b)] [.arr true 1 (oA.map (ac .u64))] (fw a b oA):=tD Cc<|
.bind 3000003 (iter (fun s=>az n a b s) n (oA,(ae .i64 a 1),0))<|fun t1 =>.alt 3000003 t1 (fun w2 =>tX 3000003 (wK [0,1,2,7,8] [] 1) 94 (Kp n a b) (fun g_=>(eS g_.1.2 g_.2))<|.ret (false,w2))<|
fun w2 =>tX 3000003 (wK [0,1,2,7,8] [] 1) 94 (Kp n a b) (fun g_=>(eS g_.1.2 g_.2))<|.ret (w2.2,w2.1)
def Eo:List (Nat×PT):=[(1,(hZ [0,1,2,3,4,5,6,7,8,9,10,11,12,13,14,15])),(3,(hZ [0,1,2,3,4,5,6,7,8,9,10,11,12,13,14])),(5,(hZ [0,1,2,3,4,5,6,7,8,9,10,11,12,13])),(8,(hZ [0,1,2,3,4,5,6,7,8,9,10,11,12,13,14,15]))]
noncomputable def Jw:Code:=sub (aS Tryz.prog 96) [1,1,1,0,0,0]
noncomputable def LW:Code:=sub Jw [0,0,0,0]
noncomputable def LX:Code:=sub Jw [0,1,0,0,0]
def LY (a:Int) (sb:(List Int)×Int×Int):St:=bE 84 [(0,.mf 0),(1,(vI a)),(9,(vI sb.2.2)),(10,(vI sb.2.1))] [] [.arr true 1 (sb.1.map (ac .u64))] 1
def LZ (a:Int) (tt:((List Int)×Int×Int)):Ex×St:=(.ex 2,bE 84 [(0,.mf 0),(1,(vI a)),(9,(vI tt.2.2)),(10,(vI tt.2.1))] [] [.arr true 1 (tt.1.map (ac .u64))] 1)
theorem L0 (n:Nat) (a:Int):lC (bo n a) LW (LY a) (LZ a):=tR Eo 96 (fun _=>h_) fun sb =>
.rg 3<|tB 32 (decide (sb.2.2≤sb.2.1)) (tI 35 (ac .u64) sb.1 a<|fun xb2 =>tN 36 (ac .u64) (fun g_=>g_.2)<|tI 39 (ac .u64) sb.1 sb.2.2<|fun xb3 =>tN 40 (ac .u64) (fun g_=>g_.2)<|tC 41 (aI n xb2 xb3)<|fun yb4 =>tB 43 (!yb4) (.wk (wK [0,1,9,10] [] 1) l0<|.ret (.inl (sb.1,sb.2.1,(ae .i64 sb.2.2 1))))<|
.wk (wK [0,1,9,10] [] 1) l0<|.ret (.inr (sb.1,sb.2.1,sb.2.2)))<|
.wk (wK [0,1,9,10] [] 1) l0<|.ret (.inr (sb.1,sb.2.1,sb.2.2))
def L1 (a:Int) (sb:(List Int)×Int×Int):St:=bE 84 [(0,.mf 0),(1,(vI a)),(9,(vI sb.2.2)),(10,(vI sb.2.1))] [] [.arr true 1 (sb.1.map (ac .u64))] 1
def L2 (a:Int) (tt:((List Int)×Int×Int)):Ex×St:=(.ex 4,bE 84 [(0,.mf 0),(1,(vI a)),(9,(vI tt.2.2)),(10,(vI tt.2.1))] [] [.arr true 1 (tt.1.map (ac .u64))] 1)
theorem L3 (n:Nat) (a:Int):lC (bp n a) LX (L1 a) (L2 a):=tR Eo 96 (fun _=>h_) fun sb =>
.rg 5<|tB 49 (decide (sb.2.2≤sb.2.1)) (tI 52 (ac .u64) sb.1 a<|fun xb2 =>tN 53 (ac .u64) (fun g_=>g_.2)<|tI 56 (ac .u64) sb.1 sb.2.1<|fun xb3 =>tN 57 (ac .u64) (fun g_=>g_.2)<|tC 58 (aI n xb2 xb3)<|fun yb4 =>tB 59 yb4 (.wk (wK [0,1,9,10] [] 1) l0<|.ret (.inl (sb.1,(al .i64 sb.2.1 1),sb.2.2)))<|
.wk (wK [0,1,9,10] [] 1) l0<|.ret (.inr (sb.1,sb.2.1,sb.2.2)))<|
.wk (wK [0,1,9,10] [] 1) l0<|.ret (.inr (sb.1,sb.2.1,sb.2.2))
def L4 (a:Int) (sa:(List Int)×Int×Int):St:=bE 84 [(0,.mf 0),(1,(vI a)),(9,(vI sa.2.2)),(10,(vI sa.2.1))] [] [.arr true 1 (sa.1.map (ac .u64))] 1
def L5 (a:Int) (tt:((List Int)×Int)):Ex×St:=(.ex 0,bE 84 [(9,(vI tt.2))] [] [.arr true 1 (tt.1.map (ac .u64))] 1)
theorem L6 (n:Nat) (a:Int):lC (aV n a) Jw (L4 a) (L5 a):=tR Eo 96 (fun _=>h_) fun sa =>
.bind 3000003 (iter (fun s=>bo n a s) n (sa.1,sa.2.1,sa.2.2))<|fun ta1 =>tX 3000003 (wK [0,1,9,10] [] 1) 96 (L0 n a) (fun g_=>g_.2)<|.bind 3000005 (iter (fun s=>bp n a s) n (ta1.1,ta1.2.1,ta1.2.2))<|fun ta2 =>tX 3000005 (wK [0,1,9,10] [] 1) 96 (L3 n a) (fun g_=>g_.2)<|.rg 7<|tB 64 (decide (ta2.2.2>ta2.2.1)) (.wk (wK [9] [] 1) l0<|.ret (.inr (ta2.1,ta2.2.2)))<|
.rg 8<|tI 71 (ac .u64) ta2.1 ta2.2.1<|fun xa4 =>tN 72 (ac .u64) (fun g_=>g_.2)<|tI 75 (ac .u64) ta2.1 ta2.2.2<|fun xa5 =>tN 76 (ac .u64) (fun g_=>g_.2)<|tM 77 (ac .u64) (fun g_=>g_.2)<|.op 1000077 (mW 1000077 [(vU xa5)] 0 ((ta2.1.set (ta2.2.2).toNat xa4).map (ac .u64)))<|.o _ (fun g_=>bv (ac .u64) g_.2)<|.o _ (fun _=>bA (ac .u64) ta2.1 ((ta2.2.2).toNat) xa4)<|tI 78 (ac .u64) (ta2.1.set (ta2.2.2).toNat xa4) ta2.2.1<|fun xa6 =>.op 1000078 (mW 1000078 [(vU xa6)] 0 (((ta2.1.set (ta2.2.2).toNat xa4).set (ta2.2.1).toNat xa5).map (ac .u64)))<|.o _ (fun g_=>bv (ac .u64) g_.2)<|.o _ (fun _=>bA (ac .u64) (ta2.1.set (ta2.2.2).toNat xa4) ((ta2.2.1).toNat) xa5)<|.wk (wK [0,1,9,10] [] 1) l0<|.ret (.inl (((ta2.1.set (ta2.2.2).toNat xa4).set (ta2.2.1).toNat xa5),(al .i64 ta2.2.1 1),(ae .i64 ta2.2.2 1)))
def gv (a:Int) (b:Int) (pivot:Int) (oA:(List Int)) (y:(Int×(List Int))):AV×List Ob:=((vI y.1),[.arr true 1 (y.2.map (ac .u64))])
theorem f6 (n:Nat) (a:Int) (b:Int) (pivot:Int) (oA:(List Int)):sC (bY n a b pivot oA) 96 [.mf 0,(vI a),(vI b),(vI pivot)] [.arr true 1 (oA.map (ac .u64))] (gv a b pivot oA):=tD Eo<|
.rg 1<|tI 17 (ac .u64) oA pivot<|fun x1 =>tN 18 (ac .u64) (fun g_=>g_.2)<|tI 21 (ac .u64) oA a<|fun x2 =>tN 22 (ac .u64) (fun g_=>g_.2)<|tM 23 (ac .u64) (fun g_=>g_.2)<|.op 1000023 (mW 1000023 [(vU x2)] 0 ((oA.set (a).toNat x1).map (ac .u64)))<|.o _ (fun g_=>bv (ac .u64) g_.2)<|.o _ (fun _=>bA (ac .u64) oA ((a).toNat) x1)<|tI 24 (ac .u64) (oA.set (a).toNat x1) pivot<|fun x3 =>.op 1000024 (mW 1000024 [(vU x3)] 0 (((oA.set (a).toNat x1).set (pivot).toNat x2).map (ac .u64)))<|.o _ (fun g_=>bv (ac .u64) g_.2)<|.o _ (fun _=>bA (ac .u64) (oA.set (a).toNat x1) ((pivot).toNat) x2)<|.bind 3000003 (iter (fun s=>aV n a s) n (((oA.set (a).toNat x1).set (pivot).toNat x2),(al .i64 b 1),(ae .i64 a 1)))<|fun t4 =>tX 3000003 (wK [0,1,9,10] [] 1) 96 (L6 n a) (fun g_=>g_.2)<|.ret (t4.2,t4.1)
def zE:List (Nat×PT):=[(1,(hZ [0,1,2,3,4,5,6,7,8,9,10,11,12,13,14,15])),(3,(hZ [0,1,2,3,4,5,6,7,8,9,10,11,12,13])),(5,(hZ [0,1,2,3,4,5,6,7,8,9,10,11,12,13,14])),(8,(hZ [0,1,2,3,4,5,6,7,8,9,10,11,12,13,14,15])),(10,(hZ [0,1,2,3,4,5,6,7,8,9,10,11,12,13,14,15])),(13,(hZ [0,1,2,3,4,5,6,7,8,9,10,11,12,13])),(15,(hZ [0,1,2,3,4,5,6,7,8,9,10,11,12,13,14])),(18,(hZ [0,1,2,3,4,5,6,7,8,9,10,11,12,13,14,15])),(21,(hZ [0,1,2,3,4,5,6,7,8,9,10,11,12,13,14,15]))]
noncomputable def L8:Code:=sub (aS Tryz.prog 97) [1,1,1,0,0,0]
noncomputable def L9:Code:=sub (aS Tryz.prog 97) [1,1,1,1,0,0,0]
noncomputable def Jx:Code:=sub (aS Tryz.prog 97) [1,1,1,1,1,1,1,1,1,0,0,0]
noncomputable def L_:Code:=sub Jx [0,0,0,0]
noncomputable def Ma:Code:=sub Jx [0,1,0,0,0]
def Mb (a:Int) (b:Int) (pivot:Int) (oA:(List Int)) (x1:Int) (x2:Int) (sa:Int):St:=bE 168 [(0,.mf 0),(1,(vI a)),(10,(vI sa)),(11,(vI (al .i64 b 1)))] [] [.arr true 1 (((oA.set (a).toNat x1).set (pivot).toNat x2).map (ac .u64))] 1
def Mc (a:Int) (b:Int) (pivot:Int) (oA:(List Int)) (x1:Int) (x2:Int) (tt:Int):Ex×St:=(.ex 0,bE 168 [(0,.mf 0),(1,(vI a)),(10,(vI tt)),(11,(vI (al .i64 b 1)))] [] [.arr true 1 (((oA.set (a).toNat x1).set (pivot).toNat x2).map (ac .u64))] 1)
theorem Md (n:Nat) (a:Int) (b:Int) (pivot:Int) (oA:(List Int)) (x1:Int) (x2:Int):lC (bG n a b pivot oA x1 x2) L8 (Mb a b pivot oA x1 x2) (Mc a b pivot oA x1 x2):=tR zE 97 (fun _=>h_) fun sa =>
.rg 3<|tB 33 (decide (sa≤(al .i64 b 1))) (tI 36 (ac .u64) ((oA.set (a).toNat x1).set (pivot).toNat x2) sa<|fun xa2 =>tN 37 (ac .u64) (fun g_=>g_.2)<|tI 40 (ac .u64) ((oA.set (a).toNat x1).set (pivot).toNat x2) a<|fun xa3 =>tN 41 (ac .u64) (fun g_=>g_.2)<|tC 42 (aI n xa2 xa3)<|fun ya4 =>tB 43 ya4 (.wk (wK [0,1,10,11] [] 1) l0<|.ret (.inl (ae .i64 sa 1)))<|
.wk (wK [0,1,10,11] [] 1) l0<|.ret (.inr sa))<|
.wk (wK [0,1,10,11] [] 1) l0<|.ret (.inr sa)
def Me (a:Int) (pivot:Int) (oA:(List Int)) (x1:Int) (x2:Int) (t4:Int) (sa:Int):St:=bE 168 [(0,.mf 0),(1,(vI a)),(10,(vI t4)),(11,(vI sa))] [] [.arr true 1 (((oA.set (a).toNat x1).set (pivot).toNat x2).map (ac .u64))] 1
def Mf (a:Int) (pivot:Int) (oA:(List Int)) (x1:Int) (x2:Int) (t4:Int) (tt:Int):Ex×St:=(.ex 2,bE 168 [(0,.mf 0),(1,(vI a)),(10,(vI t4)),(11,(vI tt))] [] [.arr true 1 (((oA.set (a).toNat x1).set (pivot).toNat x2).map (ac .u64))] 1)
theorem Mg (n:Nat) (a:Int) (pivot:Int) (oA:(List Int)) (x1:Int) (x2:Int) (t4:Int):lC (bH n a pivot oA x1 x2 t4) L9 (Me a pivot oA x1 x2 t4) (Mf a pivot oA x1 x2 t4):=tR zE 97 (fun _=>h_) fun sa =>
.rg 5<|tB 49 (decide (t4≤sa)) (tI 52 (ac .u64) ((oA.set (a).toNat x1).set (pivot).toNat x2) sa<|fun xa2 =>tN 53 (ac .u64) (fun g_=>g_.2)<|tI 56 (ac .u64) ((oA.set (a).toNat x1).set (pivot).toNat x2) a<|fun xa3 =>tN 57 (ac .u64) (fun g_=>g_.2)<|tC 58 (aI n xa2 xa3)<|fun ya4 =>tB 60 (!ya4) (.wk (wK [0,1,10,11] [] 1) l0<|.ret (.inl (al .i64 sa 1)))<|
.wk (wK [0,1,10,11] [] 1) l0<|.ret (.inr sa))<|
.wk (wK [0,1,10,11] [] 1) l0<|.ret (.inr sa)
def Mh (a:Int) (sb:(List Int)×Int×Int):St:=bE 168 [(0,.mf 0),(1,(vI a)),(10,(vI sb.2.1)),(11,(vI sb.2.2))] [] [.arr true 1 (sb.1.map (ac .u64))] 1
def Mi (a:Int) (tt:((List Int)×Int×Int)):Ex×St:=(.ex 6,bE 168 [(0,.mf 0),(1,(vI a)),(10,(vI tt.2.1)),(11,(vI tt.2.2))] [] [.arr true 1 (tt.1.map (ac .u64))] 1)
theorem Mj (n:Nat) (a:Int):lC (bI n a) L_ (Mh a) (Mi a):=tR zE 97 (fun _=>h_) fun sb =>
.rg 13<|tB 102 (decide (sb.2.1≤sb.2.2)) (tI 105 (ac .u64) sb.1 sb.2.1<|fun xb2 =>tN 106 (ac .u64) (fun g_=>g_.2)<|tI 109 (ac .u64) sb.1 a<|fun xb3 =>tN 110 (ac .u64) (fun g_=>g_.2)<|tC 111 (aI n xb2 xb3)<|fun yb4 =>tB 112 yb4 (.wk (wK [0,1,10,11] [] 1) l0<|.ret (.inl (sb.1,(ae .i64 sb.2.1 1),sb.2.2)))<|
.wk (wK [0,1,10,11] [] 1) l0<|.ret (.inr (sb.1,sb.2.1,sb.2.2)))<|
.wk (wK [0,1,10,11] [] 1) l0<|.ret (.inr (sb.1,sb.2.1,sb.2.2))
def Mk (a:Int) (sb:(List Int)×Int×Int):St:=bE 168 [(0,.mf 0),(1,(vI a)),(10,(vI sb.2.1)),(11,(vI sb.2.2))] [] [.arr true 1 (sb.1.map (ac .u64))] 1
def Ml (a:Int) (tt:((List Int)×Int×Int)):Ex×St:=(.ex 8,bE 168 [(0,.mf 0),(1,(vI a)),(10,(vI tt.2.1)),(11,(vI tt.2.2))] [] [.arr true 1 (tt.1.map (ac .u64))] 1)
theorem Mm (n:Nat) (a:Int):lC (bJ n a) Ma (Mk a) (Ml a):=tR zE 97 (fun _=>h_) fun sb =>
.rg 15<|tB 118 (decide (sb.2.1≤sb.2.2)) (tI 121 (ac .u64) sb.1 sb.2.2<|fun xb2 =>tN 122 (ac .u64) (fun g_=>g_.2)<|tI 125 (ac .u64) sb.1 a<|fun xb3 =>tN 126 (ac .u64) (fun g_=>g_.2)<|tC 127 (aI n xb2 xb3)<|fun yb4 =>tB 129 (!yb4) (.wk (wK [0,1,10,11] [] 1) l0<|.ret (.inl (sb.1,sb.2.1,(al .i64 sb.2.2 1))))<|
.wk (wK [0,1,10,11] [] 1) l0<|.ret (.inr (sb.1,sb.2.1,sb.2.2)))<|
.wk (wK [0,1,10,11] [] 1) l0<|.ret (.inr (sb.1,sb.2.1,sb.2.2))
def Mn (a:Int) (sa:(List Int)×Int×Int):St:=bE 168 [(0,.mf 0),(1,(vI a)),(10,(vI sa.2.1)),(11,(vI sa.2.2))] [] [.arr true 1 (sa.1.map (ac .u64))] 1
def Mo (a:Int) (tt:((List Int)×Int)):Ex×St:=(.ex 4,bE 168 [(0,.mf 0),(1,(vI a)),(11,(vI tt.2))] [] [.arr true 1 (tt.1.map (ac .u64))] 1)
theorem Mp (n:Nat) (a:Int):lC (bj n a) Jx (Mn a) (Mo a):=tR zE 97 (fun _=>h_) fun sa =>
.bind 3000013 (iter (fun s=>bI n a s) n (sa.1,sa.2.1,sa.2.2))<|fun ta1 =>tX 3000013 (wK [0,1,10,11] [] 1) 97 (Mj n a) (fun g_=>g_.2)<|.bind 3000015 (iter (fun s=>bJ n a s) n (ta1.1,ta1.2.1,ta1.2.2))<|fun ta2 =>tX 3000015 (wK [0,1,10,11] [] 1) 97 (Mm n a) (fun g_=>g_.2)<|.rg 17<|tB 134 (decide (ta2.2.1>ta2.2.2)) (.wk (wK [0,1,11] [] 1) l0<|.ret (.inr (ta2.1,ta2.2.2)))<|
.rg 18<|tI 141 (ac .u64) ta2.1 ta2.2.2<|fun xa4 =>tN 142 (ac .u64) (fun g_=>g_.2)<|tI 145 (ac .u64) ta2.1 ta2.2.1<|fun xa5 =>tN 146 (ac .u64) (fun g_=>g_.2)<|tM 147 (ac .u64) (fun g_=>g_.2)<|.op 1000147 (mW 1000147 [(vU xa5)] 0 ((ta2.1.set (ta2.2.1).toNat xa4).map (ac .u64)))<|.o _ (fun g_=>bv (ac .u64) g_.2)<|.o _ (fun _=>bA (ac .u64) ta2.1 ((ta2.2.1).toNat) xa4)<|tI 148 (ac .u64) (ta2.1.set (ta2.2.1).toNat xa4) ta2.2.2<|fun xa6 =>.op 1000148 (mW 1000148 [(vU xa6)] 0 (((ta2.1.set (ta2.2.1).toNat xa4).set (ta2.2.2).toNat xa5).map (ac .u64)))<|.o _ (fun g_=>bv (ac .u64) g_.2)<|.o _ (fun _=>bA (ac .u64) (ta2.1.set (ta2.2.1).toNat xa4) ((ta2.2.2).toNat) xa5)<|.wk (wK [0,1,10,11] [] 1) l0<|.ret (.inl (((ta2.1.set (ta2.2.1).toNat xa4).set (ta2.2.2).toNat xa5),(ae .i64 ta2.2.1 1),(al .i64 ta2.2.2 1)))
def iF (a:Int) (b:Int) (pivot:Int) (oA:(List Int)) (y:(Int×Bool×(List Int))):AV×List Ob:=(.tup [(vI y.1),.v (.bool y.2.1)],[.arr true 1 (y.2.2.map (ac .u64))])
theorem ib (n:Nat) (a:Int) (b:Int) (pivot:Int) (oA:(List Int)):sC (cw n a b pivot oA) 97 [.mf 0,(vI a),(vI b),(vI pivot)] [.arr true 1 (oA.map (ac .u64))] (iF a b pivot oA):=tD zE<|
.rg 1<|tI 18 (ac .u64) oA pivot<|fun x1 =>tN 19 (ac .u64) (fun g_=>g_.2)<|tI 22 (ac .u64) oA a<|fun x2 =>tN 23 (ac .u64) (fun g_=>g_.2)<|tM 24 (ac .u64) (fun g_=>g_.2)<|.op 1000024 (mW 1000024 [(vU x2)] 0 ((oA.set (a).toNat x1).map (ac .u64)))<|.o _ (fun g_=>bv (ac .u64) g_.2)<|.o _ (fun _=>bA (ac .u64) oA ((a).toNat) x1)<|tI 25 (ac .u64) (oA.set (a).toNat x1) pivot<|fun x3 =>.op 1000025 (mW 1000025 [(vU x3)] 0 (((oA.set (a).toNat x1).set (pivot).toNat x2).map (ac .u64)))<|.o _ (fun g_=>bv (ac .u64) g_.2)<|.o _ (fun _=>bA (ac .u64) (oA.set (a).toNat x1) ((pivot).toNat) x2)<|.bind 3000003 (iter (fun s=>bG n a b pivot oA x1 x2 s) n (ae .i64 a 1))<|fun t4 =>tX 3000003 (wK [0,1,10,11] [] 1) 97 (Md n a b pivot oA x1 x2) (fun g_=>g_.2)<|.bind 3000005 (iter (fun s=>bH n a pivot oA x1 x2 t4 s) n (al .i64 b 1))<|fun t5 =>tX 3000005 (wK [0,1,10,11] [] 1) 97 (Mg n a pivot oA x1 x2 t4) (fun g_=>g_.2)<|.rg 7<|tB 65 (decide (t4>t5)) (.rg 8<|tI 72 (ac .u64) ((oA.set (a).toNat x1).set (pivot).toNat x2) a<|fun x7 =>tN 73 (ac .u64) (fun g_=>g_.2)<|tI 76 (ac .u64) ((oA.set (a).toNat x1).set (pivot).toNat x2) t5<|fun x8 =>tN 77 (ac .u64) (fun g_=>g_.2)<|tM 78 (ac .u64) (fun g_=>g_.2)<|.op 1000078 (mW 1000078 [(vU x8)] 0 ((((oA.set (a).toNat x1).set (pivot).toNat x2).set (t5).toNat x7).map (ac .u64)))<|.o _ (fun g_=>bv (ac .u64) g_.2)<|.o _ (fun _=>bA (ac .u64) ((oA.set (a).toNat x1).set (pivot).toNat x2) ((t5).toNat) x7)<|tI 79 (ac .u64) (((oA.set (a).toNat x1).set (pivot).toNat x2).set (t5).toNat x7) a<|fun x9 =>.op 1000079 (mW 1000079 [(vU x9)] 0 (((((oA.set (a).toNat x1).set (pivot).toNat x2).set (t5).toNat x7).set (a).toNat x8).map (ac .u64)))<|.o _ (fun g_=>bv (ac .u64) g_.2)<|.o _ (fun _=>bA (ac .u64) (((oA.set (a).toNat x1).set (pivot).toNat x2).set (t5).toNat x7) ((a).toNat) x8)<|.ret (t5,true,((((oA.set (a).toNat x1).set (pivot).toNat x2).set (t5).toNat x7).set (a).toNat x8)))<|
.rg 10<|tI 87 (ac .u64) ((oA.set (a).toNat x1).set (pivot).toNat x2) t5<|fun x7 =>tN 88 (ac .u64) (fun g_=>g_.2)<|tI 91 (ac .u64) ((oA.set (a).toNat x1).set (pivot).toNat x2) t4<|fun x8 =>tN 92 (ac .u64) (fun g_=>g_.2)<|tM 93 (ac .u64) (fun g_=>g_.2)<|.op 1000093 (mW 1000093 [(vU x8)] 0 ((((oA.set (a).toNat x1).set (pivot).toNat x2).set (t4).toNat x7).map (ac .u64)))<|.o _ (fun g_=>bv (ac .u64) g_.2)<|.o _ (fun _=>bA (ac .u64) ((oA.set (a).toNat x1).set (pivot).toNat x2) ((t4).toNat) x7)<|tI 94 (ac .u64) (((oA.set (a).toNat x1).set (pivot).toNat x2).set (t4).toNat x7) t5<|fun x9 =>.op 1000094 (mW 1000094 [(vU x9)] 0 (((((oA.set (a).toNat x1).set (pivot).toNat x2).set (t4).toNat x7).set (t5).toNat x8).map (ac .u64)))<|.o _ (fun g_=>bv (ac .u64) g_.2)<|.o _ (fun _=>bA (ac .u64) (((oA.set (a).toNat x1).set (pivot).toNat x2).set (t4).toNat x7) ((t5).toNat) x8)<|.bind 3000013 (iter (fun s=>bj n a s) n (((((oA.set (a).toNat x1).set (pivot).toNat x2).set (t4).toNat x7).set (t5).toNat x8),(ae .i64 t4 1),(al .i64 t5 1)))<|fun t10 =>tX 3000013 (wK [0,1,10,11] [] 1) 97 (Mp n a) (fun g_=>g_.2)<|.rg 21<|tI 159 (ac .u64) t10.1 a<|fun x11 =>tN 160 (ac .u64) (fun g_=>g_.2)<|tI 163 (ac .u64) t10.1 t10.2<|fun x12 =>tN 164 (ac .u64) (fun g_=>g_.2)<|tM 165 (ac .u64) (fun g_=>g_.2)<|.op 1000165 (mW 1000165 [(vU x12)] 0 ((t10.1.set (t10.2).toNat x11).map (ac .u64)))<|.o _ (fun g_=>bv (ac .u64) g_.2)<|.o _ (fun _=>bA (ac .u64) t10.1 ((t10.2).toNat) x11)<|tI 166 (ac .u64) (t10.1.set (t10.2).toNat x11) a<|fun x13 =>.op 1000166 (mW 1000166 [(vU x13)] 0 (((t10.1.set (t10.2).toNat x11).set (a).toNat x12).map (ac .u64)))<|.o _ (fun g_=>bv (ac .u64) g_.2)<|.o _ (fun _=>bA (ac .u64) (t10.1.set (t10.2).toNat x11) ((a).toNat) x12)<|.ret (t10.2,false,((t10.1.set (t10.2).toNat x11).set (a).toNat x12))
theorem l_ (n:Nat) (length:Int):pC (cv n length) 101 [(vI length)] (fun r=>(vU r)):=tP []<|
.rg 1<|.bind 5 (dT n (IntKind.wrap .u64 length))<|fun y1 =>.ite 5 (y1==0) (.op 5 (xL 5 ((vI y1)) ((vI 0)))<|.o _ (fun g_=>(bC n (IntKind.wrap .u64 length) y1 g_.1.2))<|.o _ (fun g_=>Ay (k:=.i64) g_.2)<|.ret 1)<|
.ite 5 (y1==1) (.op 5 (xL 5 ((vI y1)) ((vI 1)))<|.o _ (fun g_=>(bC n (IntKind.wrap .u64 length) y1 g_.1.1.2))<|.o _ (fun g_=>Ay (k:=.i64) g_.2)<|.ret 2)<|
.ite 5 (y1==2) (.op 5 (xL 5 ((vI y1)) ((vI 2)))<|.o _ (fun g_=>(bC n (IntKind.wrap .u64 length) y1 g_.1.1.1.2))<|.o _ (fun g_=>Ay (k:=.i64) g_.2)<|.ret 4)<|
.ite 5 (y1==3) (.op 5 (xL 5 ((vI y1)) ((vI 3)))<|.o _ (fun g_=>(bC n (IntKind.wrap .u64 length) y1 g_.1.1.1.1.2))<|.o _ (fun g_=>Ay (k:=.i64) g_.2)<|.ret 8)<|
.ite 5 (y1==4) (.op 5 (xL 5 ((vI y1)) ((vI 4)))<|.o _ (fun g_=>(bC n (IntKind.wrap .u64 length) y1 g_.1.1.1.1.1.2))<|.o _ (fun g_=>Ay (k:=.i64) g_.2)<|.ret 16)<|
.ite 5 (y1==5) (.op 5 (xL 5 ((vI y1)) ((vI 5)))<|.o _ (fun g_=>(bC n (IntKind.wrap .u64 length) y1 g_.1.1.1.1.1.1.2))<|.o _ (fun g_=>Ay (k:=.i64) g_.2)<|.ret 32)<|
.ite 5 (y1==6) (.op 5 (xL 5 ((vI y1)) ((vI 6)))<|.o _ (fun g_=>(bC n (IntKind.wrap .u64 length) y1 g_.1.1.1.1.1.1.1.2))<|.o _ (fun g_=>Ay (k:=.i64) g_.2)<|.ret 64)<|
.ite 5 (y1==7) (.op 5 (xL 5 ((vI y1)) ((vI 7)))<|.o _ (fun g_=>(bC n (IntKind.wrap .u64 length) y1 g_.1.1.1.1.1.1.1.1.2))<|.o _ (fun g_=>Ay (k:=.i64) g_.2)<|.ret 128)<|
.ite 5 (y1==8) (.op 5 (xL 5 ((vI y1)) ((vI 8)))<|.o _ (fun g_=>(bC n (IntKind.wrap .u64 length) y1 g_.1.1.1.1.1.1.1.1.1.2))<|.o _ (fun g_=>Ay (k:=.i64) g_.2)<|.ret 256)<|
.ite 5 (y1==9) (.op 5 (xL 5 ((vI y1)) ((vI 9)))<|.o _ (fun g_=>(bC n (IntKind.wrap .u64 length) y1 g_.1.1.1.1.1.1.1.1.1.1.2))<|.o _ (fun g_=>Ay (k:=.i64) g_.2)<|.ret 512)<|
.ite 5 (y1==10) (.op 5 (xL 5 ((vI y1)) ((vI 10)))<|.o _ (fun g_=>(bC n (IntKind.wrap .u64 length) y1 g_.1.1.1.1.1.1.1.1.1.1.1.2))<|.o _ (fun g_=>Ay (k:=.i64) g_.2)<|.ret 1024)<|
.ite 5 (y1==11) (.op 5 (xL 5 ((vI y1)) ((vI 11)))<|.o _ (fun g_=>(bC n (IntKind.wrap .u64 length) y1 g_.1.1.1.1.1.1.1.1.1.1.1.1.2))<|.o _ (fun g_=>Ay (k:=.i64) g_.2)<|.ret 2048)<|
.bad
def Jy:List (Nat×PT):=[(1,(hZ [0,1,2,3,4,5,6,7,8,9])),(2,(hZ [0,1,2,3,4,5,6,7,8,9])),(3,(hZ [0,1,2,3,4,5,6,7,8,9]))]
def mQ (oA:(List Int)) (oB:Int) (y:(Int×Int)):AV×List Ob:=((vU y.1),[.arr true 1 (oA.map (ac .u64)),.arr true 1 [[(vU y.2)]]])
theorem lZ (n:Nat) (oA:(List Int)) (oB:Int):sC (fH n oA oB) 102 [.ptr (.O 1) 0 0] [.arr true 1 (oA.map (ac .u64)),.arr true 1 [[(vU oB)]]] (mQ oA oB):=tD Jy<|
.ret ((gx .u64 (gx .u64 (gx .u64 oB (kI .u64 oB 13)) (bL .u64 (gx .u64 oB (kI .u64 oB 13)) 7)) (kI .u64 (gx .u64 (gx .u64 oB (kI .u64 oB 13)) (bL .u64 (gx .u64 oB (kI .u64 oB 13)) 7)) 17)),(gx .u64 (gx .u64 (gx .u64 oB (kI .u64 oB 13)) (bL .u64 (gx .u64 oB (kI .u64 oB 13)) 7)) (kI .u64 (gx .u64 (gx .u64 oB (kI .u64 oB 13)) (bL .u64 (gx .u64 oB (kI .u64 oB 13)) 7)) 17)))
def IF:List (Nat×PT):=[(10,(hZ [0,1,2,3,4,5,6,7,8,9,10,11,12,13,14,15,16,17,18,19]))]
noncomputable def Mq:Code:=sub (aS Tryz.prog 91) [1,1,0,1,1,1,0,0]
def Mr (a:Int) (b:Int) (y2:Int) (sa:(List Int)×Int×Int):St:=bE 65 [(0,.mf 0),(1,(vI a)),(6,(vI (al .i64 b a))),(7,.ptr (.O 1) 0 0),(8,(vU y2)),(9,(vI sa.2.2))] [] [.arr true 1 (sa.1.map (ac .u64)),.arr true 1 [[(vU sa.2.1)]]] 1
def Ms (a:Int) (b:Int) (y2:Int) (tt:((List Int))):Ex×St:=(.ex 0,bE 65 [] [] [.arr true 1 (tt.map (ac .u64))] 1)
theorem Mt (n:Nat) (a:Int) (b:Int) (y2:Int):lC (aE n a b y2) Mq (Mr a b y2) (Ms a b y2):=tR IF 91 (fun _=>h_) fun sa =>
.rg 5<|tB 33 (decide (sa.2.2≤(ae .i64 (ae .i64 a (cf .i64 (gw .i64 (al .i64 b a) 4) 2)) 1))) (.rg 7<|tS 36 (lZ n sa.1 sa.2.1)<|fun ya2 =>.rg 8<|tB 43 (decide ((IntKind.wrap .i64 (bV .u64 ya2.1 (al .u64 y2 1)))≥(al .i64 b a))) (.rg 10<|tI 57 (ac .u64) sa.1 (ae .i64 a (al .i64 (IntKind.wrap .i64 (bV .u64 ya2.1 (al .u64 y2 1))) (al .i64 b a)))<|fun xa4 =>tN 58 (ac .u64) (fun g_=>g_.2)<|tI 61 (ac .u64) sa.1 sa.2.2<|fun xa5 =>tN 62 (ac .u64) (fun g_=>g_.2)<|tM 63 (ac .u64) (fun g_=>g_.2)<|.op 1000063 (mW 1000063 [(vU xa5)] 0 ((sa.1.set (sa.2.2).toNat xa4).map (ac .u64)))<|.o _ (fun g_=>bv (ac .u64) g_.2)<|.o _ (fun _=>bA (ac .u64) sa.1 ((sa.2.2).toNat) xa4)<|tI 64 (ac .u64) (sa.1.set (sa.2.2).toNat xa4) (ae .i64 a (al .i64 (IntKind.wrap .i64 (bV .u64 ya2.1 (al .u64 y2 1))) (al .i64 b a)))<|fun xa6 =>.op 1000064 (mW 1000064 [(vU xa6)] 0 (((sa.1.set (sa.2.2).toNat xa4).set ((ae .i64 a (al .i64 (IntKind.wrap .i64 (bV .u64 ya2.1 (al .u64 y2 1))) (al .i64 b a)))).toNat xa5).map (ac .u64)))<|.o _ (fun g_=>bv (ac .u64) g_.2)<|.o _ (fun _=>bA (ac .u64) (sa.1.set (sa.2.2).toNat xa4) (((ae .i64 a (al .i64 (IntKind.wrap .i64 (bV .u64 ya2.1 (al .u64 y2 1))) (al .i64 b a)))).toNat) xa5)<|.wk (wK [0,1,6,7,8,9] [] 2) l0<|.ret (.inl (((sa.1.set (sa.2.2).toNat xa4).set ((ae .i64 a (al .i64 (IntKind.wrap .i64 (bV .u64 ya2.1 (al .u64 y2 1))) (al .i64 b a)))).toNat xa5),ya2.2,(ae .i64 sa.2.2 1))))<|
.rg 10<|tI 57 (ac .u64) sa.1 (ae .i64 a (IntKind.wrap .i64 (bV .u64 ya2.1 (al .u64 y2 1))))<|fun xa4 =>tN 58 (ac .u64) (fun g_=>g_.2)<|tI 61 (ac .u64) sa.1 sa.2.2<|fun xa5 =>tN 62 (ac .u64) (fun g_=>g_.2)<|tM 63 (ac .u64) (fun g_=>g_.2)<|.op 1000063 (mW 1000063 [(vU xa5)] 0 ((sa.1.set (sa.2.2).toNat xa4).map (ac .u64)))<|.o _ (fun g_=>bv (ac .u64) g_.2)<|.o _ (fun _=>bA (ac .u64) sa.1 ((sa.2.2).toNat) xa4)<|tI 64 (ac .u64) (sa.1.set (sa.2.2).toNat xa4) (ae .i64 a (IntKind.wrap .i64 (bV .u64 ya2.1 (al .u64 y2 1))))<|fun xa6 =>.op 1000064 (mW 1000064 [(vU xa6)] 0 (((sa.1.set (sa.2.2).toNat xa4).set ((ae .i64 a (IntKind.wrap .i64 (bV .u64 ya2.1 (al .u64 y2 1))))).toNat xa5).map (ac .u64)))<|.o _ (fun g_=>bv (ac .u64) g_.2)<|.o _ (fun _=>bA (ac .u64) (sa.1.set (sa.2.2).toNat xa4) (((ae .i64 a (IntKind.wrap .i64 (bV .u64 ya2.1 (al .u64 y2 1))))).toNat) xa5)<|.wk (wK [0,1,6,7,8,9] [] 2) l0<|.ret (.inl (((sa.1.set (sa.2.2).toNat xa4).set ((ae .i64 a (IntKind.wrap .i64 (bV .u64 ya2.1 (al .u64 y2 1))))).toNat xa5),ya2.2,(ae .i64 sa.2.2 1))))<|
.wk (wK [] [] 1) l0<|.ret (.inr sa.1)
def gH (a:Int) (b:Int) (oA:(List Int)) (y:(List Int)):AV×List Ob:=(.tup [],[.arr true 1 (y.map (ac .u64))])
theorem gn (n:Nat) (a:Int) (b:Int) (oA:(List Int)):sC (cj n a b oA) 91 [.mf 0,(vI a),(vI b)] [.arr true 1 (oA.map (ac .u64))] (gH a b oA):=tD IF<|
.rg 1<|tB 15 (decide ((al .i64 b a)≥8)) (.rg 3<|tC 19 (l_ n (al .i64 b a))<|fun y2 =>.bind 3000005 (iter (fun s=>aE n a b y2 s) n (oA,(IntKind.wrap .u64 (al .i64 b a)),(al .i64 (ae .i64 a (cf .i64 (gw .i64 (al .i64 b a) 4) 2)) 1)))<|fun t3 =>tX 3000005 (wK [0,1,6,7,8,9] [] 2) 91 (Mt n a b y2) (fun g_=>g_.2)<|.ret t3)<|
.ret oA
def aU (a:Int) (b:Int) (limit:Int) (oA:(List Int)) (y:(List Int)):AV×List Ob:=(.tup [],[.arr true 1 (y.map (ac .u64))])
def uK:List (Nat×PT):=[(17,(hZ [0,1,2,3,4,5,6,7,8,9,10,11,12,13,14]))]
noncomputable def Kq:Code:=sub (aS Tryz.prog 85) [1,1,0,0]
noncomputable def Kr:Code:=sub Kq [0,1,1,1]
noncomputable def Ks:Code:=sub Kr [1,1]
noncomputable def Kt:Code:=sub Ks [1]
noncomputable def Ku:Code:=sub Kt [1]
noncomputable def Kv:Code:=sub Ku [1]
noncomputable def Mu:Code:=sub Kv [1,1]
def Mv (yg1:(Int×Bool×(List Int))) (sh:Int×Int×Int×Int):St:=bE 134 [(0,.mf 0),(1,(vI sh.1)),(2,(vI sh.2.2.1)),(3,(vI sh.2.2.2)),(9,.v (.bool yg1.2.1)),(10,(vI sh.2.1)),(14,(vI yg1.1))] [] [.arr true 1 (yg1.2.2.map (ac .u64))] 1
def Mw (yg1:(Int×Bool×(List Int))) (tt:((List Int)×Int×Int×Int×Bool)):Ex×St:=(.nrm,bE 134 [(0,.mf 0),(1,(vI tt.2.1)),(2,(vI tt.2.2.1)),(3,(vI tt.2.2.2.1)),(8,.v (.bool tt.2.2.2.2)),(9,.v (.bool yg1.2.1))] [] [.arr true 1 (tt.1.map (ac .u64))] 1)
theorem Mx (n:Nat) (rc_:Int→Int→Int→(List Int)→Option (List Int)) (ih:∀ (a:Int) (b:Int) (limit:Int) (oA:(List Int)),sC (rc_ a b limit oA) 85 [.mf 0,(vI a),(vI b),(vI limit)] [.arr true 1 (oA.map (ac .u64))] (aU a b limit oA)) (yg1:(Int×Bool×(List Int))):dC (cr n rc_ yg1) Mu (Mv yg1) (Mw yg1):=Dw uK 85 fun sh =>
.rg 24<|tB 113 (decide ((al .i64 yg1.1 sh.1)<(al .i64 sh.2.2.1 yg1.1))) (.rg 26<|tS 121 (ih sh.1 yg1.1 sh.2.2.2 yg1.2.2)<|fun yh2 =>.wk (wK [0,1,2,3,8,9] [] 1) l0<|.ret (yh2,(ae .i64 yg1.1 1),sh.2.2.1,sh.2.2.2,(decide ((al .i64 yg1.1 sh.1)≥(gw .i64 sh.2.1 8)))))<|
.rg 29<|tS 132 (ih (ae .i64 yg1.1 1) sh.2.2.1 sh.2.2.2 yg1.2.2)<|fun yh2 =>.wk (wK [0,1,2,3,8,9] [] 1) l0<|.ret (yh2,sh.1,yg1.1,sh.2.2.2,(decide ((al .i64 sh.2.2.1 yg1.1)≥(gw .i64 sh.2.1 8))))
def My (sg:(List Int)×Int×Int×Int×Int×Int):St:=bE 134 [(0,.mf 0),(1,(vI sg.2.1)),(2,(vI sg.2.2.2.2.1)),(3,(vI sg.2.2.2.2.2)),(10,(vI sg.2.2.1)),(11,(vI sg.2.2.2.1))] [] [.arr true 1 (sg.1.map (ac .u64))] 1
def Mz (tt:((List Int)×Int×Int×Int×Bool×Bool)):Ex×St:=(.nrm,bE 134 [(0,.mf 0),(1,(vI tt.2.1)),(2,(vI tt.2.2.1)),(3,(vI tt.2.2.2.1)),(8,.v (.bool tt.2.2.2.2.1)),(9,.v (.bool tt.2.2.2.2.2))] [] [.arr true 1 (tt.1.map (ac .u64))] 1)
theorem Kw (n:Nat) (rc_:Int→Int→Int→(List Int)→Option (List Int)) (ih:∀ (a:Int) (b:Int) (limit:Int) (oA:(List Int)),sC (rc_ a b limit oA) 85 [.mf 0,(vI a),(vI b),(vI limit)] [.arr true 1 (oA.map (ac .u64))] (aU a b limit oA)):dC (ba n rc_) Kv (My) (Mz):=Dw uK 85 fun sg =>
.rg 20<|tS 99 (ib n sg.2.1 sg.2.2.2.2.1 sg.2.2.2.1 sg.1)<|fun yg1 =>.bind 4000022 (cr n rc_ yg1 (sg.2.1,sg.2.2.1,sg.2.2.2.2.1,sg.2.2.2.2.2))<|fun tg2 =>tQ 4000022 (wK [0,1,2,3,9,10,14] [] 1) (Mx n rc_ ih yg1) (fun g_=>g_.2)<|.wk (wK [0,1,2,3,8,9] [] 1) l0<|.ret (tg2.1,tg2.2.1,tg2.2.2.1,tg2.2.2.2.1,tg2.2.2.2.2,yg1.2.1)
def MA (sf:(List Int)×Int×Int×Int×Int×Int×Bool×Bool):St:=bE 134 [(0,.mf 0),(1,(vI sf.2.1)),(2,(vI sf.2.2.2.2.1)),(3,(vI sf.2.2.2.2.2.1)),(8,.v (.bool sf.2.2.2.2.2.2.1)),(9,.v (.bool sf.2.2.2.2.2.2.2)),(10,(vI sf.2.2.1)),(11,(vI sf.2.2.2.1))] [] [.arr true 1 (sf.1.map (ac .u64))] 1
def MB (t0:(((List Int)×Int×Int×Int×Int×Int×Bool×Int×Int×Int×Bool×Bool×Bool)⊕((List Int)×Int×Int×Int×Bool×Bool))):Ex×St:=match t0 with | .inl tt=>(.ex 1,bE 134 [(0,.mf 0),(1,(vI tt.2.1)),(2,(vI tt.2.2.1)),(3,(vI tt.2.2.2.1)),(8,.v (.bool tt.2.2.2.2.2.2.1)),(9,.v (.bool tt.2.2.2.2.2.2.2.2.2.2.2.2)),(76,.mf 0),(77,(vI tt.2.2.2.2.1)),(78,(vI tt.2.2.2.2.2.1)),(80,(vU tt.2.2.2.2.2.2.2.1)),(81,.mf 0),(82,(vI tt.2.2.2.2.2.2.2.2.1)),(84,(vU tt.2.2.2.2.2.2.2.2.2.1)),(85,.v (.bool tt.2.2.2.2.2.2.2.2.2.2.1)),(86,.v (.bool tt.2.2.2.2.2.2.2.2.2.2.2.1))] [] [.arr true 1 (tt.1.map (ac .u64))] 1) | .inr tt=>(.nrm,bE 134 [(0,.mf 0),(1,(vI tt.2.1)),(2,(vI tt.2.2.1)),(3,(vI tt.2.2.2.1)),(8,.v (.bool tt.2.2.2.2.1)),(9,.v (.bool tt.2.2.2.2.2))] [] [.arr true 1 (tt.1.map (ac .u64))] 1)
theorem Cd (n:Nat) (rc_:Int→Int→Int→(List Int)→Option (List Int)) (ih:∀ (a:Int) (b:Int) (limit:Int) (oA:(List Int)),sC (rc_ a b limit oA) 85 [.mf 0,(vI a),(vI b),(vI limit)] [.arr true 1 (oA.map (ac .u64))] (aU a b limit oA)):dC (ao n rc_) Ku (MA) (MB):=Dw uK 85 fun sf =>
.rg 17<|tB 75 (decide (sf.2.1>0)) (tI 79 (ac .u64) sf.1 (al .i64 sf.2.1 1)<|fun xf2 =>tN 80 (ac .u64) (fun g_=>g_.2)<|tI 83 (ac .u64) sf.1 sf.2.2.2.1<|fun xf3 =>tN 84 (ac .u64) (fun g_=>g_.2)<|tC 85 (aI n xf2 xf3)<|fun yf4 =>tB 87 (!yf4) (.rg 18<|tS 92 (f6 n sf.2.1 sf.2.2.2.2.1 sf.2.2.2.1 sf.1)<|fun yf6 =>.wk (wK [0,1,2,3,8,9,76,77,78,80,81,82,84,85,86] [] 1) l0<|.ret (.inl (yf6.2,yf6.1,sf.2.2.2.2.1,sf.2.2.2.2.2.1,sf.2.1,(al .i64 sf.2.1 1),sf.2.2.2.2.2.2.1,xf2,sf.2.2.2.1,xf3,yf4,!yf4,sf.2.2.2.2.2.2.2)))<|
.bind 4000020 (ba n rc_ (sf.1,sf.2.1,sf.2.2.1,sf.2.2.2.1,sf.2.2.2.2.1,sf.2.2.2.2.2.1))<|fun tf6 =>tQ 4000020 (wK [0,1,2,3,10,11] [] 1) (Kw n rc_ ih) (fun g_=>g_.2)<|.wk (wK [0,1,2,3,8,9] [] 1) l0<|.ret (.inr (tf6.1,tf6.2.1,tf6.2.2.1,tf6.2.2.2.1,tf6.2.2.2.2.1,tf6.2.2.2.2.2)))<|
.bind 4000020 (ba n rc_ (sf.1,sf.2.1,sf.2.2.1,sf.2.2.2.1,sf.2.2.2.2.1,sf.2.2.2.2.2.1))<|fun tf2 =>tQ 4000020 (wK [0,1,2,3,10,11] [] 1) (Kw n rc_ ih) (fun g_=>g_.2)<|.wk (wK [0,1,2,3,8,9] [] 1) l0<|.ret (.inr (tf2.1,tf2.2.1,tf2.2.2.1,tf2.2.2.2.1,tf2.2.2.2.2.1,tf2.2.2.2.2.2))
def MC (se:(List Int)×Int×Int×Int×Int×Int×Int×Bool×Bool):St:=bE 134 [(0,.mf 0),(1,(vI se.2.1)),(2,(vI se.2.2.2.2.2.1)),(3,(vI se.2.2.2.2.2.2.1)),(8,.v (.bool se.2.2.2.2.2.2.2.1)),(9,.v (.bool se.2.2.2.2.2.2.2.2)),(10,(vI se.2.2.1)),(11,(vI se.2.2.2.1)),(12,(vI se.2.2.2.2.1))] [] [.arr true 1 (se.1.map (ac .u64))] 1
def MD (t0:(((List Int)×Int×Int×Int×Int×Int×Bool×Int×Int×Int×Bool×Bool×Bool)⊕(((List Int)×Int×Int×Int×Bool×Bool)⊕((List Int))))):Ex×St:=match t0 with | .inl tt=>(.ex 1,bE 134 [(0,.mf 0),(1,(vI tt.2.1)),(2,(vI tt.2.2.1)),(3,(vI tt.2.2.2.1)),(8,.v (.bool tt.2.2.2.2.2.2.1)),(9,.v (.bool tt.2.2.2.2.2.2.2.2.2.2.2.2)),(76,.mf 0),(77,(vI tt.2.2.2.2.1)),(78,(vI tt.2.2.2.2.2.1)),(80,(vU tt.2.2.2.2.2.2.2.1)),(81,.mf 0),(82,(vI tt.2.2.2.2.2.2.2.2.1)),(84,(vU tt.2.2.2.2.2.2.2.2.2.1)),(85,.v (.bool tt.2.2.2.2.2.2.2.2.2.2.1)),(86,.v (.bool tt.2.2.2.2.2.2.2.2.2.2.2.1))] [] [.arr true 1 (tt.1.map (ac .u64))] 1) | .inr (.inl tt)=>(.nrm,bE 134 [(0,.mf 0),(1,(vI tt.2.1)),(2,(vI tt.2.2.1)),(3,(vI tt.2.2.2.1)),(8,.v (.bool tt.2.2.2.2.1)),(9,.v (.bool tt.2.2.2.2.2))] [] [.arr true 1 (tt.1.map (ac .u64))] 1) | .inr (.inr tt)=>(.ret,bE 134 [] [] [.arr true 1 (tt.map (ac .u64))] 1)
theorem FB (n:Nat) (rc_:Int→Int→Int→(List Int)→Option (List Int)) (ih:∀ (a:Int) (b:Int) (limit:Int) (oA:(List Int)),sC (rc_ a b limit oA) 85 [.mf 0,(vI a),(vI b),(vI limit)] [.arr true 1 (oA.map (ac .u64))] (aU a b limit oA)):dC (bc n rc_) Kt (MC) (MD):=Dw uK 85 fun se =>
.rg 15<|tB 62 se.2.2.2.2.2.2.2.1 (tB 65 se.2.2.2.2.2.2.2.2 (tB 68 (se.2.2.2.2.1==1) (.rg 16<|.bind 72 (bg n se.2.1 se.2.2.2.2.2.1 se.1)<|fun ye4 =>.ite 72 ye4.1 (.op 72 ⟨[],[],[],[(72,vT)],[],[(72,(.v (.bool ye4.1),[.arr true 1 (ye4.2.map (ac .u64))]))],[],[],[]⟩<|.o _ (fun g_=>cM n se.2.1 se.2.2.2.2.2.1 se.1 ye4 g_.1.2)<|.o _ (fun g_=>cB g_.2)<|.wk (wK [] [] 1) l0<|.ret (.inr (.inr ye4.2)))<|
.op 72 ⟨[],[],[],[(72,vF)],[],[(72,(.v (.bool ye4.1),[.arr true 1 (ye4.2.map (ac .u64))]))],[],[],[]⟩<|.o _ (fun g_=>cM n se.2.1 se.2.2.2.2.2.1 se.1 ye4 g_.1.2)<|.o _ (fun g_=>cB g_.2)<|.bind 4000017 (ao n rc_ (ye4.2,se.2.1,se.2.2.1,se.2.2.2.1,se.2.2.2.2.2.1,se.2.2.2.2.2.2.1,se.2.2.2.2.2.2.2.1,se.2.2.2.2.2.2.2.2))<|fun te6 =>.alt 4000017 te6 (fun we7 =>tQ 4000017 (wK [0,1,2,3,8,9,10,11] [] 1) (Cd n rc_ ih) (fun g_=>(eS g_.1.2 g_.2))<|.wk (wK [0,1,2,3,8,9,76,77,78,80,81,82,84,85,86] [] 1) l0<|.ret (.inl (we7.1,we7.2.1,we7.2.2.1,we7.2.2.2.1,we7.2.2.2.2.1,we7.2.2.2.2.2.1,we7.2.2.2.2.2.2.1,we7.2.2.2.2.2.2.2.1,we7.2.2.2.2.2.2.2.2.1,we7.2.2.2.2.2.2.2.2.2.1,we7.2.2.2.2.2.2.2.2.2.2.1,we7.2.2.2.2.2.2.2.2.2.2.2.1,we7.2.2.2.2.2.2.2.2.2.2.2.2)))<|
fun we7 =>tQ 4000017 (wK [0,1,2,3,8,9,10,11] [] 1) (Cd n rc_ ih) (fun g_=>(eS g_.1.2 g_.2))<|.wk (wK [0,1,2,3,8,9] [] 1) l0<|.ret (.inr (.inl (we7.1,we7.2.1,we7.2.2.1,we7.2.2.2.1,we7.2.2.2.2.1,we7.2.2.2.2.2))))<|
.bind 4000017 (ao n rc_ (se.1,se.2.1,se.2.2.1,se.2.2.2.1,se.2.2.2.2.2.1,se.2.2.2.2.2.2.1,se.2.2.2.2.2.2.2.1,se.2.2.2.2.2.2.2.2))<|fun te4 =>.alt 4000017 te4 (fun we5 =>tQ 4000017 (wK [0,1,2,3,8,9,10,11] [] 1) (Cd n rc_ ih) (fun g_=>(eS g_.1.2 g_.2))<|.wk (wK [0,1,2,3,8,9,76,77,78,80,81,82,84,85,86] [] 1) l0<|.ret (.inl (we5.1,we5.2.1,we5.2.2.1,we5.2.2.2.1,we5.2.2.2.2.1,we5.2.2.2.2.2.1,we5.2.2.2.2.2.2.1,we5.2.2.2.2.2.2.2.1,we5.2.2.2.2.2.2.2.2.1,we5.2.2.2.2.2.2.2.2.2.1,we5.2.2.2.2.2.2.2.2.2.2.1,we5.2.2.2.2.2.2.2.2.2.2.2.1,we5.2.2.2.2.2.2.2.2.2.2.2.2)))<|
fun we5 =>tQ 4000017 (wK [0,1,2,3,8,9,10,11] [] 1) (Cd n rc_ ih) (fun g_=>(eS g_.1.2 g_.2))<|.wk (wK [0,1,2,3,8,9] [] 1) l0<|.ret (.inr (.inl (we5.1,we5.2.1,we5.2.2.1,we5.2.2.2.1,we5.2.2.2.2.1,we5.2.2.2.2.2))))<|
.bind 4000017 (ao n rc_ (se.1,se.2.1,se.2.2.1,se.2.2.2.1,se.2.2.2.2.2.1,se.2.2.2.2.2.2.1,se.2.2.2.2.2.2.2.1,se.2.2.2.2.2.2.2.2))<|fun te3 =>.alt 4000017 te3 (fun we4 =>tQ 4000017 (wK [0,1,2,3,8,9,10,11] [] 1) (Cd n rc_ ih) (fun g_=>(eS g_.1.2 g_.2))<|.wk (wK [0,1,2,3,8,9,76,77,78,80,81,82,84,85,86] [] 1) l0<|.ret (.inl (we4.1,we4.2.1,we4.2.2.1,we4.2.2.2.1,we4.2.2.2.2.1,we4.2.2.2.2.2.1,we4.2.2.2.2.2.2.1,we4.2.2.2.2.2.2.2.1,we4.2.2.2.2.2.2.2.2.1,we4.2.2.2.2.2.2.2.2.2.1,we4.2.2.2.2.2.2.2.2.2.2.1,we4.2.2.2.2.2.2.2.2.2.2.2.1,we4.2.2.2.2.2.2.2.2.2.2.2.2)))<|
fun we4 =>tQ 4000017 (wK [0,1,2,3,8,9,10,11] [] 1) (Cd n rc_ ih) (fun g_=>(eS g_.1.2 g_.2))<|.wk (wK [0,1,2,3,8,9] [] 1) l0<|.ret (.inr (.inl (we4.1,we4.2.1,we4.2.2.1,we4.2.2.2.1,we4.2.2.2.2.1,we4.2.2.2.2.2))))<|
.bind 4000017 (ao n rc_ (se.1,se.2.1,se.2.2.1,se.2.2.2.1,se.2.2.2.2.2.1,se.2.2.2.2.2.2.1,se.2.2.2.2.2.2.2.1,se.2.2.2.2.2.2.2.2))<|fun te2 =>.alt 4000017 te2 (fun we3 =>tQ 4000017 (wK [0,1,2,3,8,9,10,11] [] 1) (Cd n rc_ ih) (fun g_=>(eS g_.1.2 g_.2))<|.wk (wK [0,1,2,3,8,9,76,77,78,80,81,82,84,85,86] [] 1) l0<|.ret (.inl (we3.1,we3.2.1,we3.2.2.1,we3.2.2.2.1,we3.2.2.2.2.1,we3.2.2.2.2.2.1,we3.2.2.2.2.2.2.1,we3.2.2.2.2.2.2.2.1,we3.2.2.2.2.2.2.2.2.1,we3.2.2.2.2.2.2.2.2.2.1,we3.2.2.2.2.2.2.2.2.2.2.1,we3.2.2.2.2.2.2.2.2.2.2.2.1,we3.2.2.2.2.2.2.2.2.2.2.2.2)))<|
fun we3 =>tQ 4000017 (wK [0,1,2,3,8,9,10,11] [] 1) (Cd n rc_ ih) (fun g_=>(eS g_.1.2 g_.2))<|.wk (wK [0,1,2,3,8,9] [] 1) l0<|.ret (.inr (.inl (we3.1,we3.2.1,we3.2.2.1,we3.2.2.2.1,we3.2.2.2.2.1,we3.2.2.2.2.2)))
def ME (sd:(List Int)×Int×Int×Int×Int×Int×Int×Bool×Bool):St:=bE 134 [(0,.mf 0),(1,(vI sd.2.1)),(2,(vI sd.2.2.2.2.2.1)),(3,(vI sd.2.2.2.2.2.2.1)),(8,.v (.bool sd.2.2.2.2.2.2.2.1)),(9,.v (.bool sd.2.2.2.2.2.2.2.2)),(10,(vI sd.2.2.1)),(11,(vI sd.2.2.2.1)),(12,(vI sd.2.2.2.2.1))] [] [.arr true 1 (sd.1.map (ac .u64))] 1
def MF (t0:(((List Int)×Int×Int×Int×Int×Int×Bool×Int×Int×Int×Bool×Bool×Bool)⊕(((List Int)×Int×Int×Int×Bool×Bool)⊕((List Int))))):Ex×St:=match t0 with | .inl tt=>(.ex 1,bE 134 [(0,.mf 0),(1,(vI tt.2.1)),(2,(vI tt.2.2.1)),(3,(vI tt.2.2.2.1)),(8,.v (.bool tt.2.2.2.2.2.2.1)),(9,.v (.bool tt.2.2.2.2.2.2.2.2.2.2.2.2)),(76,.mf 0),(77,(vI tt.2.2.2.2.1)),(78,(vI tt.2.2.2.2.2.1)),(80,(vU tt.2.2.2.2.2.2.2.1)),(81,.mf 0),(82,(vI tt.2.2.2.2.2.2.2.2.1)),(84,(vU tt.2.2.2.2.2.2.2.2.2.1)),(85,.v (.bool tt.2.2.2.2.2.2.2.2.2.2.1)),(86,.v (.bool tt.2.2.2.2.2.2.2.2.2.2.2.1))] [] [.arr true 1 (tt.1.map (ac .u64))] 1) | .inr (.inl tt)=>(.nrm,bE 134 [(0,.mf 0),(1,(vI tt.2.1)),(2,(vI tt.2.2.1)),(3,(vI tt.2.2.2.1)),(8,.v (.bool tt.2.2.2.2.1)),(9,.v (.bool tt.2.2.2.2.2))] [] [.arr true 1 (tt.1.map (ac .u64))] 1) | .inr (.inr tt)=>(.ret,bE 134 [] [] [.arr true 1 (tt.map (ac .u64))] 1)
theorem FC (n:Nat) (rc_:Int→Int→Int→(List Int)→Option (List Int)) (ih:∀ (a:Int) (b:Int) (limit:Int) (oA:(List Int)),sC (rc_ a b limit oA) 85 [.mf 0,(vI a),(vI b),(vI limit)] [.arr true 1 (oA.map (ac .u64))] (aU a b limit oA)):dC (bd n rc_) Ks (ME) (MF):=Dw uK 85 fun sd =>
.rg 11<|tB 50 (sd.2.2.2.2.1==2) (.rg 12<|tS 54 (gu n sd.2.1 sd.2.2.2.2.2.1 sd.1)<|fun yd2 =>.bind 4000015 (bc n rc_ (yd2,sd.2.1,sd.2.2.1,(al .i64 (al .i64 sd.2.2.2.2.2.1 1) (al .i64 sd.2.2.2.1 sd.2.1)),1,sd.2.2.2.2.2.1,sd.2.2.2.2.2.2.1,sd.2.2.2.2.2.2.2.1,sd.2.2.2.2.2.2.2.2))<|fun td3 =>.alt 4000015 td3 (fun wd4 =>tQ 4000015 (wK [0,1,2,3,8,9,10,11,12] [] 1) (FB n rc_ ih) (fun g_=>(eS g_.1.2 g_.2))<|.wk (wK [0,1,2,3,8,9,76,77,78,80,81,82,84,85,86] [] 1) l0<|.ret (.inl (wd4.1,wd4.2.1,wd4.2.2.1,wd4.2.2.2.1,wd4.2.2.2.2.1,wd4.2.2.2.2.2.1,wd4.2.2.2.2.2.2.1,wd4.2.2.2.2.2.2.2.1,wd4.2.2.2.2.2.2.2.2.1,wd4.2.2.2.2.2.2.2.2.2.1,wd4.2.2.2.2.2.2.2.2.2.2.1,wd4.2.2.2.2.2.2.2.2.2.2.2.1,wd4.2.2.2.2.2.2.2.2.2.2.2.2)))<|
fun q0_td3 =>.alt 4000015 q0_td3 (fun wd4 =>tQ 4000015 (wK [0,1,2,3,8,9,10,11,12] [] 1) (FB n rc_ ih) (fun g_=>(eS g_.1.1.2 (eR g_.1.2 g_.2)))<|.wk (wK [0,1,2,3,8,9] [] 1) l0<|.ret (.inr (.inl (wd4.1,wd4.2.1,wd4.2.2.1,wd4.2.2.2.1,wd4.2.2.2.2.1,wd4.2.2.2.2.2))))<|
fun wd4 =>tQ 4000015 (wK [0,1,2,3,8,9,10,11,12] [] 1) (FB n rc_ ih) (fun g_=>(eS g_.1.1.2 (eR g_.1.2 g_.2)))<|.wk (wK [] [] 1) l0<|.ret (.inr (.inr wd4)))<|
.bind 4000015 (bc n rc_ (sd.1,sd.2.1,sd.2.2.1,sd.2.2.2.1,sd.2.2.2.2.1,sd.2.2.2.2.2.1,sd.2.2.2.2.2.2.1,sd.2.2.2.2.2.2.2.1,sd.2.2.2.2.2.2.2.2))<|fun td2 =>.alt 4000015 td2 (fun wd3 =>tQ 4000015 (wK [0,1,2,3,8,9,10,11,12] [] 1) (FB n rc_ ih) (fun g_=>(eS g_.1.2 g_.2))<|.wk (wK [0,1,2,3,8,9,76,77,78,80,81,82,84,85,86] [] 1) l0<|.ret (.inl (wd3.1,wd3.2.1,wd3.2.2.1,wd3.2.2.2.1,wd3.2.2.2.2.1,wd3.2.2.2.2.2.1,wd3.2.2.2.2.2.2.1,wd3.2.2.2.2.2.2.2.1,wd3.2.2.2.2.2.2.2.2.1,wd3.2.2.2.2.2.2.2.2.2.1,wd3.2.2.2.2.2.2.2.2.2.2.1,wd3.2.2.2.2.2.2.2.2.2.2.2.1,wd3.2.2.2.2.2.2.2.2.2.2.2.2)))<|
fun q0_td2 =>.alt 4000015 q0_td2 (fun wd3 =>tQ 4000015 (wK [0,1,2,3,8,9,10,11,12] [] 1) (FB n rc_ ih) (fun g_=>(eS g_.1.1.2 (eR g_.1.2 g_.2)))<|.wk (wK [0,1,2,3,8,9] [] 1) l0<|.ret (.inr (.inl (wd3.1,wd3.2.1,wd3.2.2.1,wd3.2.2.2.1,wd3.2.2.2.2.1,wd3.2.2.2.2.2))))<|
fun wd3 =>tQ 4000015 (wK [0,1,2,3,8,9,10,11,12] [] 1) (FB n rc_ ih) (fun g_=>(eS g_.1.1.2 (eR g_.1.2 g_.2)))<|.wk (wK [] [] 1) l0<|.ret (.inr (.inr wd3))
def MH (sb:(List Int)×Int×Int×Int×Int×Bool×Bool):St:=bE 134 [(0,.mf 0),(1,(vI sb.2.1)),(2,(vI sb.2.2.2.1)),(3,(vI sb.2.2.2.2.1)),(8,.v (.bool sb.2.2.2.2.2.1)),(9,.v (.bool sb.2.2.2.2.2.2)),(10,(vI sb.2.2.1))] [] [.arr true 1 (sb.1.map (ac .u64))] 1
def MI (t0:(((List Int)×Int×Int×Int×Int×Int×Bool×Int×Int×Int×Bool×Bool×Bool)⊕(((List Int)×Int×Int×Int×Bool×Bool)⊕((List Int))))):Ex×St:=match t0 with | .inl tt=>(.ex 1,bE 134 [(0,.mf 0),(1,(vI tt.2.1)),(2,(vI tt.2.2.1)),(3,(vI tt.2.2.2.1)),(8,.v (.bool tt.2.2.2.2.2.2.1)),(9,.v (.bool tt.2.2.2.2.2.2.2.2.2.2.2.2)),(76,.mf 0),(77,(vI tt.2.2.2.2.1)),(78,(vI tt.2.2.2.2.2.1)),(80,(vU tt.2.2.2.2.2.2.2.1)),(81,.mf 0),(82,(vI tt.2.2.2.2.2.2.2.2.1)),(84,(vU tt.2.2.2.2.2.2.2.2.2.1)),(85,.v (.bool tt.2.2.2.2.2.2.2.2.2.2.1)),(86,.v (.bool tt.2.2.2.2.2.2.2.2.2.2.2.1))] [] [.arr true 1 (tt.1.map (ac .u64))] 1) | .inr (.inl tt)=>(.nrm,bE 134 [(0,.mf 0),(1,(vI tt.2.1)),(2,(vI tt.2.2.1)),(3,(vI tt.2.2.2.1)),(8,.v (.bool tt.2.2.2.2.1)),(9,.v (.bool tt.2.2.2.2.2))] [] [.arr true 1 (tt.1.map (ac .u64))] 1) | .inr (.inr tt)=>(.ret,bE 134 [] [] [.arr true 1 (tt.map (ac .u64))] 1)
theorem Jz (n:Nat) (rc_:Int→Int→Int→(List Int)→Option (List Int)) (ih:∀ (a:Int) (b:Int) (limit:Int) (oA:(List Int)),sC (rc_ a b limit oA) 85 [.mf 0,(vI a),(vI b),(vI limit)] [.arr true 1 (oA.map (ac .u64))] (aU a b limit oA)):dC (bR n rc_) Kr (MH) (MI):=Dw uK 85 fun sb =>
.rg 7<|tB 35 (!sb.2.2.2.2.2.1) (.rg 8<|tS 39 (gn n sb.2.1 sb.2.2.2.1 sb.1)<|fun yb2 =>.rg 10<|tS 46 (ei n sb.2.1 sb.2.2.2.1 yb2)<|fun yb3 =>.bind 4000011 (bd n rc_ (yb2,sb.2.1,sb.2.2.1,yb3.1,yb3.2.1,sb.2.2.2.1,(al .i64 sb.2.2.2.2.1 1),sb.2.2.2.2.2.1,sb.2.2.2.2.2.2))<|fun tb4 =>.alt 4000011 tb4 (fun wb5 =>tQ 4000011 (wK [0,1,2,3,8,9,10,11,12] [] 1) (FC n rc_ ih) (fun g_=>(eS g_.1.2 g_.2))<|.wk (wK [0,1,2,3,8,9,76,77,78,80,81,82,84,85,86] [] 1) l0<|.ret (.inl (wb5.1,wb5.2.1,wb5.2.2.1,wb5.2.2.2.1,wb5.2.2.2.2.1,wb5.2.2.2.2.2.1,wb5.2.2.2.2.2.2.1,wb5.2.2.2.2.2.2.2.1,wb5.2.2.2.2.2.2.2.2.1,wb5.2.2.2.2.2.2.2.2.2.1,wb5.2.2.2.2.2.2.2.2.2.2.1,wb5.2.2.2.2.2.2.2.2.2.2.2.1,wb5.2.2.2.2.2.2.2.2.2.2.2.2)))<|
fun q0_tb4 =>.alt 4000011 q0_tb4 (fun wb5 =>tQ 4000011 (wK [0,1,2,3,8,9,10,11,12] [] 1) (FC n rc_ ih) (fun g_=>(eS g_.1.1.2 (eR g_.1.2 g_.2)))<|.wk (wK [0,1,2,3,8,9] [] 1) l0<|.ret (.inr (.inl (wb5.1,wb5.2.1,wb5.2.2.1,wb5.2.2.2.1,wb5.2.2.2.2.1,wb5.2.2.2.2.2))))<|
fun wb5 =>tQ 4000011 (wK [0,1,2,3,8,9,10,11,12] [] 1) (FC n rc_ ih) (fun g_=>(eS g_.1.1.2 (eR g_.1.2 g_.2)))<|.wk (wK [] [] 1) l0<|.ret (.inr (.inr wb5)))<|
.rg 10<|tS 46 (ei n sb.2.1 sb.2.2.2.1 sb.1)<|fun yb2 =>.bind 4000011 (bd n rc_ (sb.1,sb.2.1,sb.2.2.1,yb2.1,yb2.2.1,sb.2.2.2.1,sb.2.2.2.2.1,sb.2.2.2.2.2.1,sb.2.2.2.2.2.2))<|fun tb3 =>.alt 4000011 tb3 (fun wb4 =>tQ 4000011 (wK [0,1,2,3,8,9,10,11,12] [] 1) (FC n rc_ ih) (fun g_=>(eS g_.1.2 g_.2))<|.wk (wK [0,1,2,3,8,9,76,77,78,80,81,82,84,85,86] [] 1) l0<|.ret (.inl (wb4.1,wb4.2.1,wb4.2.2.1,wb4.2.2.2.1,wb4.2.2.2.2.1,wb4.2.2.2.2.2.1,wb4.2.2.2.2.2.2.1,wb4.2.2.2.2.2.2.2.1,wb4.2.2.2.2.2.2.2.2.1,wb4.2.2.2.2.2.2.2.2.2.1,wb4.2.2.2.2.2.2.2.2.2.2.1,wb4.2.2.2.2.2.2.2.2.2.2.2.1,wb4.2.2.2.2.2.2.2.2.2.2.2.2)))<|
fun q0_tb3 =>.alt 4000011 q0_tb3 (fun wb4 =>tQ 4000011 (wK [0,1,2,3,8,9,10,11,12] [] 1) (FC n rc_ ih) (fun g_=>(eS g_.1.1.2 (eR g_.1.2 g_.2)))<|.wk (wK [0,1,2,3,8,9] [] 1) l0<|.ret (.inr (.inl (wb4.1,wb4.2.1,wb4.2.2.1,wb4.2.2.2.1,wb4.2.2.2.2.1,wb4.2.2.2.2.2))))<|
fun wb4 =>tQ 4000011 (wK [0,1,2,3,8,9,10,11,12] [] 1) (FC n rc_ ih) (fun g_=>(eS g_.1.1.2 (eR g_.1.2 g_.2)))<|.wk (wK [] [] 1) l0<|.ret (.inr (.inr wb4))
def MJ (sa:(List Int)×Int×Int×Int×Bool×Bool):St:=bE 134 [(0,.mf 0),(1,(vI sa.2.1)),(2,(vI sa.2.2.1)),(3,(vI sa.2.2.2.1)),(8,.v (.bool sa.2.2.2.2.1)),(9,.v (.bool sa.2.2.2.2.2))] [] [.arr true 1 (sa.1.map (ac .u64))] 1
def MK (tt:((List Int))):Ex×St:=(.ret,bE 134 [] [] [.arr true 1 (tt.map (ac .u64))] 1)
theorem ML (n:Nat) (rc_:Int→Int→Int→(List Int)→Option (List Int)) (ih:∀ (a:Int) (b:Int) (limit:Int) (oA:(List Int)),sC (rc_ a b limit oA) 85 [.mf 0,(vI a),(vI b),(vI limit)] [.arr true 1 (oA.map (ac .u64))] (aU a b limit oA)):lC (bf n rc_) Kq (MJ) (MK):=tR uK 85 (fun _=>tu) fun sa =>
.rg 3<|tB 23 (decide ((al .i64 sa.2.2.1 sa.2.1)≤12)) (.rg 4<|tS 27 (gk n sa.2.1 sa.2.2.1 sa.1)<|fun ya2 =>.wk (wK [] [] 1) l0<|.ret (.inr ya2))<|
.rg 5<|tB 29 (sa.2.2.2.1==0) (.rg 6<|tS 33 (iu n sa.2.1 sa.2.2.1 sa.1)<|fun ya3 =>.wk (wK [] [] 1) l0<|.ret (.inr ya3))<|
.bind 4000007 (bR n rc_ (sa.1,sa.2.1,(al .i64 sa.2.2.1 sa.2.1),sa.2.2.1,sa.2.2.2.1,sa.2.2.2.2.1,sa.2.2.2.2.2))<|fun ta3 =>.alt 4000007 ta3 (fun wa4 =>tQ 4000007 (wK [0,1,2,3,8,9,10] [] 1) (Jz n rc_ ih) (fun g_=>(eS g_.1.2 g_.2))<|.wk (wK [0,1,2,3,8,9] [] 1) l0<|.ret (.inl (wa4.1,wa4.2.1,wa4.2.2.1,wa4.2.2.2.1,wa4.2.2.2.2.2.2.1,wa4.2.2.2.2.2.2.2.2.2.2.2.2)))<|
fun q0_ta3 =>.alt 4000007 q0_ta3 (fun wa4 =>tQ 4000007 (wK [0,1,2,3,8,9,10] [] 1) (Jz n rc_ ih) (fun g_=>(eS g_.1.1.2 (eR g_.1.2 g_.2)))<|.wk (wK [0,1,2,3,8,9] [] 1) l0<|.ret (.inl (wa4.1,wa4.2.1,wa4.2.2.1,wa4.2.2.2.1,wa4.2.2.2.2.1,wa4.2.2.2.2.2)))<|
fun wa4 =>tQ 4000007 (wK [0,1,2,3,8,9,10] [] 1) (Jz n rc_ ih) (fun g_=>(eS g_.1.1.2 (eR g_.1.2 g_.2)))<|.wk (wK [] [] 1) l0<|.ret (.inr wa4)
theorem iG (n:Nat):∀ (a:Int) (b:Int) (limit:Int) (oA:(List Int)),sC (aO n a b limit oA) 85 [.mf 0,(vI a),(vI b),(vI limit)] [.arr true 1 (oA.map (ac .u64))] (aU a b limit oA):=by
 induction n with
 | zero=>intro a b limit oA y h; unfold aO at h; cases h
 | succ n ih =>
 intro a b limit oA
 exact tD uK<|
.bind 3000002 (iter (fun s=>bf n (aO n) s) n (oA,a,b,limit,true,true))<|fun t1 =>tX 3000002 (wK [0,1,2,3,8,9] [] 1) 85 (ML n (aO n) ih) (fun g_=>g_.2)<|.ret t1
def kD (oA:(List Int)) (y:(List Int)):AV×List Ob:=(.tup [],[.arr true 1 (y.map (ac .u64))])
theorem jD (n:Nat) (oA:(List Int)):sC (dj n oA) 74 [.mf 0] [.arr true 1 (oA.map (ac .u64))] (kD oA):=tD []<|
.rg 0<|tL 4 (ac .u64) oA<|.rg 1<|tC 9 (bC n (IntKind.wrap .u64 (oA.length:Int)))<|fun y1 =>tS 10 (iG n 0 (oA.length:Int) y1 oA)<|fun y2 =>.ret y2

def mR (oA:(List Cell)) (oB:(List (List Event))) (oC:(List Int)) (oD:(List Int)) (oE:(List (Int×Int))) (y0:(Unit⊕(List Int))):AV×List Ob:=match y0 with | .inl y=>(.nilsl,[.arr true 4 [[.sl (oA.map Cell.enc),.sl (oB.map (gf Event.enc)),.sl (oC.map eI),.sl (oD.map eI)]],.mapo true (oE.map (pA (ft .u64) (ft .u64))),.arr false 1 [[.mp 1]]]) | .inr y=>(.mf 3,[.arr true 4 [[.sl (oA.map Cell.enc),.sl (oB.map (gf Event.enc)),.sl (oC.map eI),.sl (oD.map eI)]],.mapo true (oE.map (pA (ft .u64) (ft .u64))),.arr false 1 [[.mp 1]],.arr true 1 (y.map (ac .u64))])
theorem gI (n:Nat) (oA:(List Cell)) (oB:(List (List Event))) (oC:(List Int)) (oD:(List Int)) (oE:(List (Int×Int))):sC (eE n oA oB oC oD oE) 46 [.fn 75 [] [.ptr (.O 2) 0 0]] [.arr true 4 [[.sl (oA.map Cell.enc),.sl (oB.map (gf Event.enc)),.sl (oC.map eI),.sl (oD.map eI)]],.mapo true (oE.map (pA (ft .u64) (ft .u64))),.arr false 1 [[.mp 1]]] (mR oA oB oC oD oE):=H_ (fun n l=>jD n l) (bid:=2) (mid:=1) rfl rfl (FK _) rfl (fun ys=>rfl)
noncomputable def MM:Code:=sub (aS Tryz.prog 20) [1,1,1,1,0,1,0,0]
noncomputable def MN:Code:=sub (aS Tryz.prog 20) [1,1,1,1,1,0,1,0,0]
noncomputable def MO:Code:=sub (aS Tryz.prog 20) [1,1,1,1,1,1,1,0,1,0,0]
noncomputable def MP:Code:=sub (aS Tryz.prog 20) [1,1,1,1,1,1,1,0,1,0,0]
def MQ (c:ai) (y3:(List Event)) (sa:(List (Int×Int))×Int):St:=bE 72 [(1,.ptr (.O 0) 0 0),(3,.sl (y3.map Event.enc)),(4,.mp 1),(20,.sl (c.First.map Cell.enc)),(21,(vI (c.First.length:Int))),(22,(vI sa.2))] [] [.arr true 4 [(ai.enc c)],.mapo true (sa.1.map (pA (ft .u64) (ft .u64)))] 0
def MR (c:ai) (y3:(List Event)) (tt:((List (Int×Int)))):Ex×St:=(.ex 0,bE 72 [(1,.ptr (.O 0) 0 0),(3,.sl (y3.map Event.enc)),(4,.mp 1)] [] [.arr true 4 [(ai.enc c)],.mapo true (tt.map (pA (ft .u64) (ft .u64)))] 0)
theorem MS (n:Nat) (c:ai) (y3:(List Event)):lC (gK n c y3) MM (MQ c y3) (MR c y3):=tR [] 20 (fun _=>h_) fun sa =>
.rg 6<|tB 23 (decide (sa.2<(c.First.length:Int))) (.rg 7<|tI 24 Cell.enc c.First sa.2<|fun xa2 =>.rg 8<|.op 1000026 (mA 1000026 (((kJ dH sa.1 xa2.Addr xa2.Value).map (pA (ft .u64) (ft .u64)))))<|.o _ (fun _=>zC sa.1 xa2.Addr xa2.Value)<|.wk (wK [1,3,4,20,21,22] [6] 2) l0<|.ret (.inl ((kJ dH sa.1 xa2.Addr xa2.Value),(ae .i64 sa.2 1))))<|
.wk (wK [1,3,4] [] 2) l0<|.ret (.inr sa.1)
def MU (c:ai) (y3:(List Event)) (sa:(List (Int×Int))×Int):St:=bE 72 [(3,.sl (y3.map Event.enc)),(4,.mp 1),(33,.sl (c.Order.map eI)),(34,(vI (c.Order.length:Int))),(35,(vI sa.2))] [] [.arr true 4 [(ai.enc c)],.mapo true (sa.1.map (pA (ft .u64) (ft .u64)))] 0
def MW (c:ai) (y3:(List Event)) (tt:((List (Int×Int)))):Ex×St:=(.ex 2,bE 72 [(4,.mp 1)] [] [.arr true 4 [(ai.enc c)],.mapo true (tt.map (pA (ft .u64) (ft .u64)))] 0)
theorem MX (n:Nat) (c:ai) (y3:(List Event)):lC (gL n c y3) MN (MU c y3) (MW c y3):=tR [] 20 (fun _=>h_) fun sa =>
.rg 11<|tB 36 (decide (sa.2<(c.Order.length:Int))) (.rg 12<|tI 37 eI c.Order sa.2<|fun xa2 =>.rg 13<|tI 41 Event.enc y3 xa2<|fun xa3 =>.rg 14<|.bind 44 (fG n xa3)<|fun ya4 =>.ite 44 ya4 (.op 44 (xL 44 (.v (.bool ya4)) (vT))<|.o _ (fun g_=>(gY n xa3 ya4 g_.1.2))<|.o _ (fun g_=>cB g_.2)<|.rg 15<|.op 1000045 (mA 1000045 (((kJ dH sa.1 xa3.Addr xa3.Store).map (pA (ft .u64) (ft .u64)))))<|.o _ (fun _=>zC sa.1 xa3.Addr xa3.Store)<|.wk (wK [3,4,33,34,35] [9] 2) l0<|.ret (.inl ((kJ dH sa.1 xa3.Addr xa3.Store),(ae .i64 sa.2 1))))<|
.op 44 (xL 44 (.v (.bool ya4)) (vF))<|.o _ (fun g_=>(gY n xa3 ya4 g_.1.2))<|.o _ (fun g_=>cB g_.2)<|.wk (wK [3,4,33,34,35] [9] 2) l0<|.ret (.inl (sa.1,(ae .i64 sa.2 1))))<|
.wk (wK [4] [] 2) l0<|.ret (.inr sa.1)
def MY (c:ai) (t5:((List (Int×Int)))) (sa:Unit):St:=bE 72 [(4,.mp 1),(10,.nilsl),(53,.nilsl),(54,(vI 0)),(55,(vI 0))] [] [.arr true 4 [(ai.enc c)],.mapo true (t5.map (pA (ft .u64) (ft .u64)))] 0
def MZ (c:ai) (t5:((List (Int×Int)))) (tt:Unit):Ex×St:=(.ex 4,bE 72 [(10,.nilsl)] [] [] 0)
theorem M0 (n:Nat) (c:ai) (t5:((List (Int×Int)))):lC (kU n c t5) MO (MY c t5) (MZ c t5):=tR [] 20 (fun _=>h_) fun sa =>
.wk (wK [10] [] 0) l0<|.ret (.inr ())
def M1 (c:ai) (t5:((List (Int×Int)))) (wb8:(List Int)) (sa:(List Cell)×Int):St:=bE 72 [(4,.mp 1),(10,.mf 4),(53,.mf 3),(54,(vI (wb8.length:Int))),(55,(vI sa.2))] [] [.arr true 4 [(ai.enc c)],.mapo true (t5.map (pA (ft .u64) (ft .u64))),.arr false 1 [[.mp 1]],.arr true 1 (wb8.map (ac .u64)),.arr true 2 (sa.1.map Cell.enc)] 0
def M3 (c:ai) (t5:((List (Int×Int)))) (wb8:(List Int)) (tt:((List Cell))):Ex×St:=(.ex 4,bE 72 [(10,.mf 4)] [] [.arr true 4 [(ai.enc c)],.mapo true (t5.map (pA (ft .u64) (ft .u64))),.arr false 1 [[.mp 1]],.arr true 1 (wb8.map (ac .u64)),.arr true 2 (tt.map Cell.enc)] 0)
theorem M4 (n:Nat) (c:ai) (t5:((List (Int×Int)))) (wb8:(List Int)):lC (gM n c t5 wb8) MP (M1 c t5 wb8) (M3 c t5 wb8):=tR [] 20 (fun _=>h_) fun sa =>
.rg 19<|tB 56 (decide (sa.2<(wb8.length:Int))) (.rg 20<|tI 57 (ac .u64) wb8 sa.2<|fun xa2 =>tN 58 (ac .u64) (fun g_=>g_.2)<|.rg 21<|.op 61 (cA 61 ((vU ((fE dH t5 xa2).getD 0))))<|.o _ (fun _=>Fz t5 xa2)<|.rg 22<|tB 63 (((fE dH t5 xa2).getD 0) != 0) (.rg 23<|tG 69 (Nat.ble ((sa.1.length + 1) * 16) 140737488355328)<|.op 69 (Fy 69 4 ((sa.1++([(Cell.mk xa2 ((fE dH t5 xa2).getD 0))]:List Cell)).map Cell.enc))<|.o (kn 2 [[(vU xa2),(vU ((fE dH t5 xa2).getD 0))]]=true) (fun _=>rfl)<|.o (cN [[(vU xa2),(vU ((fE dH t5 xa2).getD 0))]]=true) (fun _=>rfl)<|.o (Nat.ble (((sa.1.map Cell.enc).length + 1) * 16) 140737488355328=true) (fun g_=>iX g_.2)<|.o _ (fun _=>k_ Cell.enc sa.1 ([(Cell.mk xa2 ((fE dH t5 xa2).getD 0))]:List Cell))<|.wk (wK [4,10,53,54,55] [] 5) l0<|.ret (.inl ((sa.1++([(Cell.mk xa2 ((fE dH t5 xa2).getD 0))]:List Cell)),(ae .i64 sa.2 1))))<|
.wk (wK [4,10,53,54,55] [] 5) l0<|.ret (.inl (sa.1,(ae .i64 sa.2 1))))<|
.wk (wK [10] [] 5) l0<|.ret (.inr sa.1)
theorem qx (n:Nat) (c:ai):pC (jK n c) 20 [(eD ai.enc c)] (fun r=>.sl (r.map Cell.enc)):=tP []<|
.rg 1<|tC 15 (eh n c)<|fun y1 =>tB 16 (y1 != 0) (.rq ([]:List Cell))<|
.rg 3<|tS 17 (kN n c.First c.Harts c.From c.Order)<|fun y3 =>.rg 5<|tL 21 Cell.enc c.First<|.bind 3000006 (iter (fun s=>gK n c y3 s) n (([]:(List (Int×Int))),0))<|fun t4 =>tX 3000006 (wK [1,3,4,20,21,22] [] 2) 20 (MS n c y3) (fun g_=>g_.2)<|.rg 10<|tL 34 eI c.Order<|.bind 3000011 (iter (fun s=>gL n c y3 s) n (t4,0))<|fun t5 =>tX 3000011 (wK [3,4,33,34,35] [] 2) 20 (MX n c y3) (fun g_=>g_.2)<|.rg 18<|tS 52 (fh n c.First c.Harts c.From c.Order t5)<|fun y6 =>.bind 53 (eE n c.First c.Harts c.From c.Order t5)<|fun y7 =>.alt 53 y7 (fun wa8 =>.op 53 ⟨[],[],[],[],[],[(53,(.nilsl,[.arr true 4 [(ai.enc c)],.mapo true (t5.map (pA (ft .u64) (ft .u64))),.arr false 1 [[.mp 1]]]))],[],[],[]⟩<|.o _ (fun g_=>gI n c.First c.Harts c.From c.Order t5 (.inl wa8) (eS g_.1.2 g_.2))<|.bind 3000019 (iter (fun s=>kU n c t5 s) n ())<|fun t9 =>tX 3000019 (wK [4,10,53,54,55] [] 2) 20 (M0 n c t5) (fun g_=>g_.2)<|.rq ([]:List Cell))<|
fun wb8 =>.op 53 ⟨[],[],[],[],[],[(53,(.mf 3,[.arr true 4 [(ai.enc c)],.mapo true (t5.map (pA (ft .u64) (ft .u64))),.arr false 1 [[.mp 1]],.arr true 1 (wb8.map (ac .u64))]))],[],[],[]⟩<|.o _ (fun g_=>gI n c.First c.Harts c.From c.Order t5 (.inr wb8) (eS g_.1.2 g_.2))<|tL 54 (ac .u64) wb8<|.bind 3000019 (iter (fun s=>gM n c t5 wb8 s) n (([]:List Cell),0))<|fun t9 =>tX 3000019 ⟨[4,10,53,54,55],[],4,[(10,2)],[],[]⟩ 20 (M4 n c t5 wb8) (fun g_=>g_.2)<|.ret t9
def IG:List (Nat×PT):=[(6,(hZ [0,1,2,3,4,5,6,7,8]))]
noncomputable def M5:Code:=sub (aS Tryz.prog 19) [1,1,0,1,0,0]
def M6 (a:(List Cell)) (b:(List Cell)) (sa:Int):St:=bE 26 [(0,.sl (a.map Cell.enc)),(1,.sl (b.map Cell.enc)),(5,(vI sa))] [] [] 0
def M7 (a:(List Cell)) (b:(List Cell)) (t0:(Unit⊕Unit)):Ex×St:=match t0 with | .inl tt=>(.ex 0,bE 26 [] [] [] 0) | .inr tt=>(.ret,bE 26 [(4,vF)] [] [] 0)
theorem Kx (n:Nat) (a:(List Cell)) (b:(List Cell)):lC (fA n a b) M5 (M6 a b) (M7 a b):=tR IG 19 (uI (fun _=>h_) fun _=>tu) fun sa =>
.rg 4<|tL 13 Cell.enc a<|tB 14 (decide (sa<(a.length:Int))) (.rg 6<|tI 19 Cell.enc a sa<|fun xa2 =>tI 23 Cell.enc b sa<|fun xa3 =>.ite 25 (!(Cell.beq xa2 xa3)) (.op 25 (B_ 25 (vT))<|.o (lB Tryz.prog .neq 43 [(.int .u64 xa2.Addr),(.int .u64 xa2.Value)] [(.int .u64 xa3.Addr),(.int .u64 xa3.Value)]=some (.bool true)) (fun g_=>(jr xa2 xa3).trans (congrArg (fun b=>some (Value.bool b)) g_.2))<|.o (AV.v (.bool true)=AV.v (.bool true)) (fun _=>rfl)<|.wk (wK [4] [] 0) l0<|.ret (.inr (.inr ())))<|
.op 25 (B_ 25 (vF))<|.o (lB Tryz.prog .neq 43 [(.int .u64 xa2.Addr),(.int .u64 xa2.Value)] [(.int .u64 xa3.Addr),(.int .u64 xa3.Value)]=some (.bool false)) (fun g_=>(jr xa2 xa3).trans (congrArg (fun b=>some (Value.bool b)) g_.2))<|.o (AV.v (.bool false)=AV.v (.bool false)) (fun _=>rfl)<|.wk (wK [0,1,5] [] 0) l0<|.ret (.inl (ae .i64 sa 1)))<|
.wk (wK [] [] 0) l0<|.ret (.inr (.inl ()))
theorem jt (n:Nat) (a:(List Cell)) (b:(List Cell)):pC (f_ n a b) 19 [.sl (a.map Cell.enc),.sl (b.map Cell.enc)] (fun r=>.v (.bool r)):=tP IG<|
.rg 1<|tL 7 Cell.enc a<|tL 9 Cell.enc b<|tB 10 ((a.length:Int) != (b.length:Int)) (.ret false)<|
.bind 3000004 (iter (fun s=>fA n a b s) n 0)<|fun t2 =>.alt 3000004 t2 (fun w3 =>tX 3000004 (wK [0,1,5] [] 0) 19 (Kx n a b) (fun g_=>(eS g_.1.2 g_.2))<|.ret true)<|
fun w3 =>tX 3000004 (wK [0,1,5] [] 0) 19 (Kx n a b) (fun g_=>(eS g_.1.2 g_.2))<|.ret false
theorem yr (n:Nat):pC (pM n) 4 [] (fun r=>.v (.bool r)):=tP []<|
.rg 1<|tC 2 (kM n 0)<|fun y1 =>tC 3 (qx n y1)<|fun y2 =>.rg 2<|tC 4 (kM n 0)<|fun y3 =>tC 5 (eh n y3)<|fun y4 =>tB 7 (y4==0) (tC 8 (kM n (-1))<|fun y6 =>tC 9 (eh n y6)<|fun y7 =>tB 12 (y7==2) (tC 16 (jt n y2 ([(Cell.mk 8 1)]:List Cell))<|fun y9 =>.ret y9)<|
.ret false)<|
.ret false
theorem sc (n:Nat) (d:Deps) (most:Int):pC (mF n d most) 56 [(eD Deps.enc d),(vI most)] (fun r=>.v (.bool r)):=tP []<|
.rg 1<|tL 7 eI d.Addr<|tB 10 (decide ((d.Addr.length:Int)≤most)) (tL 13 eI d.Data<|tB 17 (decide ((d.Data.length:Int)≤most)) (tL 20 eI d.Way<|.ret (decide ((d.Way.length:Int)≤most)))<|
.ret false)<|
.ret false
noncomputable def M8:Code:=sub (aS Tryz.prog 25) [1,1,0,1,0,0]
def M9 (l:(List Event)) (sa:Int):St:=bE 23 [(0,.sl (l.map Event.enc)),(5,(vI sa))] [] [] 0
def M_ (l:(List Event)) (t0:(Unit⊕Unit)):Ex×St:=match t0 with | .inl tt=>(.ex 0,bE 23 [] [] [] 0) | .inr tt=>(.ret,bE 23 [(4,vF)] [] [] 0)
theorem Ky (n:Nat) (l:(List Event)):lC (fI n l) M8 (M9 l) (M_ l):=tR [] 25 (uI (fun _=>h_) fun _=>tu) fun sa =>
.rg 4<|tL 12 Event.enc l<|tB 13 (decide (sa<(l.length:Int))) (.rg 6<|tI 18 Event.enc l sa<|fun xa2 =>tC 21 (sc n xa2.Deps 60)<|fun ya3 =>tB 22 (!ya3) (.wk (wK [4] [] 0) l0<|.ret (.inr (.inr ())))<|
.wk (wK [0,5] [] 0) l0<|.ret (.inl (ae .i64 sa 1)))<|
.wk (wK [] [] 0) l0<|.ret (.inr (.inl ()))
theorem p_ (n:Nat) (l:(List Event)) (most:Int):pC (iv n l most) 25 [.sl (l.map Event.enc),(vI most)] (fun r=>.v (.bool r)):=tP []<|
.rg 1<|tL 7 Event.enc l<|tB 9 (decide ((l.length:Int)>most)) (.ret false)<|
.bind 3000004 (iter (fun s=>fI n l s) n 0)<|fun t2 =>.alt 3000004 t2 (fun w3 =>tX 3000004 (wK [0,5] [] 0) 25 (Ky n l) (fun g_=>(eS g_.1.2 g_.2))<|.ret true)<|
fun w3 =>tX 3000004 (wK [0,5] [] 0) 25 (Ky n l) (fun g_=>(eS g_.1.2 g_.2))<|.ret false
noncomputable def Na:Code:=sub (aS Tryz.prog 5) [1,1,0,1,0,0]
def Nb (c:ai) (most:Int) (sa:Int×Int):St:=bE 66 [(1,(vI most)),(2,.ptr (.L 2) 0 0),(5,(vI sa.1)),(6,(vI sa.2))] [(2,(ai.enc c))] [] 0
def Nc (c:ai) (most:Int) (t0:(Int⊕Unit)):Ex×St:=match t0 with | .inl tt=>(.ex 0,bE 66 [(1,(vI most)),(2,.ptr (.L 2) 0 0),(5,(vI tt))] [(2,(ai.enc c))] [] 0) | .inr tt=>(.ret,bE 66 [(4,vF)] [] [] 0)
theorem Kz (n:Nat) (c:ai) (most:Int):lC (gN n c most) Na (Nb c most) (Nc c most):=tR [] 5 (uI (fun _=>h_) fun _=>tu) fun sa =>
.rg 3<|tL 10 (gf Event.enc) c.Harts<|tB 12 (decide (sa.2<(c.Harts.length:Int))) (tB 15 (decide (sa.2<10)) (.rg 5<|tI 22 (gf Event.enc) c.Harts sa.2<|fun xa3 =>tL 24 Event.enc xa3<|.rg 6<|tM 29 (gf Event.enc) (fun g_=>g_.2)<|tC 32 (p_ n xa3 most)<|fun ya4 =>tB 33 (!ya4) (.wk (wK [4] [2] 0) l0<|.ret (.inr (.inr ())))<|
.wk (wK [1,2,5,6] [] 0) l0<|.ret (.inl ((ae .i64 sa.1 (xa3.length:Int)),(ae .i64 sa.2 1))))<|
.wk (wK [1,2,5] [] 0) l0<|.ret (.inr (.inl sa.1)))<|
.wk (wK [1,2,5] [] 0) l0<|.ret (.inr (.inl sa.1))
theorem mD (n:Nat) (c:ai) (most:Int):pC (ig n c most) 5 [(eD ai.enc c),(vI most)] (fun r=>.v (.bool r)):=tP []<|
.bind 3000003 (iter (fun s=>gN n c most s) n (0,0))<|fun t1 =>.alt 3000003 t1 (fun w2 =>tX 3000003 (wK [1,2,5,6] [] 0) 5 (Kz n c most) (fun g_=>(eS g_.1.2 g_.2))<|.rg 8<|tL 36 (gf Event.enc) c.Harts<|tB 38 (decide ((c.Harts.length:Int)≤9)) (tB 43 (decide (w2≤most)) (tL 46 Cell.enc c.First<|tB 50 (decide ((c.First.length:Int)≤most)) (tL 53 eI c.From<|tB 58 (decide ((c.From.length:Int)≤(cf .i64 2 most))) (tL 61 eI c.Order<|.ret (decide ((c.Order.length:Int)≤(cf .i64 2 most))))<|
.ret false)<|
.ret false)<|
.ret false)<|
.ret false)<|
fun w2 =>tX 3000003 (wK [1,2,5,6] [] 0) 5 (Kz n c most) (fun g_=>(eS g_.1.2 g_.2))<|.ret false
def xl (oA:(List Cell)) (oB:(List (List Event))) (oC:(List Int)) (oD:(List Int)) (y:(Int×Int)):AV×List Ob:=(.fn 57 [] [.ptr (.O 2) 0 0,.ptr (.O 3) 0 0,.ptr (.O 1) 0 0],[.arr true 4 [[.sl (oA.map Cell.enc),.sl (oB.map (gf Event.enc)),.sl (oC.map eI),.sl (oD.map eI)]],.arr false 1 [[.ptr (.O 0) 0 0]],.arr true 1 [[(vI y.1)]],.arr true 1 [[(vI y.2)]]])
theorem tz (n:Nat) (oA:(List Cell)) (oB:(List (List Event))) (oC:(List Int)) (oD:(List Int)):sC (rj n oA oB oC oD) 26 [.ptr (.O 0) 0 0] [.arr true 4 [[.sl (oA.map Cell.enc),.sl (oB.map (gf Event.enc)),.sl (oC.map eI),.sl (oD.map eI)]]] (xl oA oB oC oD):=tD []<|
.ret (0,0)
def KA:List (Nat×PT):=[(2,(hZ [0,1,2,3,4,5,6])),(3,(hZ [0,1,2,3,4,5,6,7,8,9,10]))]
def tA (oA:(List Cell)) (oB:(List (List Event))) (oC:(List Int)) (oD:(List Int)) (oE:Int) (oF:Int) (y:(Int×Int)):AV×List Ob:=((vI oE),[.arr true 4 [[.sl (oA.map Cell.enc),.sl (oB.map (gf Event.enc)),.sl (oC.map eI),.sl (oD.map eI)]],.arr false 1 [[.ptr (.O 0) 0 0]],.arr true 1 [[(vI y.1)]],.arr true 1 [[(vI y.2)]]])
theorem l5 (n:Nat) (oA:(List Cell)) (oB:(List (List Event))) (oC:(List Int)) (oD:(List Int)) (oE:Int) (oF:Int):sC (gy n oA oB oC oD oE oF) 57 [.ptr (.O 2) 0 0,.ptr (.O 3) 0 0,.ptr (.O 1) 0 0] [.arr true 4 [[.sl (oA.map Cell.enc),.sl (oB.map (gf Event.enc)),.sl (oC.map eI),.sl (oD.map eI)]],.arr false 1 [[.ptr (.O 0) 0 0]],.arr true 1 [[(vI oE)]],.arr true 1 [[(vI oF)]]] (tA oA oB oC oD oE oF):=tD KA<|
.rg 2<|tL 11 (gf Event.enc) oB<|tB 12 (decide (oF<(oB.length:Int))) (.rg 3<|tI 19 (gf Event.enc) oB oF<|fun x2 =>tL 21 Event.enc x2<|.ret ((ae .i64 oE (x2.length:Int)),(ae .i64 oF 1)))<|
.ret (oE,oF)
noncomputable def Ne:Code:=sub (aS Tryz.prog 6) [1,1,1,1,0,1,0,0]
def Nf (c:ai) (hart:Int) (at_:Int) (sa:Int×Int×Int):St:=bE 49 [(2,(vI at_)),(9,.fn 57 [] [.ptr (.O 2) 0 0,.ptr (.O 3) 0 0,.ptr (.O 1) 0 0]),(39,(vI hart)),(40,(vI sa.2.2))] [] [.arr true 4 [(ai.enc c)],.arr false 1 [[.ptr (.O 0) 0 0]],.arr true 1 [[(vI sa.1)]],.arr true 1 [[(vI sa.2.1)]]] 0
def Ng (c:ai) (hart:Int) (at_:Int) (tt:(Int×Int)):Ex×St:=(.ex 0,bE 49 [(2,(vI at_)),(9,.fn 57 [] [.ptr (.O 2) 0 0,.ptr (.O 3) 0 0,.ptr (.O 1) 0 0])] [] [.arr true 4 [(ai.enc c)],.arr false 1 [[.ptr (.O 0) 0 0]],.arr true 1 [[(vI tt.1)]],.arr true 1 [[(vI tt.2)]]] 0)
theorem Nh (n:Nat) (c:ai) (hart:Int) (at_:Int):lC (i9 n c hart at_) Ne (Nf c hart at_) (Ng c hart at_):=tR [] 6 (fun _=>h_) fun sa =>
.rg 8<|tB 41 (decide (sa.2.2<hart)) (.rg 9<|tS 43 (l5 n c.First c.Harts c.From c.Order sa.1 sa.2.1)<|fun ya2 =>.wk (wK [2,9,39,40] [] 4) l0<|.ret (.inl (ya2.1,ya2.2,(ae .i64 sa.2.2 1))))<|
.wk (wK [2,9] [] 4) l0<|.ret (.inr (sa.1,sa.2.1))
theorem u6 (n:Nat) (c:ai) (hart:Int) (at_:Int):pC (dB n c hart at_) 6 [(eD ai.enc c),(vI hart),(vI at_)] (fun r=>.tup [(vI r.1),(vI r.2)]):=tP []<|
.rg 1<|tC 11 (eh n c)<|fun y1 =>.rg 2<|tB 13 (y1 != 0) (.ret (0,y1))<|
.rg 4<|tB 17 (decide (hart<0)) (.ret (0,6))<|
tL 21 (gf Event.enc) c.Harts<|tB 24 (decide (hart≥(c.Harts.length:Int))) (.ret (0,6))<|
tB 28 (decide (at_<0)) (.ret (0,6))<|
tI 33 (gf Event.enc) c.Harts hart<|fun x6 =>tL 35 Event.enc x6<|tB 37 (decide (at_≥(x6.length:Int))) (.ret (0,6))<|
.rg 6<|tS 38 (tz n c.First c.Harts c.From c.Order)<|fun y8 =>.bind 3000008 (iter (fun s=>i9 n c hart at_ s) n (y8.1,y8.2,0))<|fun t9 =>tX 3000008 (wK [2,9,39,40] [] 4) 6 (Nh n c hart at_) (fun g_=>g_.2)<|.rg 11<|tS 46 (l5 n c.First c.Harts c.From c.Order t9.1 t9.2)<|fun y10 =>.ret ((ae .i64 t9.1 at_),0)
def IH:List (Nat×PT):=[(4,(hZ [0,1,2,3,4,5,6,7,8,9,10,11,12,13,14,15,16,17,18,19,20,21,22,23,24]))]
noncomputable def Ni:Code:=sub (aS Tryz.prog 32) [1,0,1,0,0]
def Nj (l:(List Cell)) (sa:Int):St:=bE 35 [(0,.sl (l.map Cell.enc)),(3,(vI sa))] [] [] 0
def Nk (l:(List Cell)) (t0:(Unit⊕Unit)):Ex×St:=match t0 with | .inl tt=>(.ex 0,bE 35 [] [] [] 0) | .inr tt=>(.ret,bE 35 [(2,vF)] [] [] 0)
theorem KB (n:Nat) (l:(List Cell)):lC (kV n l) Ni (Nj l) (Nk l):=tR IH 32 (uI (fun _=>h_) fun _=>tu) fun sa =>
.rg 2<|tL 6 Cell.enc l<|tB 7 (decide (sa<(l.length:Int))) (.rg 4<|tI 12 Cell.enc l sa<|fun xa2 =>tB 17 ((ri .u64 xa2.Addr 8) != 0) (.wk (wK [2] [] 0) l0<|.ret (.inr (.inr ())))<|
tB 20 (decide (sa>0)) (tI 24 Cell.enc l (al .i64 sa 1)<|fun xa5 =>tM 29 Cell.enc (fun g_=>g_.1.1.1.2)<|tB 34 (decide (xa5.Addr≥xa2.Addr)) (.wk (wK [2] [] 0) l0<|.ret (.inr (.inr ())))<|
.wk (wK [0,3] [] 0) l0<|.ret (.inl (ae .i64 sa 1)))<|
.wk (wK [0,3] [] 0) l0<|.ret (.inl (ae .i64 sa 1)))<|
.wk (wK [] [] 0) l0<|.ret (.inr (.inl ()))
theorem yu (n:Nat) (l:(List Cell)):pC (lg n l) 32 [.sl (l.map Cell.enc)] (fun r=>.v (.bool r)):=tP IH<|
.bind 3000002 (iter (fun s=>kV n l s) n 0)<|fun t1 =>.alt 3000002 t1 (fun w2 =>tX 3000002 (wK [0,3] [] 0) 32 (KB n l) (fun g_=>(eS g_.1.2 g_.2))<|.ret true)<|
fun w2 =>tX 3000002 (wK [0,3] [] 0) 32 (KB n l) (fun g_=>(eS g_.1.2 g_.2))<|.ret false
theorem mS (n:Nat) (e:Event):pC (lh n e) 64 [(eD Event.enc e)] (fun r=>.v (.bool r)):=tP []<|
.rg 1<|tB 6 (e.Kind==1) (.ret true)<|
tB 11 (e.Kind==3) (.ret true)<|
.ret (e.Kind==5)
theorem eX (n:Nat) (e:Event):pC (fj n e) 49 [(eD Event.enc e)] (fun r=>.v (.bool r)):=tP []<|
.rg 1<|tB 6 (e.Kind==2) (.ret true)<|
tB 11 (e.Kind==4) (.ret true)<|
.ret (e.Kind==5)
theorem ju (n:Nat) (e:Event):pC (gz n e) 36 [(eD Event.enc e)] (fun r=>.v (.bool r)):=tP []<|
.rg 1<|tC 4 (mS n e)<|fun y1 =>tB 5 y1 (.ret true)<|
tC 7 (eX n e)<|fun y3 =>.ret y3
def II:List (Nat×PT):=[(4,(hZ [0,1,2,3,4,5,6,7,8,9,10,11,12,13,14,15,16,17,18,19,20]))]
noncomputable def Nl:Code:=sub (aS Tryz.prog 88) [1,0,1,0,0]
def Nm (l:(List Int)) (sa:Int):St:=bE 31 [(0,.sl (l.map eI)),(3,(vI sa))] [] [] 0
def Nn (l:(List Int)) (t0:(Unit⊕Unit)):Ex×St:=match t0 with | .inl tt=>(.ex 0,bE 31 [] [] [] 0) | .inr tt=>(.ret,bE 31 [(2,vF)] [] [] 0)
theorem KC (n:Nat) (l:(List Int)):lC (eK n l) Nl (Nm l) (Nn l):=tR II 88 (uI (fun _=>h_) fun _=>tu) fun sa =>
.rg 2<|tL 6 eI l<|tB 7 (decide (sa<(l.length:Int))) (.rg 4<|tI 12 eI l sa<|fun xa2 =>tB 15 (decide (xa2<0)) (.wk (wK [2] [] 0) l0<|.ret (.inr (.inr ())))<|
tB 18 (decide (sa>0)) (tI 22 eI l (al .i64 sa 1)<|fun xa5 =>tM 26 eI (fun g_=>g_.1.1.1.2)<|tB 30 (decide (xa5≥xa2)) (.wk (wK [2] [] 0) l0<|.ret (.inr (.inr ())))<|
.wk (wK [0,3] [] 0) l0<|.ret (.inl (ae .i64 sa 1)))<|
.wk (wK [0,3] [] 0) l0<|.ret (.inl (ae .i64 sa 1)))<|
.wk (wK [] [] 0) l0<|.ret (.inr (.inl ()))
theorem xm (n:Nat) (l:(List Int)):pC (nj n l) 88 [.sl (l.map eI)] (fun r=>.v (.bool r)):=tP II<|
.bind 3000002 (iter (fun s=>eK n l s) n 0)<|fun t1 =>.alt 3000002 t1 (fun w2 =>tX 3000002 (wK [0,3] [] 0) 88 (KC n l) (fun g_=>(eS g_.1.2 g_.2))<|.ret true)<|
fun w2 =>tX 3000002 (wK [0,3] [] 0) 88 (KC n l) (fun g_=>(eS g_.1.2 g_.2))<|.ret false
theorem mT (n:Nat) (l:(List Int)) (at_:Int):pC (li n l at_) 79 [.sl (l.map eI),(vI at_)] (fun r=>.v (.bool r)):=tP []<|
.rg 1<|tC 6 (xm n l)<|fun y1 =>tB 7 y1 (tL 9 eI l<|tB 11 ((l.length:Int)==0) (.ret true)<|
tL 14 eI l<|tI 16 eI l (al .i64 (l.length:Int) 1)<|fun x4 =>.ret (decide (x4<at_)))<|
.ret false
end Go.Proofs.YtcckeabholabcaaGreat
