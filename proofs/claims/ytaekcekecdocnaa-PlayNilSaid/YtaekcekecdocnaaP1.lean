/- What the functions compute, they compute: printed by a program, path by path. No conditions. -/
import Derived.Test.YtaekcekecdocnaaP0
import Derived.KernelRfl
namespace Go.Proofs.Ytaekcekecdocnaa
open Go A
set_option linter.unusedVariables false
set_option maxRecDepth 100000
set_option maxHeartbeats 0

def zT:List Nat:=[2,3,4,5,6,7,9,10,11,12,13,14,15,16,18,19,20,21,22,24,26,27,28,29,30,33,35,38,39,40,41,42,45,46,47,48,49,50,52,53,54,55,56,57,58,60,61,62,63,64,65,66,67,68,69,70,71,72,73,74,75,76,77,78,80,81,82,83,84,85,86,87,88,89,90,91,92,94,96,97,98,99,100,101,102,103,105,106,107,108,110,111,112,113,114,115,116,117,118,119,120,121]
noncomputable def yG:A.iU:={ P:=Try.prog,pure:=fun f=>!(bh zT f),pol:=fun f=>{ esc:=match f with | 7=>[29] | 10=>[45] | 11=>[18] | 19=>[6] | 22=>[6,13] | 25=>[3,4] | 28=>[3] | 32=>[1,3] | 41=>[3,4,5] | 45=>[6] | 49=>[4] | 52=>[1,3] | 60=>[8] | 61=>[3,11] | 71=>[2,5] | 100=>[7] | 101=>[9] | _=>[],ms:=match f with | 3=>[29,30,75,77,155] | 4=>[41] | 5=>[26,33,40,46,56] | 6=>[27] | 7=>[51] | 21=>[26] | 22=>[44,60] | 33=>[5] | 38=>[5] | 45=>[24] | 54=>[45,62] | 60=>[33] | 61=>[22,82] | 71=>[10] | 82=>[40,63] | 86=>[28] | 88=>[16] | 91=>[5] | _=>[],bx:=match f with | 3=>[5,8,12,15,22] | 4=>[10,13] | 5=>[1,3] | 7=>[8] | 8=>[2] | 9=>[4,9] | 10=>[4] | 22=>[2,4,9,10,16,17] | 23=>[0] | 24=>[1,3] | 25=>[2] | 26=>[1] | 28=>[1] | 29=>[2,3] | 31=>[1] | 36=>[1] | 37=>[0] | 45=>[8] | 47=>[3] | 48=>[2,4] | 54=>[1] | 55=>[1] | 59=>[3] | 60=>[3,10] | 61=>[1,12] | 62=>[3] | 72=>[8] | 79=>[2] | 81=>[5] | 82=>[2,5] | 86=>[1] | _=>[],st:=zT,fz:=match f with | 6=>[15] | _=>[],dc:=match f with | 10=>[1075] | _=>[],ow:=match f with | 6=>[] | 7=>[] | 10=>[] | 11=>[] | _=>[],cl:=match f with | 6=>[9999] | 7=>[9999] | 10=>[9999] | 11=>[9999] | _=>[] } }
set_option maxRecDepth 1000000 in
set_option maxHeartbeats 0 in
theorem vy:A.xL yG 4000 6 [] (vT)=(AV.v (.bool true)=AV.v (.bool true)):=by kernel_rfl
theorem wO:yG.P.follows .mixedOrders=true:=by kernel_rfl
set_option maxRecDepth 1000000 in
theorem oU (n:Nat) (r:Bool) (h:kI n=some r):bW Try.prog 6 [] (z4 (.v (.bool r))):=by
  have e:=Option.some.inj h
  subst e
  exact bW.ofN (.none rfl rfl) (cfg:=yG) (si wN) wO (by rw [vy])
def zd:List (Nat×PT):=[(8,(xM [0,1,2,3,4,5,6,7,8,9,10,11,12,13,14,15])),(9,(xM [0,1,2,3,4,5,6,7,8,9,10,11,12,13,14])),(11,(xM [0,1,2,3,4,5,6,7,8]))]
theorem jM (n:Nat) (n_:Int):pC (eV n n_) 10 [.nilp,(vI n_)] (fun r=>.tup [(yZ Touch.enc r.1),.v (.bool r.2.1),(vI r.2.2)]):=tP zd<|
.ret ((Touch.mk 0 0 0 false false 0 0 false),false,1)
theorem jN (n:Nat) (n_:Int):pC (eW n n_) 9 [.nilp,(vI n_)] (fun r=>.tup [(yZ Touch.enc r.1),.v (.bool r.2.1),(vI r.2.2)]):=tP []<|
.ret ((Touch.mk 0 0 0 false false 0 0 false),false,1)
def ze:List (Nat×PT):=[(5,(xM [0,1,2,3]))]
theorem kH (n:Nat) (picks:(List Int)):pC (fU n picks) 19 [.nilp,.sl (picks.map eI)] (fun r=>.tup [.sl (r.1.map Touch.enc),(vI r.2)]):=tP ze<|
.rq (([]:List Touch),1)
theorem jO (n:Nat) (addr:Int):pC (eX n addr) 12 [.nilp,(vI addr)] (fun r=>.tup [(vI r.1),(vI r.2)]):=tP []<|
.ret (0,1)
theorem aK (n:Nat) (n_:Int):pC (a8 n n_) 35 [.nilp,(vI n_)] (fun r=>(y8 bU.enc r)):=tP []<|
.ret (none:Option bU)
theorem jP (n:Nat) (n_:Int):pC (eY n n_) 20 [.nilp,(vI n_)] (fun r=>.tup [(vI r.1),.v (.bool r.2)]):=tP []<|
.rg 1<|.bind 9 (a8 n n_)<|fun y1 =>.opt 9 y1 (.op 9 (cA 9 (.nilp))<|.o _ (fun g_=>(aK n n_ none (eS g_.1.2 g_.2)))<|.ret (0,false))<|
fun z2 =>.op 9 (cA 9 (.fptr (bU.enc z2) 0))<|.o _ (fun g_=>(aK n n_ (some z2) (eS g_.1.2 g_.2)))<|.rg 2<|tB 18 (!z2.ended) (.ret (0,false))<|
.ret (z2.with_,true)
theorem eg (n:Nat) (n_:Int):pC (dH n n_) 15 [.nilp,(vI n_)] (fun r=>(vI r)):=tP []<|
.rg 1<|.bind 8 (a8 n n_)<|fun y1 =>.opt 8 y1 (.op 8 (cA 8 (.nilp))<|.o _ (fun g_=>(aK n n_ none (eS g_.1.2 g_.2)))<|.ret (-1))<|
fun z2 =>.op 8 (cA 8 (.fptr (bU.enc z2) 0))<|.o _ (fun g_=>(aK n n_ (some z2) (eS g_.1.2 g_.2)))<|.ret z2.at_
theorem dT (n:Nat) (n_:Int) (reg:Int):pC (de n n_ reg) 16 [.nilp,(vI n_),(vI reg)] (fun r=>(vI r)):=tP []<|
.rg 1<|.bind 10 (a8 n n_)<|fun y1 =>.opt 10 y1 (.op 10 (cA 10 (.nilp))<|.o _ (fun g_=>(aK n n_ none (eS g_.1.2 g_.2)))<|.ret 0)<|
fun z2 =>.op 10 (cA 10 (.fptr (bU.enc z2) 0))<|.o _ (fun g_=>(aK n n_ (some z2) (eS g_.1.2 g_.2)))<|.rg 2<|tB 17 (decide (reg<0)) (.ret 0)<|
tL 23 eI z2.regs<|tB 25 (decide (reg≥(z2.regs.length:Int))) (.ret 0)<|
.rg 4<|tI 31 eI z2.regs reg<|fun x5 =>.ret x5
theorem cO (n:Nat) (n_:Int):pC (ca n n_) 13 [.nilp,(vI n_)] (fun r=>.v (.bool r)):=tP []<|
.rg 1<|.bind 8 (a8 n n_)<|fun y1 =>.opt 8 y1 (.op 8 (cA 8 (.nilp))<|.o _ (fun g_=>(aK n n_ none (eS g_.1.2 g_.2)))<|.ret false)<|
fun z2 =>.op 8 (cA 8 (.fptr (bU.enc z2) 0))<|.o _ (fun g_=>(aK n n_ (some z2) (eS g_.1.2 g_.2)))<|.ret z2.ended
theorem cQ (n:Nat) (n_:Int):pC (cb n n_) 14 [.nilp,(vI n_)] (fun r=>.v (.bool r)):=tP []<|
.rg 1<|.bind 8 (a8 n n_)<|fun y1 =>.opt 8 y1 (.op 8 (cA 8 (.nilp))<|.o _ (fun g_=>(aK n n_ none (eS g_.1.2 g_.2)))<|.ret false)<|
fun z2 =>.op 8 (cA 8 (.fptr (bU.enc z2) 0))<|.o _ (fun g_=>(aK n n_ (some z2) (eS g_.1.2 g_.2)))<|.ret z2.broken
def zf:List (Nat×PT):=[(3,(xM [0,1,2,3,4,5,6,7,8,9,10,11,12])),(7,(xM [0,1,2,3,4,5,6,7,8,9,10,11,12,13,14,15,16]))]
theorem bn (n:Nat):pC (bo n) 11 [.nilp] (fun r=>(y8 cT.enc r)):=tP zf<|
.ret (none:Option cT)
noncomputable def Z0:Code:=sub (iD Try.prog 18) [1,1,1,0,1,0,0]
def Z1 (harts:Int) (steps:Int) (sa:(List Int)×Int):St:=yy 32 [(0,(vI harts)),(5,.mf 0),(20,(vI ((List.replicate (steps).toNat (0:Int)).length:Int))),(21,(vI sa.2))] [] [.arr true 1 (sa.1.map eI)] 0
def Z2 (harts:Int) (steps:Int) (tt:((List Int))):Ex×St:=(.ex 0,yy 32 [(5,.mf 0)] [] [.arr true 1 (tt.map eI)] 0)
theorem Z3 (n:Nat) (harts:Int) (steps:Int):lC (bS n harts steps) Z0 (Z1 harts steps) (Z2 harts steps):=tR [] 18 (fun _=>zI) fun sa =>
.rg 5<|tB 22 (decide (sa.2<((List.replicate (steps).toNat (0:Int)).length:Int))) (.rg 7<|tG 28 (decide (IntKind.i64=IntKind.i64)&&!(harts==0))<|.op 28 (hA 28)<|.o _ (fun g_=>g_.2)<|tI 29 eI sa.1 sa.2<|fun xa3 =>.op 1000029 (z3 1000029 [(vI xa3)] 0 ((sa.1.set (sa.2).toNat (ol .i64 sa.2 harts)).map eI))<|.o _ (fun g_=>xx eI g_.2)<|.o _ (fun _=>xz eI sa.1 ((sa.2).toNat) (ol .i64 sa.2 harts))<|.wk (wK [0,5,20,21] [] 1) l0<|.ret (.inl ((sa.1.set (sa.2).toNat (ol .i64 sa.2 harts)),(p_ .i64 sa.2 1))))<|
.wk (wK [5] [] 1) l0<|.ret (.inr sa.1)
theorem fD (n:Nat) (harts:Int) (steps:Int):pC (cJ n harts steps) 18 [(vI harts),(vI steps)] (fun r=>.sl (r.map eI)):=tP []<|
.rg 1<|tB 9 (decide (harts<1)) (.rq ([]:List Int))<|
tB 13 (decide (steps<1)) (.rq ([]:List Int))<|
tB 16 (decide (steps>65536)) (.rq ([]:List Int))<|
.rg 3<|tG 18 (decide ((0:Int)≤steps)&&decide (steps≤steps)&&decide (8 * steps≤140737488355328)&&decide (steps≤140737488355328)&&Nat.blt 0 1)<|.op 18 (zS 18 0 ((List.replicate (steps).toNat (0:Int)).map eI))<|.o _ (fun g_=>g_.2)<|.o (List.replicate (steps).toNat [(vI 0)]=(List.replicate (steps).toNat (0:Int)).map eI) (fun _=>xA eI _ 0)<|.rg 4<|tL 20 eI (List.replicate (steps).toNat (0:Int))<|.bind 3000005 (iter (fun s=>bS n harts steps s) n ((List.replicate (steps).toNat (0:Int)),0))<|fun t5 =>tX 3000005 (wK [0,5,20,21] [] 1) 18 (Z3 n harts steps) (fun g_=>g_.2)<|.ret t5
noncomputable def Z4:Code:=sub (iD Try.prog 21) [1,1,1,0,1,0,0]
def Z5 (harts:Int) (steps:Int) (sa:(List Int)×Int):St:=yy 29 [(0,(vI harts)),(1,(vI steps)),(5,.mf 0),(6,(vI sa.2))] [] [.arr true 1 (sa.1.map eI)] 0
def Z6 (harts:Int) (steps:Int) (tt:((List Int))):Ex×St:=(.ex 0,yy 29 [(5,.mf 0)] [] [.arr true 1 (tt.map eI)] 0)
theorem Z7 (n:Nat) (harts:Int) (steps:Int):lC (bZ n harts steps) Z4 (Z5 harts steps) (Z6 harts steps):=tR [] 21 (fun _=>zI) fun sa =>
.rg 5<|tB 19 (decide (sa.2<steps)) (.rg 7<|tG 25 (decide (IntKind.i64=IntKind.i64)&&!(harts==0))<|.op 25 (hA 25)<|.o _ (fun g_=>g_.2)<|tG 27 (Nat.ble ((sa.1.length + 1) * 8) 140737488355328)<|.op 27 (zS 27 0 ((sa.1++([(ol .i64 sa.2 harts)]:List Int)).map eI))<|.o (q_ 1 [[(vI (ol .i64 sa.2 harts))]]=true) (fun _=>rfl)<|.o (e5 [[(vI (ol .i64 sa.2 harts))]]=true) (fun _=>rfl)<|.o (Nat.ble (((sa.1.map eI).length + 1) * 8) 140737488355328=true) (fun g_=>vq g_.2)<|.o _ (fun _=>xy eI sa.1 ([(ol .i64 sa.2 harts)]:List Int))<|.wk (wK [0,1,5,6] [] 1) l0<|.ret (.inl ((sa.1++([(ol .i64 sa.2 harts)]:List Int)),(p_ .i64 sa.2 1))))<|
.wk (wK [5] [] 1) l0<|.ret (.inr sa.1)
theorem f9 (n:Nat) (harts:Int) (steps:Int):pC (dy n harts steps) 21 [(vI harts),(vI steps)] (fun r=>.sl (r.map eI)):=tP []<|
.rg 1<|tB 9 (decide (harts<1)) (.rq ([]:List Int))<|
tB 13 (decide (steps<1)) (.rq ([]:List Int))<|
tB 16 (decide (steps>65536)) (.rq ([]:List Int))<|
.bind 3000005 (iter (fun s=>bZ n harts steps s) n (([]:List Int),0))<|fun t4 =>tX 3000005 ⟨[0,1,5,6],[],0,[(5,1)],[],[]⟩ 21 (Z7 n harts steps) (fun g_=>g_.2)<|.ret t4
def xW:List (Nat×PT):=[(6,(xM [0,1,2,3,4,5,6,7,8]))]
noncomputable def Z8:Code:=sub (iD Try.prog 17) [1,1,0,1,0,0]
def Z9 (a:(List Int)) (b:(List Int)) (sa:Int):St:=yy 26 [(0,.sl (a.map eI)),(1,.sl (b.map eI)),(5,(vI sa))] [] [] 0
def z5 (a:(List Int)) (b:(List Int)) (t0:(Unit⊕Unit)):Ex×St:=match t0 with | .inl tt=>(.ex 0,yy 26 [] [] [] 0) | .inr tt=>(.ret,yy 26 [(4,vF)] [] [] 0)
theorem zU (n:Nat) (a:(List Int)) (b:(List Int)):lC (bL n a b) Z8 (Z9 a b) (z5 a b):=tR xW 17 (z1 (fun _=>zI) fun _=>zY) fun sa =>
.rg 4<|tL 13 eI a<|tB 14 (decide (sa<(a.length:Int))) (.rg 6<|tI 19 eI a sa<|fun xa2 =>tI 23 eI b sa<|fun xa3 =>tB 25 (xa2 != xa3) (.wk (wK [4] [] 0) l0<|.ret (.inr (.inr ())))<|
.wk (wK [0,1,5] [] 0) l0<|.ret (.inl (p_ .i64 sa 1)))<|
.wk (wK [] [] 0) l0<|.ret (.inr (.inl ()))
theorem eh (n:Nat) (a:(List Int)) (b:(List Int)):pC (b0 n a b) 17 [.sl (a.map eI),.sl (b.map eI)] (fun r=>.v (.bool r)):=tP xW<|
.rg 1<|tL 7 eI a<|tL 9 eI b<|tB 10 ((a.length:Int) != (b.length:Int)) (.ret false)<|
.bind 3000004 (iter (fun s=>bL n a b s) n 0)<|fun t2 =>.alt 3000004 t2 (fun w3 =>tX 3000004 (wK [0,1,5] [] 0) 17 (zU n a b) (fun g_=>(eS g_.1.2 g_.2))<|.ret true)<|
fun w3 =>tX 3000004 (wK [0,1,5] [] 0) 17 (zU n a b) (fun g_=>(eS g_.1.2 g_.2))<|.ret false
theorem mg (n:Nat) (hart:Int) (reg:Int) (addr:Int) (steps:Int):pC (fH n hart reg addr steps) 4 [(vI hart),(vI reg),(vI addr),(vI steps)] (fun r=>.v (.bool r)):=tP []<|
.rg 1<|tC 22 (oU n)<|fun y1 =>tB 23 (!y1) (.ret false)<|
.rg 4<|tC 27 (jM n hart)<|fun y3 =>.rg 5<|tC 34 (jN n hart)<|fun y4 =>.rg 6<|tC 42 (kH n ([hart]:List Int))<|fun y5 =>.rg 7<|tC 48 (jO n addr)<|fun y6 =>.rg 8<|tC 54 (jP n hart)<|fun y7 =>.rg 9<|tB 59 (decide (steps>4096)) (tB 62 (decide (steps≤65536)) (.rg 11<|tB 65 (y3.2.2==1) (tB 69 (y4.2.2==1) (tB 73 (y5.2==1) (tB 77 (y6.2==1) (tB 81 (!y3.2.1) (tB 85 (!y4.2.1) (tL 87 Touch.enc y5.1<|tB 90 ((y5.1.length:Int)==0) (tB 94 (y6.1==0) (tB 98 (y7.1==0) (tB 102 (!y7.2) (tC 105 (eg n hart)<|fun y20 =>tB 108 (y20==(-1)) (tC 112 (dT n hart reg)<|fun y22 =>tB 115 (y22==0) (tC 118 (cO n hart)<|fun y24 =>tB 121 (!y24) (tC 124 (cQ n hart)<|fun y26 =>tB 127 (!y26) (.bind 129 (bo n)<|fun y28 =>.opt 129 y28 (.op 129 (cA 129 (.nilp))<|.o _ (fun g_=>(bn n none (eS g_.1.2 g_.2)))<|tC 135 (fD n hart 4096)<|fun y29 =>tC 138 (f9 n hart 4096)<|fun y30 =>tC 139 (eh n y29 y30)<|fun y31 =>.ret y31)<|
fun z29 =>.op 129 (cA 129 (.fptr (cT.enc z29) 0))<|.o _ (fun g_=>(bn n (some z29) (eS g_.1.2 g_.2)))<|.ret false)<|
.ret false)<|
.ret false)<|
.ret false)<|
.ret false)<|
.ret false)<|
.ret false)<|
.ret false)<|
.ret false)<|
.ret false)<|
.ret false)<|
.ret false)<|
.ret false)<|
.ret false)<|
.ret false)<|
.rg 11<|tB 65 (y3.2.2==1) (tB 69 (y4.2.2==1) (tB 73 (y5.2==1) (tB 77 (y6.2==1) (tB 81 (!y3.2.1) (tB 85 (!y4.2.1) (tL 87 Touch.enc y5.1<|tB 90 ((y5.1.length:Int)==0) (tB 94 (y6.1==0) (tB 98 (y7.1==0) (tB 102 (!y7.2) (tC 105 (eg n hart)<|fun y20 =>tB 108 (y20==(-1)) (tC 112 (dT n hart reg)<|fun y22 =>tB 115 (y22==0) (tC 118 (cO n hart)<|fun y24 =>tB 121 (!y24) (tC 124 (cQ n hart)<|fun y26 =>tB 127 (!y26) (.bind 129 (bo n)<|fun y28 =>.opt 129 y28 (.op 129 (cA 129 (.nilp))<|.o _ (fun g_=>(bn n none (eS g_.1.2 g_.2)))<|tC 135 (fD n hart steps)<|fun y29 =>tC 138 (f9 n hart steps)<|fun y30 =>tC 139 (eh n y29 y30)<|fun y31 =>.ret y31)<|
fun z29 =>.op 129 (cA 129 (.fptr (cT.enc z29) 0))<|.o _ (fun g_=>(bn n (some z29) (eS g_.1.2 g_.2)))<|.ret false)<|
.ret false)<|
.ret false)<|
.ret false)<|
.ret false)<|
.ret false)<|
.ret false)<|
.ret false)<|
.ret false)<|
.ret false)<|
.ret false)<|
.ret false)<|
.ret false)<|
.ret false)<|
.ret false)<|
.rg 11<|tB 65 (y3.2.2==1) (tB 69 (y4.2.2==1) (tB 73 (y5.2==1) (tB 77 (y6.2==1) (tB 81 (!y3.2.1) (tB 85 (!y4.2.1) (tL 87 Touch.enc y5.1<|tB 90 ((y5.1.length:Int)==0) (tB 94 (y6.1==0) (tB 98 (y7.1==0) (tB 102 (!y7.2) (tC 105 (eg n hart)<|fun y19 =>tB 108 (y19==(-1)) (tC 112 (dT n hart reg)<|fun y21 =>tB 115 (y21==0) (tC 118 (cO n hart)<|fun y23 =>tB 121 (!y23) (tC 124 (cQ n hart)<|fun y25 =>tB 127 (!y25) (.bind 129 (bo n)<|fun y27 =>.opt 129 y27 (.op 129 (cA 129 (.nilp))<|.o _ (fun g_=>(bn n none (eS g_.1.2 g_.2)))<|tC 135 (fD n hart steps)<|fun y28 =>tC 138 (f9 n hart steps)<|fun y29 =>tC 139 (eh n y28 y29)<|fun y30 =>.ret y30)<|
fun z28 =>.op 129 (cA 129 (.fptr (cT.enc z28) 0))<|.o _ (fun g_=>(bn n (some z28) (eS g_.1.2 g_.2)))<|.ret false)<|
.ret false)<|
.ret false)<|
.ret false)<|
.ret false)<|
.ret false)<|
.ret false)<|
.ret false)<|
.ret false)<|
.ret false)<|
.ret false)<|
.ret false)<|
.ret false)<|
.ret false)<|
.ret false
end Go.Proofs.Ytaekcekecdocnaa
