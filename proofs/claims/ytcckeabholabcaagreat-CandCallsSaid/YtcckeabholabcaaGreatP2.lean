/- What the functions compute, they compute: printed by a program, path by path. No conditions. -/
import Derived.Test.YtcckeabholabcaaGreatP1
import Derived.KernelRfl
namespace Go.Proofs.YtcckeabholabcaaGreat
open Go A
set_option linter.unusedVariables false
set_option maxRecDepth 100000
set_option maxHeartbeats 0

noncomputable def Np:Code:=sub (aS Tryz.prog 62) [1,1,1,1]
noncomputable def KD:Code:=sub (aS Tryz.prog 62) [1,1,1,0,1,1,1]
noncomputable def KF:Code:=sub KD [1]
noncomputable def Nq:Code:=sub KF [1]
def Nr (sa:Bool):St:=bE 216 [(4,.v (.bool sa))] [] [] 0
def Ns (tt:Int):Ex×St:=(.ret,bE 216 [(2,(vI tt))] [] [] 0)
theorem i3 (n:Nat):dC (af n) Np (Nr) (Ns):=Dw [] 62 fun sa =>
.rg 9<|tB 215 (!sa) (.wk (wK [2] [] 0) l0<|.ret 2)<|
.wk (wK [2] [] 0) l0<|.ret 0
def Nt (e:Event) (sd:Bool):St:=bE 216 [(1,.ptr (.L 1) 0 0),(4,.v (.bool sd))] [(1,(Event.enc e))] [] 0
def Nu (e:Event) (tt:Bool):Ex×St:=(.nrm,bE 216 [(4,.v (.bool tt))] [] [] 0)
theorem Ce (n:Nat) (e:Event):dC (bk n e) Nq (Nt e) (Nu e):=Dw [] 62 fun sd =>
.rg 8<|tB 179 sd (tC 185 (mT n e.Deps.Addr e.At)<|fun yd2 =>tB 187 yd2 (tC 193 (mT n e.Deps.Data e.At)<|fun yd4 =>tB 195 yd4 (tC 201 (mT n e.Deps.Way e.At)<|fun yd6 =>tB 203 yd6 (tC 205 (eX n e)<|fun yd8 =>tB 206 yd8 (.wk (wK [4] [1] 0) l0<|.ret true)<|
tL 210 eI e.Deps.Data<|.wk (wK [4] [1] 0) l0<|.ret ((e.Deps.Data.length:Int)==0))<|
.wk (wK [4] [1] 0) l0<|.ret false)<|
.wk (wK [4] [1] 0) l0<|.ret false)<|
.wk (wK [4] [1] 0) l0<|.ret false)<|
.wk (wK [4] [1] 0) l0<|.ret false
def Nv (e:Event) (sb:Bool):St:=bE 216 [(1,.ptr (.L 1) 0 0),(4,.v (.bool sb))] [(1,(Event.enc e))] [] 0
def Nw (e:Event) (tt:Bool):Ex×St:=(.nrm,bE 216 [(4,.v (.bool tt))] [] [] 0)
theorem FE (n:Nat) (e:Event):dC (bP n e) KF (Nv e) (Nw e):=Dw [] 62 fun sb =>
.rg 7<|tB 151 sb (tB 155 (e.Kind==4) (tB 160 (decide (e.Pair≥0)) (tB 167 (decide (e.Pair<e.At)) (.bind 4000008 (bk n e true)<|fun tb5 =>tQ 4000008 (wK [1,4] [] 0) (Ce n e) (fun g_=>g_.2)<|.wk (wK [4] [] 0) l0<|.ret tb5)<|
tB 171 (e.Kind != 4) (.bind 4000008 (bk n e (e.Pair==0))<|fun tb6 =>tQ 4000008 (wK [1,4] [] 0) (Ce n e) (fun g_=>g_.2)<|.wk (wK [4] [] 0) l0<|.ret tb6)<|
.bind 4000008 (bk n e false)<|fun tb6 =>tQ 4000008 (wK [1,4] [] 0) (Ce n e) (fun g_=>g_.2)<|.wk (wK [4] [] 0) l0<|.ret tb6)<|
tB 171 (e.Kind != 4) (.bind 4000008 (bk n e (e.Pair==0))<|fun tb5 =>tQ 4000008 (wK [1,4] [] 0) (Ce n e) (fun g_=>g_.2)<|.wk (wK [4] [] 0) l0<|.ret tb5)<|
.bind 4000008 (bk n e false)<|fun tb5 =>tQ 4000008 (wK [1,4] [] 0) (Ce n e) (fun g_=>g_.2)<|.wk (wK [4] [] 0) l0<|.ret tb5)<|
tB 171 (e.Kind != 4) (.bind 4000008 (bk n e (e.Pair==0))<|fun tb4 =>tQ 4000008 (wK [1,4] [] 0) (Ce n e) (fun g_=>g_.2)<|.wk (wK [4] [] 0) l0<|.ret tb4)<|
.bind 4000008 (bk n e false)<|fun tb4 =>tQ 4000008 (wK [1,4] [] 0) (Ce n e) (fun g_=>g_.2)<|.wk (wK [4] [] 0) l0<|.ret tb4)<|
.bind 4000008 (bk n e false)<|fun tb2 =>tQ 4000008 (wK [1,4] [] 0) (Ce n e) (fun g_=>g_.2)<|.wk (wK [4] [] 0) l0<|.ret tb2
def Nx (e:Event) (sa:Bool):St:=bE 216 [(1,.ptr (.L 1) 0 0),(4,.v (.bool sa))] [(1,(Event.enc e))] [] 0
def Ny (e:Event) (tt:Bool):Ex×St:=(.nrm,bE 216 [(4,.v (.bool tt))] [] [] 0)
theorem qa (n:Nat) (e:Event):dC (au n e) KD (Nx e) (Ny e):=Dw [] 62 fun sa =>
.rg 6<|tB 130 sa (tB 134 (e.Kind != 1) (tB 139 (e.Kind != 2) (.bind 4000007 (bP n e true)<|fun ta4 =>tQ 4000007 (wK [1,4] [] 0) (FE n e) (fun g_=>g_.2)<|.wk (wK [4] [] 0) l0<|.ret ta4)<|
tB 143 (!e.Aq) (.bind 4000007 (bP n e (!e.Rl))<|fun ta5 =>tQ 4000007 (wK [1,4] [] 0) (FE n e) (fun g_=>g_.2)<|.wk (wK [4] [] 0) l0<|.ret ta5)<|
.bind 4000007 (bP n e false)<|fun ta5 =>tQ 4000007 (wK [1,4] [] 0) (FE n e) (fun g_=>g_.2)<|.wk (wK [4] [] 0) l0<|.ret ta5)<|
tB 143 (!e.Aq) (.bind 4000007 (bP n e (!e.Rl))<|fun ta4 =>tQ 4000007 (wK [1,4] [] 0) (FE n e) (fun g_=>g_.2)<|.wk (wK [4] [] 0) l0<|.ret ta4)<|
.bind 4000007 (bP n e false)<|fun ta4 =>tQ 4000007 (wK [1,4] [] 0) (FE n e) (fun g_=>g_.2)<|.wk (wK [4] [] 0) l0<|.ret ta4)<|
.bind 4000007 (bP n e false)<|fun ta2 =>tQ 4000007 (wK [1,4] [] 0) (FE n e) (fun g_=>g_.2)<|.wk (wK [4] [] 0) l0<|.ret ta2
theorem xn (n:Nat) (e:Event):pC (fJ n e) 62 [(eD Event.enc e)] (fun r=>(vI r)):=tP []<|
.rg 1<|tL 8 eI e.Deps.Addr<|tL 12 eI e.Deps.Data<|tL 17 eI e.Deps.Way<|.rg 2<|tB 22 (decide (e.Hart≥0)) (tB 27 (decide (e.Hart<8)) (.rg 3<|tB 34 (e.Kind==6) (.rg 4<|tB 36 (decide (e.At≥0)) (tB 41 (e.Addr==0) (tB 46 (e.Load==0) (tB 51 (e.Store==0) (tB 56 (!e.Aq) (tB 61 (!e.Rl) (tB 66 (e.Pair==0) (tB 70 ((ae .i64 (ae .i64 (e.Deps.Addr.length:Int) (e.Deps.Data.length:Int)) (e.Deps.Way.length:Int))==0) (tB 75 (decide (e.Pred≥0)) (tB 80 (decide (e.Pred≤15)) (tB 85 (decide (e.Succ≥0)) (.bind 4000009 (af n (decide (e.Succ≤15)))<|fun t15 =>tQ 4000009 (wK [4] [1] 0) (i3 n) (fun g_=>g_.2)<|.ret t15)<|
.bind 4000009 (af n false)<|fun t15 =>tQ 4000009 (wK [4] [1] 0) (i3 n) (fun g_=>g_.2)<|.ret t15)<|
.bind 4000009 (af n false)<|fun t14 =>tQ 4000009 (wK [4] [1] 0) (i3 n) (fun g_=>g_.2)<|.ret t14)<|
.bind 4000009 (af n false)<|fun t13 =>tQ 4000009 (wK [4] [1] 0) (i3 n) (fun g_=>g_.2)<|.ret t13)<|
.bind 4000009 (af n false)<|fun t12 =>tQ 4000009 (wK [4] [1] 0) (i3 n) (fun g_=>g_.2)<|.ret t12)<|
.bind 4000009 (af n false)<|fun t11 =>tQ 4000009 (wK [4] [1] 0) (i3 n) (fun g_=>g_.2)<|.ret t11)<|
.bind 4000009 (af n false)<|fun t10 =>tQ 4000009 (wK [4] [1] 0) (i3 n) (fun g_=>g_.2)<|.ret t10)<|
.bind 4000009 (af n false)<|fun t9 =>tQ 4000009 (wK [4] [1] 0) (i3 n) (fun g_=>g_.2)<|.ret t9)<|
.bind 4000009 (af n false)<|fun t8 =>tQ 4000009 (wK [4] [1] 0) (i3 n) (fun g_=>g_.2)<|.ret t8)<|
.bind 4000009 (af n false)<|fun t7 =>tQ 4000009 (wK [4] [1] 0) (i3 n) (fun g_=>g_.2)<|.ret t7)<|
.bind 4000009 (af n false)<|fun t6 =>tQ 4000009 (wK [4] [1] 0) (i3 n) (fun g_=>g_.2)<|.ret t6)<|
.bind 4000009 (af n false)<|fun t5 =>tQ 4000009 (wK [4] [1] 0) (i3 n) (fun g_=>g_.2)<|.ret t5)<|
.rg 5<|tB 91 (decide (e.At≥0)) (tC 93 (ju n e)<|fun y5 =>tB 95 y5 (tB 101 ((ri .u64 e.Addr 8)==0) (tC 103 (mS n e)<|fun y8 =>tB 104 y8 (tC 112 (eX n e)<|fun y10 =>tB 113 y10 (tB 124 (e.Pred==0) (.bind 4000006 (au n e (e.Succ==0))<|fun t13 =>tQ 4000006 (wK [1,4] [] 0) (qa n e) (fun g_=>g_.2)<|.bind 4000009 (af n t13)<|fun t14 =>tQ 4000009 (wK [4] [] 0) (i3 n) (fun g_=>g_.2)<|.ret t14)<|
.bind 4000006 (au n e false)<|fun t13 =>tQ 4000006 (wK [1,4] [] 0) (qa n e) (fun g_=>g_.2)<|.bind 4000009 (af n t13)<|fun t14 =>tQ 4000009 (wK [4] [] 0) (i3 n) (fun g_=>g_.2)<|.ret t14)<|
tB 119 (e.Store==0) (tB 124 (e.Pred==0) (.bind 4000006 (au n e (e.Succ==0))<|fun t14 =>tQ 4000006 (wK [1,4] [] 0) (qa n e) (fun g_=>g_.2)<|.bind 4000009 (af n t14)<|fun t15 =>tQ 4000009 (wK [4] [] 0) (i3 n) (fun g_=>g_.2)<|.ret t15)<|
.bind 4000006 (au n e false)<|fun t14 =>tQ 4000006 (wK [1,4] [] 0) (qa n e) (fun g_=>g_.2)<|.bind 4000009 (af n t14)<|fun t15 =>tQ 4000009 (wK [4] [] 0) (i3 n) (fun g_=>g_.2)<|.ret t15)<|
.bind 4000006 (au n e false)<|fun t13 =>tQ 4000006 (wK [1,4] [] 0) (qa n e) (fun g_=>g_.2)<|.bind 4000009 (af n t13)<|fun t14 =>tQ 4000009 (wK [4] [] 0) (i3 n) (fun g_=>g_.2)<|.ret t14)<|
tB 110 (e.Load==0) (tC 112 (eX n e)<|fun y11 =>tB 113 y11 (tB 124 (e.Pred==0) (.bind 4000006 (au n e (e.Succ==0))<|fun t14 =>tQ 4000006 (wK [1,4] [] 0) (qa n e) (fun g_=>g_.2)<|.bind 4000009 (af n t14)<|fun t15 =>tQ 4000009 (wK [4] [] 0) (i3 n) (fun g_=>g_.2)<|.ret t15)<|
.bind 4000006 (au n e false)<|fun t14 =>tQ 4000006 (wK [1,4] [] 0) (qa n e) (fun g_=>g_.2)<|.bind 4000009 (af n t14)<|fun t15 =>tQ 4000009 (wK [4] [] 0) (i3 n) (fun g_=>g_.2)<|.ret t15)<|
tB 119 (e.Store==0) (tB 124 (e.Pred==0) (.bind 4000006 (au n e (e.Succ==0))<|fun t15 =>tQ 4000006 (wK [1,4] [] 0) (qa n e) (fun g_=>g_.2)<|.bind 4000009 (af n t15)<|fun t16 =>tQ 4000009 (wK [4] [] 0) (i3 n) (fun g_=>g_.2)<|.ret t16)<|
.bind 4000006 (au n e false)<|fun t15 =>tQ 4000006 (wK [1,4] [] 0) (qa n e) (fun g_=>g_.2)<|.bind 4000009 (af n t15)<|fun t16 =>tQ 4000009 (wK [4] [] 0) (i3 n) (fun g_=>g_.2)<|.ret t16)<|
.bind 4000006 (au n e false)<|fun t14 =>tQ 4000006 (wK [1,4] [] 0) (qa n e) (fun g_=>g_.2)<|.bind 4000009 (af n t14)<|fun t15 =>tQ 4000009 (wK [4] [] 0) (i3 n) (fun g_=>g_.2)<|.ret t15)<|
.bind 4000006 (au n e false)<|fun t11 =>tQ 4000006 (wK [1,4] [] 0) (qa n e) (fun g_=>g_.2)<|.bind 4000009 (af n t11)<|fun t12 =>tQ 4000009 (wK [4] [] 0) (i3 n) (fun g_=>g_.2)<|.ret t12)<|
.bind 4000006 (au n e false)<|fun t8 =>tQ 4000006 (wK [1,4] [] 0) (qa n e) (fun g_=>g_.2)<|.bind 4000009 (af n t8)<|fun t9 =>tQ 4000009 (wK [4] [] 0) (i3 n) (fun g_=>g_.2)<|.ret t9)<|
.bind 4000006 (au n e false)<|fun t7 =>tQ 4000006 (wK [1,4] [] 0) (qa n e) (fun g_=>g_.2)<|.bind 4000009 (af n t7)<|fun t8 =>tQ 4000009 (wK [4] [] 0) (i3 n) (fun g_=>g_.2)<|.ret t8)<|
.bind 4000006 (au n e false)<|fun t5 =>tQ 4000006 (wK [1,4] [] 0) (qa n e) (fun g_=>g_.2)<|.bind 4000009 (af n t5)<|fun t6 =>tQ 4000009 (wK [4] [] 0) (i3 n) (fun g_=>g_.2)<|.ret t6)<|
.rg 3<|tB 34 (e.Kind==6) (.bind 4000009 (af n false)<|fun t4 =>tQ 4000009 (wK [4] [1] 0) (i3 n) (fun g_=>g_.2)<|.ret t4)<|
.bind 4000006 (au n e false)<|fun t4 =>tQ 4000006 (wK [1,4] [] 0) (qa n e) (fun g_=>g_.2)<|.bind 4000009 (af n t4)<|fun t5 =>tQ 4000009 (wK [4] [] 0) (i3 n) (fun g_=>g_.2)<|.ret t5)<|
.rg 3<|tB 34 (e.Kind==6) (.bind 4000009 (af n false)<|fun t3 =>tQ 4000009 (wK [4] [1] 0) (i3 n) (fun g_=>g_.2)<|.ret t3)<|
.bind 4000006 (au n e false)<|fun t3 =>tQ 4000006 (wK [1,4] [] 0) (qa n e) (fun g_=>g_.2)<|.bind 4000009 (af n t3)<|fun t4 =>tQ 4000009 (wK [4] [] 0) (i3 n) (fun g_=>g_.2)<|.ret t4
def GY:List (Nat×PT):=[(8,(hZ [0,1,2,3,4,5,6,7,8,9,10,11,12,13,14,15,16,17]))]
noncomputable def KG:Code:=sub (aS Tryz.prog 33) [1,0,1,0,0]
noncomputable def Nz:Code:=sub KG [1,0,0,1,1,1,1,1,0,0]
def NA (hart:Int) (l:(List Event)) (xa2:Event) (xa8:Event) (sb:Int×Bool×Int×Int):St:=bE 76 [(0,(vI hart)),(1,.sl (l.map Event.enc)),(5,(vI sb.2.2.1)),(7,(vI sb.2.2.2)),(22,.ptr (.L 6) 0 0),(23,(vI xa2.Hart)),(24,(vI hart)),(25,.v (.bool (xa2.Hart != hart))),(28,.ptr (.L 6) 0 1),(29,(vI xa2.At)),(30,(vI sb.1)),(31,.v (.bool sb.2.1)),(44,.sl (l.map Event.enc)),(45,.ptr (.L 6) 0 10),(46,(vI xa2.Pair)),(47,.fptr (Event.enc xa8) 0),(48,.fptr (Event.enc xa8) 3),(49,(vU xa8.Addr)),(50,.ptr (.L 6) 0 3),(51,(vU xa2.Addr)),(52,.v (.bool (xa8.Addr != xa2.Addr)))] [(6,(Event.enc xa2))] [] 0
def NB (hart:Int) (l:(List Event)) (xa2:Event) (xa8:Event) (t0:((Int×Bool×Int)⊕Unit)):Ex×St:=match t0 with | .inl tt=>(.ex 2,bE 76 [(0,(vI hart)),(1,.sl (l.map Event.enc)),(5,(vI tt.2.2)),(22,.ptr (.L 6) 0 0),(23,(vI xa2.Hart)),(24,(vI hart)),(25,.v (.bool (xa2.Hart != hart))),(28,.ptr (.L 6) 0 1),(29,(vI xa2.At)),(30,(vI tt.1)),(31,.v (.bool tt.2.1)),(44,.sl (l.map Event.enc)),(45,.ptr (.L 6) 0 10),(46,(vI xa2.Pair)),(47,.fptr (Event.enc xa8) 0),(48,.fptr (Event.enc xa8) 3),(49,(vU xa8.Addr)),(50,.ptr (.L 6) 0 3),(51,(vU xa2.Addr)),(52,.v (.bool (xa8.Addr != xa2.Addr)))] [(6,(Event.enc xa2))] [] 0) | .inr tt=>(.ret,bE 76 [(4,(vI 4))] [] [] 0)
theorem KH (n:Nat) (hart:Int) (l:(List Event)) (xa2:Event) (xa8:Event):lC (lv n hart l xa2 xa8) Nz (NA hart l xa2 xa8) (NB hart l xa2 xa8):=tR GY 33 (uI (fun _=>h_) fun _=>tu) fun sb =>
.rg 11<|tB 59 (decide (sb.2.2.2<sb.2.2.1)) (.rg 13<|tI 64 Event.enc l sb.2.2.2<|fun xb2 =>tB 68 (xb2.Kind==3) (.wk (wK [4] [6] 0) l0<|.ret (.inr (.inr ())))<|
tM 71 Event.enc (fun g_=>g_.1.2)<|tB 75 (xb2.Kind==4) (.wk (wK [4] [6] 0) l0<|.ret (.inr (.inr ())))<|
.wk (wK [0,1,5,7,22,23,24,25,28,29,30,31,44,45,46,47,48,49,50,51,52] [] 0) l0<|.ret (.inl (sb.1,sb.2.1,sb.2.2.1,(ae .i64 sb.2.2.2 1))))<|
.wk (wK [0,1,5,22,23,24,25,28,29,30,31,44,45,46,47,48,49,50,51,52] [] 0) l0<|.ret (.inr (.inl (sb.1,sb.2.1,sb.2.2.1)))
def NC (hart:Int) (l:(List Event)) (sa:Int):St:=bE 76 [(0,(vI hart)),(1,.sl (l.map Event.enc)),(5,(vI sa))] [] [] 0
def ND (hart:Int) (l:(List Event)) (t0:(Unit⊕Unit)):Ex×St:=match t0 with | .inl tt=>(.ex 0,bE 76 [] [] [] 0) | .inr tt=>(.ret,bE 76 [(4,(vI 4))] [] [] 0)
theorem KI (n:Nat) (hart:Int) (l:(List Event)):lC (lw n hart l) KG (NC hart l) (ND hart l):=tR GY 33 (uI (fun _=>h_) fun _=>tu) fun sa =>
.rg 2<|tL 10 Event.enc l<|tB 11 (decide (sa<(l.length:Int))) (.rg 4<|tI 16 Event.enc l sa<|fun xa2 =>.rg 5<|tC 19 (xn n xa2)<|fun ya3 =>tB 21 (ya3 != 0) (.wk (wK [4] [6] 0) l0<|.ret (.inr (.inr ())))<|
tB 27 (xa2.Hart != hart) (.wk (wK [4] [6] 0) l0<|.ret (.inr (.inr ())))<|
tB 32 (xa2.At != sa) (.wk (wK [4] [6] 0) l0<|.ret (.inr (.inr ())))<|
.rg 7<|tB 35 (xa2.Kind != 4) (.wk (wK [0,1,5] [6] 0) l0<|.ret (.inl (ae .i64 sa 1)))<|
.rg 8<|tI 39 Event.enc l xa2.Pair<|fun xa8 =>tB 43 (xa8.Kind != 3) (.wk (wK [4] [6] 0) l0<|.ret (.inr (.inr ())))<|
tM 47 Event.enc (fun g_=>g_.1.2)<|tB 53 (xa8.Addr != xa2.Addr) (.wk (wK [4] [6] 0) l0<|.ret (.inr (.inr ())))<|
.bind 3000011 (iter (fun s=>lv n hart l xa2 xa8 s) n (sa,(xa2.At != sa),sa,(ae .i64 xa2.Pair 1)))<|fun ta11 =>.alt 3000011 ta11 (fun wa12 =>tX 3000011 (wK [0,1,5,7,22,23,24,25,28,29,30,31,44,45,46,47,48,49,50,51,52] [] 0) 33 (KH n hart l xa2 xa8) (fun g_=>(eS g_.1.2 g_.2))<|.wk (wK [0,1,5] [6] 0) l0<|.ret (.inl (ae .i64 wa12.2.2 1)))<|
fun wa12 =>tX 3000011 (wK [0,1,5,7,22,23,24,25,28,29,30,31,44,45,46,47,48,49,50,51,52] [] 0) 33 (KH n hart l xa2 xa8) (fun g_=>(eS g_.1.2 g_.2))<|.wk (wK [4] [] 0) l0<|.ret (.inr (.inr ())))<|
.wk (wK [] [] 0) l0<|.ret (.inr (.inl ()))
theorem Cf (n:Nat) (hart:Int) (l:(List Event)):pC (nk n hart l) 33 [(vI hart),.sl (l.map Event.enc)] (fun r=>(vI r)):=tP GY<|
.bind 3000002 (iter (fun s=>lw n hart l s) n 0)<|fun t1 =>.alt 3000002 t1 (fun w2 =>tX 3000002 (wK [0,1,5] [] 0) 33 (KI n hart l) (fun g_=>(eS g_.1.2 g_.2))<|.ret 0)<|
fun w2 =>tX 3000002 (wK [0,1,5] [] 0) 33 (KI n hart l) (fun g_=>(eS g_.1.2 g_.2))<|.ret 4
def KJ:List (Nat×PT):=[(1,(hZ [0,1,2,3,4,5,6,7,8,9,10,11,12,13]))]
theorem AE (n:Nat) (d:Deps):pC (rm n d) 63 [(eD Deps.enc d)] (fun r=>(eD Deps.enc r)):=tP KJ<|
.rg 1<|tG 6 (Nat.ble (d.Addr.length * 8) 140737488355328)<|.op 6 A0<|.o (kn 1 (d.Addr.map eI)=true) (fun _=>H5)<|.o (cN (d.Addr.map eI)=true) (fun _=>GU)<|.o (Nat.ble ((d.Addr.map eI).length * 8) 140737488355328=true) (fun g_=>p5 g_.2)<|tG 10 (Nat.ble (d.Data.length * 8) 140737488355328)<|.op 10 A0<|.o (kn 1 (d.Data.map eI)=true) (fun _=>H5)<|.o (cN (d.Data.map eI)=true) (fun _=>GU)<|.o (Nat.ble ((d.Data.map eI).length * 8) 140737488355328=true) (fun g_=>p5 g_.2)<|tG 14 (Nat.ble (d.Way.length * 8) 140737488355328)<|.op 14 A0<|.o (kn 1 (d.Way.map eI)=true) (fun _=>H5)<|.o (cN (d.Way.map eI)=true) (fun _=>GU)<|.o (Nat.ble ((d.Way.map eI).length * 8) 140737488355328=true) (fun g_=>p5 g_.2)<|.ret d
noncomputable def KL:Code:=sub (aS Tryz.prog 34) [1,1,0,1,0,0]
noncomputable def NE:Code:=sub KL [1,0,0,1,0,0]
def NF (c:ai) (sb:(List Event)×Int×Int):St:=bE 41 [(1,.ptr (.L 1) 0 0),(3,.mf 0),(4,(vI sb.2.1)),(5,(vI sb.2.2))] [(1,(ai.enc c))] [.arr true 14 (sb.1.map Event.enc)] 0
def NG (c:ai) (tt:((List Event)×Int)):Ex×St:=(.ex 2,bE 41 [(1,.ptr (.L 1) 0 0),(3,.mf 0),(4,(vI tt.2))] [(1,(ai.enc c))] [.arr true 14 (tt.1.map Event.enc)] 0)
theorem NH (n:Nat) (c:ai):lC (md n c) NE (NF c) (NG c):=tR [] 34 (fun _=>h_) fun sb =>
.rg 6<|tI 18 (gf Event.enc) c.Harts sb.2.1<|fun xb1 =>tL 20 Event.enc xb1<|tB 21 (decide (sb.2.2<(xb1.length:Int))) (.rg 8<|tM 27 (gf Event.enc) (fun g_=>g_.1.2)<|tI 30 Event.enc xb1 sb.2.2<|fun xb3 =>.rg 9<|tC 34 (AE n xb3.Deps)<|fun yb4 =>.rg 10<|tG 39 (Nat.ble ((sb.1.length + 1) * 152) 140737488355328)<|.op 39 (Fy 39 0 ((sb.1++([(Event.mk xb3.Hart xb3.At xb3.Kind xb3.Addr xb3.Load xb3.Store xb3.Aq xb3.Rl xb3.Pred xb3.Succ xb3.Pair yb4)]:List Event)).map Event.enc))<|.o (kn 14 [[(vI xb3.Hart),(vI xb3.At),(vI xb3.Kind),(vU xb3.Addr),(vU xb3.Load),(vU xb3.Store),.v (.bool xb3.Aq),.v (.bool xb3.Rl),(vI xb3.Pred),(vI xb3.Succ),(vI xb3.Pair),.sl (yb4.Addr.map eI),.sl (yb4.Data.map eI),.sl (yb4.Way.map eI)]]=true) (fun _=>rfl)<|.o (cN [[(vI xb3.Hart),(vI xb3.At),(vI xb3.Kind),(vU xb3.Addr),(vU xb3.Load),(vU xb3.Store),.v (.bool xb3.Aq),.v (.bool xb3.Rl),(vI xb3.Pred),(vI xb3.Succ),(vI xb3.Pair),.sl (yb4.Addr.map eI),.sl (yb4.Data.map eI),.sl (yb4.Way.map eI)]]=true) (fun _=>rfl)<|.o (Nat.ble (((sb.1.map Event.enc).length + 1) * 152) 140737488355328=true) (fun g_=>iX g_.2)<|.o _ (fun _=>k_ Event.enc sb.1 ([(Event.mk xb3.Hart xb3.At xb3.Kind xb3.Addr xb3.Load xb3.Store xb3.Aq xb3.Rl xb3.Pred xb3.Succ xb3.Pair yb4)]:List Event))<|.wk (wK [1,3,4,5] [6] 1) l0<|.ret (.inl ((sb.1++([(Event.mk xb3.Hart xb3.At xb3.Kind xb3.Addr xb3.Load xb3.Store xb3.Aq xb3.Rl xb3.Pred xb3.Succ xb3.Pair yb4)]:List Event)),sb.2.1,(ae .i64 sb.2.2 1))))<|
.wk (wK [1,3,4] [] 1) l0<|.ret (.inr (sb.1,sb.2.1))
def NI (c:ai) (sa:(List Event)×Int):St:=bE 41 [(1,.ptr (.L 1) 0 0),(3,.mf 0),(4,(vI sa.2))] [(1,(ai.enc c))] [.arr true 14 (sa.1.map Event.enc)] 0
def NJ (c:ai) (tt:((List Event))):Ex×St:=(.ex 0,bE 41 [(3,.mf 0)] [] [.arr true 14 (tt.map Event.enc)] 0)
theorem NK (n:Nat) (c:ai):lC (mg n c) KL (NI c) (NJ c):=tR [] 34 (fun _=>h_) fun sa =>
.rg 3<|tL 10 (gf Event.enc) c.Harts<|tB 11 (decide (sa.2<(c.Harts.length:Int))) (.bind 3000006 (iter (fun s=>md n c s) n (sa.1,sa.2,0))<|fun ta2 =>tX 3000006 (wK [1,3,4,5] [] 1) 34 (NH n c) (fun g_=>g_.2)<|.wk (wK [1,3,4] [] 1) l0<|.ret (.inl (ta2.1,(ae .i64 ta2.2 1))))<|
.wk (wK [3] [1] 1) l0<|.ret (.inr sa.1)
theorem nT (n:Nat) (c:ai):pC (lx n c) 34 [(eD ai.enc c)] (fun r=>.sl (r.map Event.enc)):=tP []<|
.bind 3000003 (iter (fun s=>mg n c s) n (([]:List Event),0))<|fun t1 =>tX 3000003 ⟨[1,3,4],[],0,[(3,14)],[],[]⟩ 34 (NK n c) (fun g_=>g_.2)<|.ret t1
noncomputable def NL:Code:=sub (aS Tryz.prog 44) [1,0,1,0,0]
def NM (l:(List Cell)) (addr:Int) (sa:Int):St:=bE 24 [(0,.sl (l.map Cell.enc)),(1,(vU addr)),(5,(vI sa))] [] [] 0
def NN (l:(List Cell)) (addr:Int) (t0:(Unit⊕Int)):Ex×St:=match t0 with | .inl tt=>(.ex 0,bE 24 [] [] [] 0) | .inr tt=>(.ret,bE 24 [(4,(vU tt))] [] [] 0)
theorem KM (n:Nat) (l:(List Cell)) (addr:Int):lC (kW n l addr) NL (NM l addr) (NN l addr):=tR [] 44 (uI (fun _=>h_) fun _=>tu) fun sa =>
.rg 2<|tL 8 Cell.enc l<|tB 9 (decide (sa<(l.length:Int))) (.rg 4<|tI 14 Cell.enc l sa<|fun xa2 =>tB 18 (xa2.Addr==addr) (.rg 5<|tM 21 Cell.enc (fun g_=>g_.1.2)<|.wk (wK [4] [] 0) l0<|.ret (.inr (.inr xa2.Value)))<|
.wk (wK [0,1,5] [] 0) l0<|.ret (.inl (ae .i64 sa 1)))<|
.wk (wK [] [] 0) l0<|.ret (.inr (.inl ()))
theorem qy (n:Nat) (l:(List Cell)) (addr:Int):pC (lj n l addr) 44 [.sl (l.map Cell.enc),(vU addr)] (fun r=>(vU r)):=tP []<|
.bind 3000002 (iter (fun s=>kW n l addr s) n 0)<|fun t1 =>.alt 3000002 t1 (fun w2 =>tX 3000002 (wK [0,1,5] [] 0) 44 (KM n l addr) (fun g_=>(eS g_.1.2 g_.2))<|.ret 0)<|
fun w2 =>tX 3000002 (wK [0,1,5] [] 0) 44 (KM n l addr) (fun g_=>(eS g_.1.2 g_.2))<|.ret w2
def KN:List (Nat×PT):=[(1,(hZ [0,1,2,3,4,5,6,7,8,9,10,11])),(5,(hZ [0,1,2,3,4,5,6,7,8])),(8,(hZ [0,1,2,3,4,5,6,7,8,9,10,11,12,13,14,15,16,17,18,19,20,21,22,23,24,25]))]
theorem AF (n:Nat) (c:ai) (all:(List Event)) (n_:Int):pC (eP n c all n_) 35 [(eD ai.enc c),.sl (all.map Event.enc),(vI n_)] (fun r=>.v (.bool r)):=tP KN<|
.rg 1<|tI 11 Event.enc all n_<|fun x1 =>tI 16 eI c.From n_<|fun x2 =>.rg 2<|tC 20 (mS n x1)<|fun y3 =>tB 18 (!y3) (.ret (x2==(-1)))<|
.rg 4<|tB 24 (x2==(-1)) (.rg 5<|tC 33 (qy n c.First x1.Addr)<|fun y6 =>.ret (x1.Load==y6))<|
.rg 6<|tB 38 (decide (x2<0)) (.ret false)<|
tL 41 Event.enc all<|tB 44 (decide (x2≥(all.length:Int))) (.ret false)<|
tB 35 (x2==n_) (.ret false)<|
.rg 8<|tI 51 Event.enc all x2<|fun x9 =>tC 53 (eX n x9)<|fun y10 =>tB 54 y10 (tM 57 Event.enc (fun g_=>g_.1.1.2)<|tB 64 (x9.Addr==x1.Addr) (tM 67 Event.enc (fun g_=>g_.1.1.1.2)<|.ret (x9.Store==x1.Load))<|
.ret false)<|
.ret false
noncomputable def NO:Code:=sub (aS Tryz.prog 9) [1,1,1,0,1,0,0]
noncomputable def NP:Code:=sub (aS Tryz.prog 9) [1,1,1,1,1,1,1,0,1,0,0]
noncomputable def NQ:Code:=sub (aS Tryz.prog 9) [1,1,1,1,1,1,1,1,1,0,1,0,0]
def NR (c:ai) (sa:Int×Int):St:=bE 121 [(1,.ptr (.L 1) 0 0),(3,(vI sa.1)),(4,(vI sa.2))] [(1,(ai.enc c))] [] 0
def NS (c:ai) (t0:(Int⊕Unit)):Ex×St:=match t0 with | .inl tt=>(.ex 0,bE 121 [(1,.ptr (.L 1) 0 0),(3,(vI tt))] [(1,(ai.enc c))] [] 0) | .inr tt=>(.ret,bE 121 [(2,(vI 2))] [] [] 0)
theorem KO (n:Nat) (c:ai):lC (i_ n c) NO (NR c) (NS c):=tR [] 9 (uI (fun _=>h_) fun _=>tu) fun sa =>
.rg 5<|tL 30 (gf Event.enc) c.Harts<|tB 31 (decide (sa.2<(c.Harts.length:Int))) (.rg 7<|tI 38 (gf Event.enc) c.Harts sa.2<|fun xa2 =>tL 40 Event.enc xa2<|.rg 8<|tB 44 (decide ((ae .i64 sa.1 (xa2.length:Int))>4096)) (.wk (wK [2] [1] 0) l0<|.ret (.inr (.inr ())))<|
tM 49 (gf Event.enc) (fun g_=>g_.1.2)<|tC 51 (Cf n sa.2 xa2)<|fun ya4 =>tB 53 (ya4 != 0) (.wk (wK [2] [1] 0) l0<|.ret (.inr (.inr ())))<|
.wk (wK [1,3,4] [] 0) l0<|.ret (.inl ((ae .i64 sa.1 (xa2.length:Int)),(ae .i64 sa.2 1))))<|
.wk (wK [1,3] [] 0) l0<|.ret (.inr (.inl sa.1))
def NT (c:ai) (w6:Int) (y7:(List Event)) (sa:Int×Int):St:=bE 121 [(1,.ptr (.L 1) 0 0),(3,(vI w6)),(5,.sl (y7.map Event.enc)),(6,(vI sa.1)),(7,(vI sa.2))] [(1,(ai.enc c))] [] 0
def NU (c:ai) (w6:Int) (y7:(List Event)) (t0:(Int⊕Unit)):Ex×St:=match t0 with | .inl tt=>(.ex 2,bE 121 [(1,.ptr (.L 1) 0 0),(3,(vI w6)),(5,.sl (y7.map Event.enc)),(6,(vI tt))] [(1,(ai.enc c))] [] 0) | .inr tt=>(.ret,bE 121 [(2,(vI 2))] [] [] 0)
theorem KP (n:Nat) (c:ai) (w6:Int) (y7:(List Event)):lC (ja n c w6 y7) NP (NT c w6 y7) (NU c w6 y7):=tR [] 9 (uI (fun _=>h_) fun _=>tu) fun sa =>
.rg 15<|tB 63 (decide (sa.2<w6)) (.rg 17<|tC 69 (AF n c y7 sa.2)<|fun ya2 =>tB 70 (!ya2) (.wk (wK [2] [1] 0) l0<|.ret (.inr (.inr ())))<|
.rg 19<|tI 73 Event.enc y7 sa.2<|fun xa4 =>.bind 75 (gz n xa4)<|fun ya5 =>.ite 75 ya5 (.op 75 (xL 75 (.v (.bool ya5)) (vT))<|.o _ (fun g_=>(ju n xa4 ya5 g_.1.2))<|.o _ (fun g_=>cB g_.2)<|.wk (wK [1,3,5,6,7] [] 0) l0<|.ret (.inl ((ae .i64 sa.1 1),(ae .i64 sa.2 1))))<|
.op 75 (xL 75 (.v (.bool ya5)) (vF))<|.o _ (fun g_=>(ju n xa4 ya5 g_.1.2))<|.o _ (fun g_=>cB g_.2)<|.wk (wK [1,3,5,6,7] [] 0) l0<|.ret (.inl (sa.1,(ae .i64 sa.2 1))))<|
.wk (wK [1,3,5,6] [] 0) l0<|.ret (.inr (.inl sa.1))
def NV (c:ai) (w6:Int) (y7:(List Event)) (w10:Int) (sa:(List Bool)×Int):St:=bE 121 [(1,.ptr (.L 1) 0 0),(3,(vI w6)),(5,.sl (y7.map Event.enc)),(6,(vI w10)),(8,.mf 0),(9,(vI sa.2))] [(1,(ai.enc c))] [.arr true 1 (sa.1.map ff)] 0
def NW (c:ai) (w6:Int) (y7:(List Event)) (w10:Int) (t0:(Unit⊕Unit)):Ex×St:=match t0 with | .inl tt=>(.ex 4,bE 121 [(1,.ptr (.L 1) 0 0),(6,(vI w10))] [(1,(ai.enc c))] [] 0) | .inr tt=>(.ret,bE 121 [(2,(vI 2))] [] [] 0)
theorem KQ (n:Nat) (c:ai) (w6:Int) (y7:(List Event)) (w10:Int):lC (jb n c w6 y7 w10) NQ (NV c w6 y7 w10) (NW c w6 y7 w10):=tR [] 9 (uI (fun _=>h_) fun _=>tu) fun sa =>
.rg 23<|tL 83 eI c.Order<|tB 84 (decide (sa.2<(c.Order.length:Int))) (.rg 25<|tI 90 eI c.Order sa.2<|fun xa2 =>.rg 26<|tB 94 (decide (xa2<0)) (.wk (wK [2] [1] 0) l0<|.ret (.inr (.inr ())))<|
tB 99 (decide (xa2≥w6)) (.wk (wK [2] [1] 0) l0<|.ret (.inr (.inr ())))<|
tI 102 ff sa.1 xa2<|fun xa5 =>tN 103 ff (fun g_=>g_.2)<|tB 105 xa5 (.wk (wK [2] [1] 0) l0<|.ret (.inr (.inr ())))<|
tI 108 Event.enc y7 xa2<|fun xa7 =>tC 110 (ju n xa7)<|fun ya8 =>tB 112 (!ya8) (.wk (wK [2] [1] 0) l0<|.ret (.inr (.inr ())))<|
.rg 28<|tM 115 ff (fun g_=>g_.1.1.1.1.2)<|.op 1000115 (mW 1000115 [.v (.bool xa5)] 0 ((sa.1.set (xa2).toNat true).map ff))<|.o _ (fun g_=>bv ff g_.1.1.1.1.2)<|.o _ (fun _=>bA ff sa.1 ((xa2).toNat) true)<|.wk (wK [1,3,5,6,8,9] [] 1) l0<|.ret (.inl ((sa.1.set (xa2).toNat true),(ae .i64 sa.2 1))))<|
.wk (wK [1,6] [] 0) l0<|.ret (.inr (.inl ()))
theorem gh (n:Nat) (c:ai):pC (dy n c) 9 [(eD ai.enc c)] (fun r=>(vI r)):=tP []<|
.rg 1<|tC 13 (yu n c.First)<|fun y1 =>tB 15 (!y1) (.ret 2)<|
tL 18 (gf Event.enc) c.Harts<|tB 21 (decide ((c.Harts.length:Int)<1)) (.ret 2)<|
tL 24 (gf Event.enc) c.Harts<|tB 26 (decide ((c.Harts.length:Int)>8)) (.ret 2)<|
.bind 3000005 (iter (fun s=>i_ n c s) n (0,0))<|fun t5 =>.alt 3000005 t5 (fun w6 =>tX 3000005 (wK [1,3,4] [] 0) 9 (KO n c) (fun g_=>(eS g_.1.2 g_.2))<|.rg 10<|tC 55 (nT n c)<|fun y7 =>.rg 11<|tL 58 eI c.From<|tB 60 ((c.From.length:Int) != w6) (.ret 2)<|
.bind 3000015 (iter (fun s=>ja n c w6 y7 s) n (0,0))<|fun t9 =>.alt 3000015 t9 (fun w10 =>tX 3000015 (wK [1,3,5,6,7] [] 0) 9 (KP n c w6 y7) (fun g_=>(eS g_.1.2 g_.2))<|.rg 21<|tG 79 (decide ((0:Int)≤w6)&&decide (w6≤w6)&&decide (1 * w6≤140737488355328)&&decide (w6≤140737488355328)&&Nat.blt 0 1)<|.op 79 (Fy 79 0 ((List.replicate (w6).toNat false).map ff))<|.o _ (fun g_=>g_.2)<|.o (List.replicate (w6).toNat [vF]=(List.replicate (w6).toNat false).map ff) (fun _=>vp ff _ false)<|.bind 3000023 (iter (fun s=>jb n c w6 y7 w10 s) n ((List.replicate (w6).toNat false),0))<|fun t12 =>.alt 3000023 t12 (fun w13 =>tX 3000023 (wK [1,3,5,6,8,9] [] 1) 9 (KQ n c w6 y7 w10) (fun g_=>(eS g_.1.2 g_.2))<|.rg 29<|tL 118 eI c.Order<|tB 120 ((c.Order.length:Int) != w10) (.ret 2)<|
.ret 0)<|
fun w13 =>tX 3000023 (wK [1,3,5,6,8,9] [] 1) 9 (KQ n c w6 y7 w10) (fun g_=>(eS g_.1.2 g_.2))<|.ret 2)<|
fun w10 =>tX 3000015 (wK [1,3,5,6,7] [] 0) 9 (KP n c w6 y7) (fun g_=>(eS g_.1.2 g_.2))<|.ret 2)<|
fun w6 =>tX 3000005 (wK [1,3,4] [] 0) 9 (KO n c) (fun g_=>(eS g_.1.2 g_.2))<|.ret 2
noncomputable def NX:Code:=sub (aS Tryz.prog 7) [1,1,1,1,0,1,0,0]
def NY (c:ai) (hart:Int) (sa:Int×Int):St:=bE 51 [(1,(vI hart)),(3,.ptr (.L 3) 0 0),(8,(vI sa.1)),(9,(vI sa.2))] [(3,(ai.enc c))] [] 0
def NZ (c:ai) (hart:Int) (tt:Int):Ex×St:=(.ex 0,bE 51 [(8,(vI tt))] [] [] 0)
theorem N0 (n:Nat) (c:ai) (hart:Int):lC (jZ n c hart) NX (NY c hart) (NZ c hart):=tR [] 7 (fun _=>h_) fun sa =>
.rg 7<|tB 39 (decide (sa.2<hart)) (.rg 9<|tI 46 (gf Event.enc) c.Harts sa.2<|fun xa2 =>tL 48 Event.enc xa2<|.wk (wK [1,3,8,9] [] 0) l0<|.ret (.inl ((ae .i64 sa.1 (xa2.length:Int)),(ae .i64 sa.2 1))))<|
.wk (wK [8] [3] 0) l0<|.ret (.inr sa.1)
theorem xo (n:Nat) (c:ai) (hart:Int) (at_:Int):pC (ew n c hart at_) 7 [(eD ai.enc c),(vI hart),(vI at_)] (fun r=>.tup [(vI r.1),(vI r.2)]):=tP []<|
.rg 1<|tC 11 (gh n c)<|fun y1 =>tB 12 (y1 != 0) (.ret (0,2))<|
.rg 3<|tB 15 (decide (hart<0)) (.ret (0,6))<|
tL 19 (gf Event.enc) c.Harts<|tB 22 (decide (hart≥(c.Harts.length:Int))) (.ret (0,6))<|
tB 26 (decide (at_<0)) (.ret (0,6))<|
tI 31 (gf Event.enc) c.Harts hart<|fun x6 =>tL 33 Event.enc x6<|tB 35 (decide (at_≥(x6.length:Int))) (.ret (0,6))<|
.bind 3000007 (iter (fun s=>jZ n c hart s) n (at_,0))<|fun t8 =>tX 3000007 (wK [1,3,8,9] [] 0) 7 (N0 n c hart) (fun g_=>g_.2)<|.ret (t8,0)
theorem tE (n:Nat) (l:(List Cell)):pC (kX n l) 39 [.sl (l.map Cell.enc)] (fun r=>.sl (r.map Cell.enc)):=tP []<|
.rg 1<|tG 5 (Nat.ble (l.length * 16) 140737488355328)<|.op 5 (hA 5)<|.o (kn 2 (l.map Cell.enc)=true) (fun _=>H5)<|.o (cN (l.map Cell.enc)=true) (fun _=>GU)<|.o (Nat.ble ((l.map Cell.enc).length * 16) 140737488355328=true) (fun g_=>p5 g_.2)<|.ret l
theorem f7 (n:Nat) (l:(List Int)):pC (fC n l) 40 [.sl (l.map eI)] (fun r=>.sl (r.map eI)):=tP []<|
.rg 1<|tG 5 (Nat.ble (l.length * 8) 140737488355328)<|.op 5 (hA 5)<|.o (kn 1 (l.map eI)=true) (fun _=>H5)<|.o (cN (l.map eI)=true) (fun _=>GU)<|.o (Nat.ble ((l.map eI).length * 8) 140737488355328=true) (fun g_=>p5 g_.2)<|.ret l
def KR:List (Nat×PT):=[(1,(hZ [0,1,2,3,4,5,6,7,8,9,10]))]
theorem u7 (n:Nat) (d:Deps):pC (oH n d) 80 [(eD Deps.enc d)] (fun r=>(eD Deps.enc r)):=tP KR<|
.rg 1<|tC 5 (f7 n d.Addr)<|fun y1 =>tC 8 (f7 n d.Data)<|fun y2 =>tC 11 (f7 n d.Way)<|fun y3 =>.ret (Deps.mk y1 y2 y3)
theorem tF (n:Nat) (e:Event):pC (kY n e) 67 [(eD Event.enc e)] (fun r=>(eD Event.enc r)):=tP []<|
.rg 1<|tC 5 (u7 n e.Deps)<|fun y1 =>.ret (Event.mk e.Hart e.At e.Kind e.Addr e.Load e.Store e.Aq e.Rl e.Pred e.Succ e.Pair y1)
noncomputable def N1:Code:=sub (aS Tryz.prog 41) [1,1,0,1,0,0]
def N2 (l:(List Event)) (sa:(List Event)×Int):St:=bE 20 [(0,.sl (l.map Event.enc)),(3,.mf 0),(4,(vI sa.2))] [] [.arr true 14 (sa.1.map Event.enc)] 0
def N3 (l:(List Event)) (tt:((List Event))):Ex×St:=(.ex 0,bE 20 [(3,.mf 0)] [] [.arr true 14 (tt.map Event.enc)] 0)
theorem N4 (n:Nat) (l:(List Event)):lC (dK n l) N1 (N2 l) (N3 l):=tR [] 41 (fun _=>h_) fun sa =>
.rg 3<|tL 7 Event.enc l<|tB 8 (decide (sa.2<(l.length:Int))) (.rg 5<|tI 14 Event.enc l sa.2<|fun xa2 =>tC 16 (tF n xa2)<|fun ya3 =>tG 18 (Nat.ble ((sa.1.length + 1) * 152) 140737488355328)<|.op 18 (Fy 18 0 ((sa.1++([ya3]:List Event)).map Event.enc))<|.o (kn 14 [(Event.enc ya3)]=true) (fun _=>rfl)<|.o (cN [(Event.enc ya3)]=true) (fun _=>rfl)<|.o (Nat.ble (((sa.1.map Event.enc).length + 1) * 152) 140737488355328=true) (fun g_=>iX g_.2)<|.o _ (fun _=>k_ Event.enc sa.1 ([ya3]:List Event))<|.wk (wK [0,3,4] [] 1) l0<|.ret (.inl ((sa.1++([ya3]:List Event)),(ae .i64 sa.2 1))))<|
.wk (wK [3] [] 1) l0<|.ret (.inr sa.1)
theorem si (n:Nat) (l:(List Event)):pC (j0 n l) 41 [.sl (l.map Event.enc)] (fun r=>.sl (r.map Event.enc)):=tP []<|
.bind 3000003 (iter (fun s=>dK n l s) n (([]:List Event),0))<|fun t1 =>tX 3000003 ⟨[0,3,4],[],0,[(3,14)],[],[]⟩ 41 (N4 n l) (fun g_=>g_.2)<|.ret t1
def IJ:List (Nat×PT):=[(1,(hZ [0,1,2,3,4,5,6,7,8,9,10,11])),(5,(hZ [0,1,2,3,4,5,6,7,8,9,10,11]))]
noncomputable def N5:Code:=sub (aS Tryz.prog 12) [1,1,0,1,0,0]
def N6 (c:ai) (y1:(List Cell)) (y2:(List Int)) (y3:(List Int)) (sa:(List (List Event))×Int):St:=bE 34 [(1,.ptr (.L 1) 0 0),(2,.ptr (.L 2) 0 0),(3,.ptr (.L 3) 0 0),(4,(vI sa.2))] [(3,[.sl (y1.map Cell.enc),.mf 0,.sl (y2.map eI),.sl (y3.map eI)]),(2,[.nilsl,.nilsl,.nilsl,.nilsl]),(1,(ai.enc c))] [.arr true 1 (sa.1.map (gf Event.enc))] 0
def N7 (c:ai) (y1:(List Cell)) (y2:(List Int)) (y3:(List Int)) (tt:((List (List Event)))):Ex×St:=(.ex 0,bE 34 [(2,.ptr (.L 2) 0 0),(3,.ptr (.L 3) 0 0)] [(3,[.sl (y1.map Cell.enc),.mf 0,.sl (y2.map eI),.sl (y3.map eI)]),(2,[.nilsl,.nilsl,.nilsl,.nilsl])] [.arr true 1 (tt.map (gf Event.enc))] 0)
theorem N8 (n:Nat) (c:ai) (y1:(List Cell)) (y2:(List Int)) (y3:(List Int)):lC (eQ n c y1 y2 y3) N5 (N6 c y1 y2 y3) (N7 c y1 y2 y3):=tR IJ 12 (fun _=>h_) fun sa =>
.rg 3<|tL 18 (gf Event.enc) c.Harts<|tB 19 (decide (sa.2<(c.Harts.length:Int))) (.rg 5<|tI 27 (gf Event.enc) c.Harts sa.2<|fun xa2 =>tC 29 (si n xa2)<|fun ya3 =>tG 31 (Nat.ble ((sa.1.length + 1) * 24) 140737488355328)<|.op 31 (Fy 31 0 ((sa.1++([ya3]:List (List Event))).map (gf Event.enc)))<|.o (kn 1 [[.sl (ya3.map Event.enc)]]=true) (fun _=>rfl)<|.o (cN [[.sl (ya3.map Event.enc)]]=true) (fun _=>rfl)<|.o (Nat.ble (((sa.1.map (gf Event.enc)).length + 1) * 24) 140737488355328=true) (fun g_=>iX g_.2)<|.o _ (fun _=>k_ (gf Event.enc) sa.1 ([ya3]:List (List Event)))<|.wk (wK [1,2,3,4] [] 1) l0<|.ret (.inl ((sa.1++([ya3]:List (List Event))),(ae .i64 sa.2 1))))<|
.wk (wK [2,3] [1] 1) l0<|.ret (.inr sa.1)
theorem ot (n:Nat) (c:ai):pC (kj n c) 12 [(eD ai.enc c)] (fun r=>(eD ai.enc r)):=tP IJ<|
.rg 1<|tC 7 (tE n c.First)<|fun y1 =>tC 10 (f7 n c.From)<|fun y2 =>tC 13 (f7 n c.Order)<|fun y3 =>.bind 3000003 (iter (fun s=>eQ n c y1 y2 y3 s) n (([]:List (List Event)),0))<|fun t4 =>tX 3000003 ⟨[1,2,3,4],[],0,[],[(3,1,1)],[]⟩ 12 (N8 n c y1 y2 y3) (fun g_=>g_.2)<|.ret (ai.mk y1 t4 y2 y3)
theorem fp (n:Nat) (l:List Int):pC (c_ n l) 66 [.sl (l.map eI)] (fun r=>.sl (r.map eI)):=tP [] (.rg 1<|.dem 4 (l.map eI=[]) (.rp l (dm .nilsl (.sl (l.map eI))) (fun g_=>HY eI g_.2))<|.rg 3<|tG 7 (Nat.ble (l.length * 8) 140737488355328)<|.op 7 (hA 7)<|.o (kn 1 (l.map eI)=true) (fun _=>H5)<|.o (cN (l.map eI)=true) (fun _=>GU)<|.o (Nat.ble ((l.map eI).length * 8) 140737488355328=true) (fun g_=>p5 g_.2)<|.ret l) (Eq.trans (by kernel_rfl) (LL (P:=l.map eI=[]) (c:=Nat.ble (l.length * 8) 140737488355328) (l:=l)))
def KS:List (Nat×PT):=[(1,(hZ [0,1,2,3,4,5,6,7,8,9,10,11,12,13,14]))]
theorem AG (n:Nat) (e:Event):pC (rn n e) 38 [(eD Event.enc e)] (fun r=>(eD Event.enc r)):=tP KS<|
.rg 1<|tC 6 (fp n e.Deps.Addr)<|fun y1 =>tC 10 (fp n e.Deps.Data)<|fun y2 =>tC 14 (fp n e.Deps.Way)<|fun y3 =>.ret (Event.mk e.Hart e.At e.Kind e.Addr e.Load e.Store e.Aq e.Rl e.Pred e.Succ e.Pair (Deps.mk y1 y2 y3))
noncomputable def N9:Code:=sub (aS Tryz.prog 11) [1,1,1,0,1,0,0]
def N_ (y3:(List Event)) (sa:(List Event)×Int):St:=bE 22 [(3,.mf 0),(9,.sl (y3.map Event.enc)),(10,(vI (y3.length:Int))),(11,(vI sa.2))] [] [.arr true 14 (sa.1.map Event.enc)] 0
def Oa (y3:(List Event)) (tt:((List Event))):Ex×St:=(.ex 0,bE 22 [(3,.mf 0)] [] [.arr true 14 (tt.map Event.enc)] 0)
theorem Oc (n:Nat) (y3:(List Event)):lC (mh n y3) N9 (N_ y3) (Oa y3):=tR [] 11 (fun _=>h_) fun sa =>
.rg 5<|tB 12 (decide (sa.2<(y3.length:Int))) (.rg 6<|tI 13 Event.enc y3 sa.2<|fun xa2 =>.rg 7<|tC 17 (AG n xa2)<|fun ya3 =>tG 19 (Nat.ble ((sa.1.length + 1) * 152) 140737488355328)<|.op 19 (Fy 19 0 ((sa.1++([ya3]:List Event)).map Event.enc))<|.o (kn 14 [(Event.enc ya3)]=true) (fun _=>rfl)<|.o (cN [(Event.enc ya3)]=true) (fun _=>rfl)<|.o (Nat.ble (((sa.1.map Event.enc).length + 1) * 152) 140737488355328=true) (fun g_=>iX g_.2)<|.o _ (fun _=>k_ Event.enc sa.1 ([ya3]:List Event))<|.wk (wK [3,9,10,11] [5] 1) l0<|.ret (.inl ((sa.1++([ya3]:List Event)),(ae .i64 sa.2 1))))<|
.wk (wK [3] [] 1) l0<|.ret (.inr sa.1)
theorem AH (n:Nat) (c:ai):pC (ly n c) 11 [(eD ai.enc c)] (fun r=>.sl (r.map Event.enc)):=tP []<|
.rg 1<|tC 7 (eh n c)<|fun y1 =>tB 8 (y1 != 0) (.rq ([]:List Event))<|
.rg 4<|tS 9 (kN n c.First c.Harts c.From c.Order)<|fun y3 =>tL 10 Event.enc y3<|.bind 3000005 (iter (fun s=>mh n y3 s) n (([]:List Event),0))<|fun t4 =>tX 3000005 ⟨[3,9,10,11],[],0,[(3,14)],[],[]⟩ 11 (Oc n y3) (fun g_=>g_.2)<|.ret t4
theorem Cg (n:Nat) (c:ai):pC (pN n c) 13 [(eD ai.enc c)] (fun r=>.sl (r.map Event.enc)):=tP []<|
.rg 1<|tC 4 (gh n c)<|fun y1 =>tB 5 (y1 != 0) (.rq ([]:List Event))<|
.rg 3<|tC 7 (nT n c)<|fun y3 =>.ret y3
def IK:List (Nat×PT):=[(6,(hZ [0,1,2,3,4,5,6,7,8]))]
noncomputable def Od:Code:=sub (aS Tryz.prog 14) [1,1,0,1,0,0]
def Oe (a:(List Int)) (b:(List Int)) (sa:Int):St:=bE 26 [(0,.sl (a.map eI)),(1,.sl (b.map eI)),(5,(vI sa))] [] [] 0
def Of (a:(List Int)) (b:(List Int)) (t0:(Unit⊕Unit)):Ex×St:=match t0 with | .inl tt=>(.ex 0,bE 26 [] [] [] 0) | .inr tt=>(.ret,bE 26 [(4,vF)] [] [] 0)
theorem KT (n:Nat) (a:(List Int)) (b:(List Int)):lC (fW n a b) Od (Oe a b) (Of a b):=tR IK 14 (uI (fun _=>h_) fun _=>tu) fun sa =>
.rg 4<|tL 13 eI a<|tB 14 (decide (sa<(a.length:Int))) (.rg 6<|tI 19 eI a sa<|fun xa2 =>tI 23 eI b sa<|fun xa3 =>tB 25 (xa2 != xa3) (.wk (wK [4] [] 0) l0<|.ret (.inr (.inr ())))<|
.wk (wK [0,1,5] [] 0) l0<|.ret (.inl (ae .i64 sa 1)))<|
.wk (wK [] [] 0) l0<|.ret (.inr (.inl ()))
theorem eO (n:Nat) (a:(List Int)) (b:(List Int)):pC (eF n a b) 14 [.sl (a.map eI),.sl (b.map eI)] (fun r=>.v (.bool r)):=tP IK<|
.rg 1<|tL 7 eI a<|tL 9 eI b<|tB 10 ((a.length:Int) != (b.length:Int)) (.ret false)<|
.bind 3000004 (iter (fun s=>fW n a b s) n 0)<|fun t2 =>.alt 3000004 t2 (fun w3 =>tX 3000004 (wK [0,1,5] [] 0) 14 (KT n a b) (fun g_=>(eS g_.1.2 g_.2))<|.ret true)<|
fun w3 =>tX 3000004 (wK [0,1,5] [] 0) 14 (KT n a b) (fun g_=>(eS g_.1.2 g_.2))<|.ret false
theorem AI (n:Nat) (a:Deps) (b:Deps):pC (rt n a b) 65 [(eD Deps.enc a),(eD Deps.enc b)] (fun r=>.v (.bool r)):=tP []<|
.rg 1<|tC 9 (eO n a.Addr b.Addr)<|fun y1 =>tB 10 y1 (tC 15 (eO n a.Data b.Data)<|fun y3 =>tB 17 y3 (tC 22 (eO n a.Way b.Way)<|fun y5 =>.ret y5)<|
.ret false)<|
.ret false
theorem yv (n:Nat) (a:Event) (b:Event):pC (pO n a b) 37 [(eD Event.enc a),(eD Event.enc b)] (fun r=>.v (.bool r)):=tP []<|
.rg 1<|tC 9 (AI n a.Deps b.Deps)<|fun y1 =>tB 10 y1 (tB 17 (a.Hart==b.Hart) (tB 24 (a.At==b.At) (tB 31 (a.Kind==b.Kind) (tB 38 (a.Addr==b.Addr) (tB 45 (a.Load==b.Load) (tB 52 (a.Store==b.Store) (tB 59 (a.Aq==b.Aq) (tB 66 (a.Rl==b.Rl) (tB 73 (a.Pred==b.Pred) (tB 80 (a.Succ==b.Succ) (.ret (a.Pair==b.Pair))<|
.ret false)<|
.ret false)<|
.ret false)<|
.ret false)<|
.ret false)<|
.ret false)<|
.ret false)<|
.ret false)<|
.ret false)<|
.ret false)<|
.ret false
def IL:List (Nat×PT):=[(6,(hZ [0,1,2,3,4,5,6,7,8,9]))]
noncomputable def Og:Code:=sub (aS Tryz.prog 10) [1,1,0,1,0,0]
def Oh (a:(List Event)) (b:(List Event)) (sa:Int):St:=bE 27 [(0,.sl (a.map Event.enc)),(1,.sl (b.map Event.enc)),(5,(vI sa))] [] [] 0
def Oi (a:(List Event)) (b:(List Event)) (t0:(Unit⊕Unit)):Ex×St:=match t0 with | .inl tt=>(.ex 0,bE 27 [] [] [] 0) | .inr tt=>(.ret,bE 27 [(4,vF)] [] [] 0)
theorem KU (n:Nat) (a:(List Event)) (b:(List Event)):lC (ij n a b) Og (Oh a b) (Oi a b):=tR IL 10 (uI (fun _=>h_) fun _=>tu) fun sa =>
.rg 4<|tL 13 Event.enc a<|tB 14 (decide (sa<(a.length:Int))) (.rg 6<|tI 19 Event.enc a sa<|fun xa2 =>tI 23 Event.enc b sa<|fun xa3 =>tC 25 (yv n xa2 xa3)<|fun ya4 =>tB 26 (!ya4) (.wk (wK [4] [] 0) l0<|.ret (.inr (.inr ())))<|
.wk (wK [0,1,5] [] 0) l0<|.ret (.inl (ae .i64 sa 1)))<|
.wk (wK [] [] 0) l0<|.ret (.inr (.inl ()))
theorem pF (n:Nat) (a:(List Event)) (b:(List Event)):pC (lz n a b) 10 [.sl (a.map Event.enc),.sl (b.map Event.enc)] (fun r=>.v (.bool r)):=tP IL<|
.rg 1<|tL 7 Event.enc a<|tL 9 Event.enc b<|tB 10 ((a.length:Int) != (b.length:Int)) (.ret false)<|
.bind 3000004 (iter (fun s=>ij n a b s) n 0)<|fun t2 =>.alt 3000004 t2 (fun w3 =>tX 3000004 (wK [0,1,5] [] 0) 10 (KU n a b) (fun g_=>(eS g_.1.2 g_.2))<|.ret true)<|
fun w3 =>tX 3000004 (wK [0,1,5] [] 0) 10 (KU n a b) (fun g_=>(eS g_.1.2 g_.2))<|.ret false
theorem qb (n:Nat) (x:Int) (y:Int):pC (nY n x y) 82 [(vU x),(vU y)] (fun r=>.tup [(vU r.1),(vU r.2)]):=tP []<|
.ret ((ae .u64 (ae .u64 (cf .u64 (bL .u64 x 32) (bL .u64 y 32)) (bL .u64 (ae .u64 (cf .u64 (bL .u64 x 32) (bV .u64 y 4294967295)) (bL .u64 (cf .u64 (bV .u64 x 4294967295) (bV .u64 y 4294967295)) 32)) 32)) (bL .u64 (ae .u64 (bV .u64 (ae .u64 (cf .u64 (bL .u64 x 32) (bV .u64 y 4294967295)) (bL .u64 (cf .u64 (bV .u64 x 4294967295) (bV .u64 y 4294967295)) 32)) 4294967295) (cf .u64 (bV .u64 x 4294967295) (bL .u64 y 32))) 32)),(cf .u64 x y))
theorem sj (n:Nat) (x:Int) (y:Int):pC (j1 n x y) 68 [(vU x),(vU y)] (fun r=>.tup [(vU r.1),(vU r.2)]):=tP []<|
.rg 3<|tC 25 (qb n x y)<|fun y1 =>.ret (y1.1,y1.2)
def IM:List (Nat×PT):=[(9,(.go 1 (.go 2 (.go 3 (.go 4 (.go 5 (.go 6 (.alt 0 (hZ [7,8,9]) (.alt 7 (hZ [0,8,9]) (hZ []))))))))))]
noncomputable def Oj:Code:=sub (aS Tryz.prog 42) [1,1,1,1,1,1,0,0,0]
def Ol (sa:(List Int)×Int):St:=bE 48 [(7,.mf 0),(8,(vI sa.2))] [] [.arr true 1 (sa.1.map eI)] 0
def Om (tt:((List Int))):Ex×St:=(.ex 0,bE 48 [(7,.mf 0)] [] [.arr true 1 (tt.map eI)] 0)
theorem On (n:Nat):lC (dv n) Oj (Ol) (Om):=tR IM 42 (fun _=>h_) fun sa =>
.rg 8<|tL 36 eI sa.1<|tB 37 (decide (sa.2<(sa.1.length:Int))) (.rg 9<|tG 41 (decide ((0:Int)≤sa.2)&&decide (sa.2≤(sa.1.length:Int)))<|.op 41 (B_ 41 (.msl 0 ((sa.2).toNat) (sa.1.length - (sa.2).toNat) 0))<|.o ((decide ((0:Int)≤sa.2)&&decide (sa.2≤(((sa.1.map eI).length:Nat):Int)))=true) (fun g_=>GL g_.2)<|.o (AV.msl 0 (sa.2).toNat ((sa.1.map eI).length - (sa.2).toNat) 0=AV.msl 0 ((sa.2).toNat) (sa.1.length - (sa.2).toNat) 0) (fun _=>GK eI sa.1 _ _ _ _)<|tG 44 (decide ((0:Int)≤sa.2)&&decide (sa.2≤(sa.1.length:Int)))<|.op 44 (B_ 44 (.msl 0 0 ((sa.2).toNat) (sa.1.length - (sa.2).toNat)))<|.o ((decide ((0:Int)≤sa.2)&&decide (sa.2≤(((sa.1.map eI).length:Nat):Int)))=true) (fun g_=>GL g_.2)<|.o (AV.msl 0 0 ((sa.2).toNat - 0) ((sa.1.map eI).length - (sa.2).toNat)=AV.msl 0 0 ((sa.2).toNat) (sa.1.length - (sa.2).toNat)) (fun _=>HW eI sa.1 _ _ _ _)<|tG 45 (Nat.ble ((sa.2).toNat + (sa.1.length - (sa.2).toNat)) sa.1.length)<|.op 45 ⟨[],[],[],[(45,.v (.int .i64 ((min ((sa.1.drop 0).take ((sa.2).toNat)).length (sa.1.length - (sa.2).toNat):Nat):Int)))],[],[],[(45,(0,(sa.1.take ((sa.2).toNat)++(((sa.1.drop 0).take ((sa.2).toNat)).take (sa.1.length - (sa.2).toNat)++sa.1.drop ((sa.2).toNat + min ((sa.1.drop 0).take ((sa.2).toNat)).length (sa.1.length - (sa.2).toNat)))).map eI))],[],[]⟩<|.o (cN (((sa.1.map eI).drop 0).take ((sa.2).toNat))=true) (fun _=>(by rw [← List.map_drop,← List.map_take]; exact GU))<|.o (Nat.ble ((sa.2).toNat + (sa.1.length - (sa.2).toNat)) (sa.1.map eI).length=true) (fun g_=>(by rw [List.length_map]; exact g_.2))<|.o (AV.v (.int .i64 ((min (((sa.1.map eI).drop 0).take ((sa.2).toNat)).length (sa.1.length - (sa.2).toNat):Nat):Int))=AV.v (.int .i64 ((min ((sa.1.drop 0).take ((sa.2).toNat)).length (sa.1.length - (sa.2).toNat):Nat):Int))) (fun _=>(by simp []))<|.o ((sa.1.map eI).take ((sa.2).toNat)++((((sa.1.map eI).drop 0).take ((sa.2).toNat)).take (sa.1.length - (sa.2).toNat)++(sa.1.map eI).drop ((sa.2).toNat + min (((sa.1.map eI).drop 0).take ((sa.2).toNat)).length (sa.1.length - (sa.2).toNat)))=(sa.1.take ((sa.2).toNat)++(((sa.1.drop 0).take ((sa.2).toNat)).take (sa.1.length - (sa.2).toNat)++sa.1.drop ((sa.2).toNat + min ((sa.1.drop 0).take ((sa.2).toNat)).length (sa.1.length - (sa.2).toNat)))).map eI) (fun _=>(by simp [List.map_take,List.map_drop]))<|.op 45 ⟨[],[],[],[(45,.v (.int .i64 ((min ((sa.1.drop 0).take ((sa.2).toNat)).length (sa.1.length - (sa.2).toNat):Nat):Int)))],[],[],[(45,(0,(sa.1.take ((sa.2).toNat)++(((sa.1.drop 0).take ((sa.2).toNat)).take (sa.1.length - (sa.2).toNat)++sa.1.drop ((sa.2).toNat + min ((sa.1.drop 0).take ((sa.2).toNat)).length (sa.1.length - (sa.2).toNat)))).map eI))],[],[]⟩<|.o (cN (((sa.1.map eI).drop 0).take ((sa.2).toNat))=true) (fun _=>(by rw [← List.map_drop,← List.map_take]; exact GU))<|.o (Nat.ble ((sa.2).toNat + (sa.1.length - (sa.2).toNat)) (sa.1.map eI).length=true) (fun g_=>(by rw [List.length_map]; exact g_.2))<|.o (AV.v (.int .i64 ((min (((sa.1.map eI).drop 0).take ((sa.2).toNat)).length (sa.1.length - (sa.2).toNat):Nat):Int))=AV.v (.int .i64 ((min ((sa.1.drop 0).take ((sa.2).toNat)).length (sa.1.length - (sa.2).toNat):Nat):Int))) (fun _=>(by simp []))<|.o ((sa.1.map eI).take ((sa.2).toNat)++((((sa.1.map eI).drop 0).take ((sa.2).toNat)).take (sa.1.length - (sa.2).toNat)++(sa.1.map eI).drop ((sa.2).toNat + min (((sa.1.map eI).drop 0).take ((sa.2).toNat)).length (sa.1.length - (sa.2).toNat)))=(sa.1.take ((sa.2).toNat)++(((sa.1.drop 0).take ((sa.2).toNat)).take (sa.1.length - (sa.2).toNat)++sa.1.drop ((sa.2).toNat + min ((sa.1.drop 0).take ((sa.2).toNat)).length (sa.1.length - (sa.2).toNat)))).map eI) (fun _=>(by simp [List.map_take,List.map_drop]))<|tW (bE 48 [(7,.mf 0),(8,.v (.int .i64 (ae .i64 sa.2 ((min ((sa.1.drop 0).take ((sa.2).toNat)).length (sa.1.length - (sa.2).toNat):Nat):Int)))),(34,(vI sa.2)),(35,.mf 0),(36,(vI (sa.1.length:Int))),(37,vT),(38,(vI sa.2)),(39,.mf 0),(40,(vI sa.2)),(41,.msl 0 ((sa.2).toNat) (sa.1.length - (sa.2).toNat) 0),(42,.mf 0),(43,(vI sa.2)),(44,.msl 0 0 ((sa.2).toNat) (sa.1.length - (sa.2).toNat)),(45,.v (.int .i64 ((min ((sa.1.drop 0).take ((sa.2).toNat)).length (sa.1.length - (sa.2).toNat):Nat):Int))),(46,.v (.int .i64 (ae .i64 sa.2 ((min ((sa.1.drop 0).take ((sa.2).toNat)).length (sa.1.length - (sa.2).toNat):Nat):Int))))] [] [.arr true 1 ((sa.1.take ((sa.2).toNat)++(((sa.1.drop 0).take ((sa.2).toNat)).take (sa.1.length - (sa.2).toNat)++sa.1.drop ((sa.2).toNat + min ((sa.1.drop 0).take ((sa.2).toNat)).length (sa.1.length - (sa.2).toNat)))).map eI)] 0)<|fun z0_ =>tZ z0_<|.wk (wK [7,8] [] 1) l0<|.ret (.inl ((sa.1.take ((sa.2).toNat)++(((sa.1.drop 0).take ((sa.2).toNat)).take (sa.1.length - (sa.2).toNat)++sa.1.drop ((sa.2).toNat + min ((sa.1.drop 0).take ((sa.2).toNat)).length (sa.1.length - (sa.2).toNat)))),(ae .i64 sa.2 ((min ((sa.1.drop 0).take ((sa.2).toNat)).length (sa.1.length - (sa.2).toNat):Nat):Int)))))<|
.wk (wK [7] [] 1) l0<|.ret (.inr sa.1)
def ma (x:(List Int)) (count:Int) (y:(List Int)):AV×List Ob:=(.mf 0,[.arr true 1 (y.map eI)])
theorem lc (n:Nat) (x:(List Int)) (count:Int):sC (de n x count) 42 [.sl (x.map eI),(vI count)] [] (ma x count):=tD IM<|
.rg 1<|tB 10 (decide (count<0)) (.bad)<|
.rg 3<|tL 14 eI x<|tC 18 (sj n (IntKind.wrap .u64 (x.length:Int)) (IntKind.wrap .u64 count))<|fun y2 =>.rg 4<|tB 23 (decide (y2.1>0)) (.bad)<|
tB 26 (decide (y2.2>9223372036854775807)) (.bad)<|
.rg 6<|tG 30 (decide ((0:Int)≤(IntKind.wrap .i64 y2.2))&&decide ((IntKind.wrap .i64 y2.2)≤(IntKind.wrap .i64 y2.2))&&decide (8 * (IntKind.wrap .i64 y2.2)≤140737488355328)&&decide ((IntKind.wrap .i64 y2.2)≤140737488355328)&&Nat.blt 0 1)<|.op 30 (Fy 30 0 ((List.replicate ((IntKind.wrap .i64 y2.2)).toNat 0).map eI))<|.o _ (fun g_=>g_.2)<|.o (List.replicate ((IntKind.wrap .i64 y2.2)).toNat [(vI 0)]=(List.replicate ((IntKind.wrap .i64 y2.2)).toNat 0).map eI) (fun _=>vp eI _ 0)<|.rg 7<|.op 33 ⟨[],[],[],[(33,.v (.int .i64 ((min x.length (List.replicate ((IntKind.wrap .i64 y2.2)).toNat 0).length:Nat):Int)))],[],[],[(33,(0,(x.take (List.replicate ((IntKind.wrap .i64 y2.2)).toNat 0).length++(List.replicate ((IntKind.wrap .i64 y2.2)).toNat 0).drop x.length).map eI))],[],[]⟩<|.o (kn 1 (x.map eI)=true) (fun _=>H5)<|.o (cN (x.map eI)=true) (fun _=>GU)<|.o (AV.v (.int .i64 ((min (x.map eI).length ((List.replicate ((IntKind.wrap .i64 y2.2)).toNat 0).map eI).length:Nat):Int))=AV.v (.int .i64 ((min x.length (List.replicate ((IntKind.wrap .i64 y2.2)).toNat 0).length:Nat):Int))) (fun _=>(by simp []))<|.o ((x.map eI).take ((List.replicate ((IntKind.wrap .i64 y2.2)).toNat 0).map eI).length++((List.replicate ((IntKind.wrap .i64 y2.2)).toNat 0).map eI).drop (x.map eI).length=(x.take (List.replicate ((IntKind.wrap .i64 y2.2)).toNat 0).length++(List.replicate ((IntKind.wrap .i64 y2.2)).toNat 0).drop x.length).map eI) (fun _=>(by simp [List.map_take]))<|.bind 3000008 (iter (fun s=>dv n s) n ((x.take (List.replicate ((IntKind.wrap .i64 y2.2)).toNat 0).length++(List.replicate ((IntKind.wrap .i64 y2.2)).toNat 0).drop x.length),((min x.length (List.replicate ((IntKind.wrap .i64 y2.2)).toNat 0).length:Nat):Int)))<|fun t6 =>tX 3000008 (wK [7,8] [] 1) 42 (On n) (fun g_=>g_.2)<|.ret t6
noncomputable def Oo:Code:=sub (aS Tryz.prog 15) [1,1,1,0,1,0,0]
def Oq (c:ai) (sa:(List Int)×Int):St:=bE 28 [(3,.mf 0),(15,.sl (c.Order.map eI)),(16,(vI (c.Order.length:Int))),(17,(vI sa.2))] [] [.arr true 1 (sa.1.map eI)] 0
def Ot (c:ai) (tt:((List Int))):Ex×St:=(.ex 0,bE 28 [(3,.mf 0)] [] [.arr true 1 (tt.map eI)] 0)
theorem Ou (n:Nat) (c:ai):lC (jd n c) Oo (Oq c) (Ot c):=tR [] 15 (fun _=>h_) fun sa =>
.rg 5<|tB 18 (decide (sa.2<(c.Order.length:Int))) (.rg 6<|tI 20 eI c.Order sa.2<|fun xa2 =>.rg 7<|tI 25 eI sa.1 xa2<|fun xa3 =>.op 1000025 (mW 1000025 [(vI xa3)] 0 ((sa.1.set (xa2).toNat sa.2).map eI))<|.o _ (fun g_=>bv eI g_.2)<|.o _ (fun _=>bA eI sa.1 ((xa2).toNat) sa.2)<|.wk (wK [3,15,16,17] [] 1) l0<|.ret (.inl ((sa.1.set (xa2).toNat sa.2),(ae .i64 sa.2 1))))<|
.wk (wK [3] [] 1) l0<|.ret (.inr sa.1)
theorem u9 (n:Nat) (c:ai):pC (iL n c) 15 [(eD ai.enc c)] (fun r=>.sl (r.map eI)):=tP []<|
.rg 1<|tC 7 (eh n c)<|fun y1 =>tB 8 (y1 != 0) (.rq ([]:List Int))<|
.rg 3<|tL 12 eI c.From<|tS 13 (lc n ([(-1)]:List Int) (c.From.length:Int))<|fun y3 =>.rg 4<|tL 16 eI c.Order<|.bind 3000005 (iter (fun s=>jd n c s) n (y3,0))<|fun t4 =>tX 3000005 (wK [3,15,16,17] [1] 1) 15 (Ou n c) (fun g_=>g_.2)<|.ret t4
noncomputable def Ov:Code:=sub (aS Tryz.prog 16) [1,1,1,0,1,0,0]
noncomputable def Ow:Code:=sub (aS Tryz.prog 16) [1,1,1,1,0,1,0,0]
def Ox (c:ai) (sa:(List Int)×Int):St:=bE 38 [(1,.ptr (.L 1) 0 0),(3,.mf 0),(4,(vI sa.2))] [(1,(ai.enc c))] [.arr true 1 (sa.1.map eI)] 0
def Oy (c:ai) (tt:((List Int))):Ex×St:=(.ex 0,bE 38 [(1,.ptr (.L 1) 0 0),(3,.mf 0)] [(1,(ai.enc c))] [.arr true 1 (tt.map eI)] 0)
theorem Oz (n:Nat) (c:ai):lC (j3 n c) Ov (Ox c) (Oy c):=tR [] 16 (fun _=>h_) fun sa =>
.rg 5<|tL 15 eI sa.1<|tB 16 (decide (sa.2<(sa.1.length:Int))) (.rg 7<|tI 21 eI sa.1 sa.2<|fun xa2 =>.op 1000021 (mW 1000021 [(vI xa2)] 0 ((sa.1.set (sa.2).toNat (-1)).map eI))<|.o _ (fun g_=>bv eI g_.2)<|.o _ (fun _=>bA eI sa.1 ((sa.2).toNat) (-1))<|.wk (wK [1,3,4] [] 1) l0<|.ret (.inl ((sa.1.set (sa.2).toNat (-1)),(ae .i64 sa.2 1))))<|
.wk (wK [1,3] [] 1) l0<|.ret (.inr sa.1)
def OA (c:ai) (sa:(List Int)×Int):St:=bE 38 [(1,.ptr (.L 1) 0 0),(3,.mf 0),(5,(vI sa.2))] [(1,(ai.enc c))] [.arr true 1 (sa.1.map eI)] 0
def OB (c:ai) (tt:((List Int))):Ex×St:=(.ex 2,bE 38 [(3,.mf 0)] [] [.arr true 1 (tt.map eI)] 0)
theorem OC (n:Nat) (c:ai):lC (j4 n c) Ow (OA c) (OB c):=tR [] 16 (fun _=>h_) fun sa =>
.rg 9<|tL 25 eI c.Order<|tB 26 (decide (sa.2<(c.Order.length:Int))) (.rg 11<|tI 33 eI c.Order sa.2<|fun xa2 =>tI 36 eI sa.1 xa2<|fun xa3 =>.op 1000036 (mW 1000036 [(vI xa3)] 0 ((sa.1.set (xa2).toNat sa.2).map eI))<|.o _ (fun g_=>bv eI g_.2)<|.o _ (fun _=>bA eI sa.1 ((xa2).toNat) sa.2)<|.wk (wK [1,3,5] [] 1) l0<|.ret (.inl ((sa.1.set (xa2).toNat sa.2),(ae .i64 sa.2 1))))<|
.wk (wK [3] [1] 1) l0<|.ret (.inr sa.1)
theorem xp (n:Nat) (c:ai):pC (jL n c) 16 [(eD ai.enc c)] (fun r=>.sl (r.map eI)):=tP []<|
.rg 1<|tC 7 (gh n c)<|fun y1 =>tB 8 (y1 != 0) (.rq ([]:List Int))<|
.rg 3<|tL 11 eI c.From<|tG 12 (decide ((0:Int)≤(c.From.length:Int))&&decide ((c.From.length:Int)≤(c.From.length:Int))&&decide (8 * (c.From.length:Int)≤140737488355328)&&decide ((c.From.length:Int)≤140737488355328)&&Nat.blt 0 1)<|.op 12 (Fy 12 0 ((List.replicate ((c.From.length:Int)).toNat 0).map eI))<|.o _ (fun g_=>g_.2)<|.o (List.replicate ((c.From.length:Int)).toNat [(vI 0)]=(List.replicate ((c.From.length:Int)).toNat 0).map eI) (fun _=>vp eI _ 0)<|.bind 3000005 (iter (fun s=>j3 n c s) n ((List.replicate ((c.From.length:Int)).toNat 0),0))<|fun t4 =>tX 3000005 (wK [1,3,4] [] 1) 16 (Oz n c) (fun g_=>g_.2)<|.bind 3000009 (iter (fun s=>j4 n c s) n (t4,0))<|fun t5 =>tX 3000009 (wK [1,3,5] [] 1) 16 (OC n c) (fun g_=>g_.2)<|.ret t5
theorem xr (n:Nat) (c:ai) (addr:Int):pC (jM n c addr) 17 [(eD ai.enc c),(vU addr)] (fun r=>(vU r)):=tP []<|
.rg 1<|tC 6 (eh n c)<|fun y1 =>tB 7 (y1 != 0) (.ret 0)<|
.rg 3<|tC 11 (pE n c.First addr)<|fun y3 =>.ret y3
theorem yw (n:Nat) (c:ai) (addr:Int):pC (lk n c addr) 18 [(eD ai.enc c),(vU addr)] (fun r=>(vU r)):=tP []<|
.rg 1<|tC 6 (gh n c)<|fun y1 =>tB 7 (y1 != 0) (.ret 0)<|
.rg 3<|tC 11 (qy n c.First addr)<|fun y3 =>.ret y3
noncomputable def OD:Code:=sub (aS Tryz.prog 48) [1,1,0,1,0,0]
noncomputable def OE:Code:=sub (aS Tryz.prog 48) [1,1,1,1,0,1,0,0]
def OF (l:(List Cell)) (addr:Int) (value:Int) (sa:(List Cell)×Int):St:=bE 61 [(0,.sl (l.map Cell.enc)),(1,(vU addr)),(2,(vU value)),(7,.mf 0),(8,(vI sa.2))] [] [.arr true 2 (sa.1.map Cell.enc)] 0
def OG (l:(List Cell)) (addr:Int) (value:Int) (tt:((List Cell))):Ex×St:=(.ex 0,bE 61 [(0,.sl (l.map Cell.enc)),(1,(vU addr)),(2,(vU value)),(7,.mf 0)] [] [.arr true 2 (tt.map Cell.enc)] 0)
theorem OH (n:Nat) (l:(List Cell)) (addr:Int) (value:Int):lC (fK n l addr value) OD (OF l addr value) (OG l addr value):=tR [] 48 (fun _=>h_) fun sa =>
.rg 3<|tL 12 Cell.enc l<|tB 14 (decide (sa.2<(l.length:Int))) (tI 17 Cell.enc l sa.2<|fun xa2 =>tB 22 (decide (xa2.Addr<addr)) (.rg 5<|tM 28 Cell.enc (fun g_=>g_.1.2)<|tG 31 (Nat.ble ((sa.1.length + 1) * 16) 140737488355328)<|.op 31 (Fy 31 0 ((sa.1++([xa2]:List Cell)).map Cell.enc))<|.o (kn 2 [(Cell.enc xa2)]=true) (fun _=>rfl)<|.o (cN [(Cell.enc xa2)]=true) (fun _=>rfl)<|.o (Nat.ble (((sa.1.map Cell.enc).length + 1) * 16) 140737488355328=true) (fun g_=>iX g_.2)<|.o _ (fun _=>k_ Cell.enc sa.1 ([xa2]:List Cell))<|.wk (wK [0,1,2,7,8] [] 1) l0<|.ret (.inl ((sa.1++([xa2]:List Cell)),(ae .i64 sa.2 1))))<|
.wk (wK [0,1,2,7] [] 1) l0<|.ret (.inr sa.1))<|
.wk (wK [0,1,2,7] [] 1) l0<|.ret (.inr sa.1)
def OI (l:(List Cell)) (addr:Int) (sa:(List Cell)×Int):St:=bE 61 [(0,.sl (l.map Cell.enc)),(1,(vU addr)),(7,.mf 0),(9,(vI sa.2))] [] [.arr true 2 (sa.1.map Cell.enc)] 0
def OJ (l:(List Cell)) (addr:Int) (tt:((List Cell))):Ex×St:=(.ex 2,bE 61 [(7,.mf 0)] [] [.arr true 2 (tt.map Cell.enc)] 0)
theorem KV (n:Nat) (l:(List Cell)) (addr:Int):lC (fL n l addr) OE (OI l addr) (OJ l addr):=tR [] 48 (fun _=>h_) fun sa =>
.rg 9<|tL 42 Cell.enc l<|tB 43 (decide (sa.2<(l.length:Int))) (.rg 11<|tI 48 Cell.enc l sa.2<|fun xa2 =>tB 52 (decide (xa2.Addr>addr)) (.rg 12<|tM 56 Cell.enc (fun g_=>g_.1.2)<|tG 59 (Nat.ble ((sa.1.length + 1) * 16) 140737488355328)<|.op 59 (Fy 59 0 ((sa.1++([xa2]:List Cell)).map Cell.enc))<|.o (kn 2 [(Cell.enc xa2)]=true) (fun _=>rfl)<|.o (cN [(Cell.enc xa2)]=true) (fun _=>rfl)<|.o (Nat.ble (((sa.1.map Cell.enc).length + 1) * 16) 140737488355328=true) (fun g_=>iX g_.2)<|.o _ (fun _=>k_ Cell.enc sa.1 ([xa2]:List Cell))<|.wk (wK [0,1,7,9] [] 1) l0<|.ret (.inl ((sa.1++([xa2]:List Cell)),(ae .i64 sa.2 1))))<|
.wk (wK [0,1,7,9] [] 1) l0<|.ret (.inl (sa.1,(ae .i64 sa.2 1))))<|
.wk (wK [7] [] 1) l0<|.ret (.inr sa.1)
theorem uL (n:Nat) (l:(List Cell)) (addr:Int) (value:Int):pC (ru n l addr value) 48 [.sl (l.map Cell.enc),(vU addr),(vU value)] (fun r=>.sl (r.map Cell.enc)):=tP []<|
.bind 3000003 (iter (fun s=>fK n l addr value s) n (([]:List Cell),0))<|fun t1 =>tX 3000003 ⟨[0,1,2,7,8],[],0,[(7,2)],[],[]⟩ 48 (OH n l addr value) (fun g_=>g_.2)<|.rg 6<|tB 33 (value != 0) (.rg 7<|tG 39 (Nat.ble ((t1.length + 1) * 16) 140737488355328)<|.op 39 (Fy 39 0 ((t1++([(Cell.mk addr value)]:List Cell)).map Cell.enc))<|.o (kn 2 [[(vU addr),(vU value)]]=true) (fun _=>rfl)<|.o (cN [[(vU addr),(vU value)]]=true) (fun _=>rfl)<|.o (Nat.ble (((t1.map Cell.enc).length + 1) * 16) 140737488355328=true) (fun g_=>iX g_.2)<|.o _ (fun _=>k_ Cell.enc t1 ([(Cell.mk addr value)]:List Cell))<|.bind 3000009 (iter (fun s=>fL n l addr s) n ((t1++([(Cell.mk addr value)]:List Cell)),0))<|fun t4 =>tX 3000009 (wK [0,1,7,9] [] 1) 48 (KV n l addr) (fun g_=>g_.2)<|.ret t4)<|
.bind 3000009 (iter (fun s=>fL n l addr s) n (t1,0))<|fun t3 =>tX 3000009 (wK [0,1,7,9] [] 1) 48 (KV n l addr) (fun g_=>g_.2)<|.ret t3
def GZ:List (Nat×PT):=[(8,(hZ [0,1,2,3,4,5,6,7,8,9,10,11,12,13,14]))]
noncomputable def OL:Code:=sub (aS Tryz.prog 21) [1,1,1,1,0,1,0,0]
noncomputable def OM:Code:=sub (aS Tryz.prog 21) [1,1,1,1,1,0,1,0,0]
def ON (c:ai) (y3:(List Event)) (sa:(List Cell)×Int):St:=bE 58 [(1,.ptr (.L 1) 0 0),(3,.sl (y3.map Event.enc)),(4,.sl (sa.1.map Cell.enc)),(5,(vI sa.2))] [(1,(ai.enc c))] [] 0
def JA (c:ai) (y3:(List Event)) (tt:((List Cell))):Ex×St:=(.ex 0,bE 58 [(1,.ptr (.L 1) 0 0),(3,.sl (y3.map Event.enc)),(4,.sl (tt.map Cell.enc))] [(1,(ai.enc c))] [] 0)
theorem OO (n:Nat) (c:ai) (y3:(List Event)):lC (iM n c y3) OL (ON c y3) (JA c y3):=tR GZ 21 (fun _=>h_) fun sa =>
.rg 6<|tL 16 Cell.enc c.First<|tB 17 (decide (sa.2<(c.First.length:Int))) (.rg 8<|tI 24 Cell.enc c.First sa.2<|fun xa2 =>tM 30 Cell.enc (fun g_=>g_.2)<|tC 33 (uL n sa.1 xa2.Addr xa2.Value)<|fun ya3 =>.wk (wK [1,3,4,5] [] 0) l0<|.ret (.inl (ya3,(ae .i64 sa.2 1))))<|
.wk (wK [1,3,4] [] 0) l0<|.ret (.inr sa.1)
def OP (c:ai) (y3:(List Event)) (sa:(List Cell)×Int):St:=bE 58 [(1,.ptr (.L 1) 0 0),(3,.sl (y3.map Event.enc)),(4,.sl (sa.1.map Cell.enc)),(6,(vI sa.2))] [(1,(ai.enc c))] [] 0
def OQ (c:ai) (y3:(List Event)) (tt:((List Cell))):Ex×St:=(.ex 2,bE 58 [(4,.sl (tt.map Cell.enc))] [] [] 0)
theorem OR (n:Nat) (c:ai) (y3:(List Event)):lC (iN n c y3) OM (OP c y3) (OQ c y3):=tR GZ 21 (fun _=>h_) fun sa =>
.rg 10<|tL 37 eI c.Order<|tB 38 (decide (sa.2<(c.Order.length:Int))) (.rg 12<|tI 45 eI c.Order sa.2<|fun xa2 =>tI 47 Event.enc y3 xa2<|fun xa3 =>.rg 13<|.bind 50 (fj n xa3)<|fun ya4 =>.ite 50 ya4 (.op 50 (xL 50 (.v (.bool ya4)) (vT))<|.o _ (fun g_=>(eX n xa3 ya4 g_.1.2))<|.o _ (fun g_=>cB g_.2)<|.rg 14<|tC 56 (uL n sa.1 xa3.Addr xa3.Store)<|fun ya6 =>.wk (wK [1,3,4,6] [7] 0) l0<|.ret (.inl (ya6,(ae .i64 sa.2 1))))<|
.op 50 (xL 50 (.v (.bool ya4)) (vF))<|.o _ (fun g_=>(eX n xa3 ya4 g_.1.2))<|.o _ (fun g_=>cB g_.2)<|.wk (wK [1,3,4,6] [7] 0) l0<|.ret (.inl (sa.1,(ae .i64 sa.2 1))))<|
.wk (wK [4] [1] 0) l0<|.ret (.inr sa.1)
theorem AJ (n:Nat) (c:ai):pC (mX n c) 21 [(eD ai.enc c)] (fun r=>.sl (r.map Cell.enc)):=tP GZ<|
.rg 1<|tC 9 (gh n c)<|fun y1 =>tB 10 (y1 != 0) (.rq ([]:List Cell))<|
.rg 3<|tC 12 (nT n c)<|fun y3 =>.bind 3000006 (iter (fun s=>iM n c y3 s) n (([]:List Cell),0))<|fun t4 =>.lp 3000006 (wK [1,3,4,5] [] 0) ⟨[(4,.sl (([]:List Cell).map Cell.enc))],[],[]⟩ (JA c y3 t4).1 (JA c y3 t4).2<|.o (dm (.nilsl) (.sl (([]:List Cell).map Cell.enc))) (fun _=>dm.nil)<|oX (AD 21) (OO n c y3) (fun g_=>g_.2)<|.bind 3000010 (iter (fun s=>iN n c y3 s) n (t4,0))<|fun t5 =>tX 3000010 (wK [1,3,4,6] [] 0) 21 (OR n c y3) (fun g_=>g_.2)<|.ret t5
def IN:List (Nat×PT):=[(6,(hZ [0,1,2,3,4,5,6,7,8]))]
noncomputable def OS:Code:=sub (aS Tryz.prog 53) [1,1,0,1,0,0]
def OT (s1_:(List Cell)) (s2_:(List Cell)) (sa:Int):St:=bE 26 [(0,.sl (s1_.map Cell.enc)),(1,.sl (s2_.map Cell.enc)),(12,(vI (s1_.length:Int))),(13,(vI sa))] [] [] 0
def OU (s1_:(List Cell)) (s2_:(List Cell)) (t0:(Unit⊕Unit)):Ex×St:=match t0 with | .inl tt=>(.ex 0,bE 26 [] [] [] 0) | .inr tt=>(.ret,bE 26 [(4,vF)] [] [] 0)
theorem KW (n:Nat) (s1_:(List Cell)) (s2_:(List Cell)):lC (bS n s1_ s2_) OS (OT s1_ s2_) (OU s1_ s2_):=tR IN 53 (uI (fun _=>h_) fun _=>tu) fun sa =>
.rg 4<|tB 14 (decide (sa<(s1_.length:Int))) (.rg 6<|tI 18 Cell.enc s1_ sa<|fun xa2 =>tI 22 Cell.enc s2_ sa<|fun xa3 =>.ite 24 (!(Cell.beq xa2 xa3)) (.op 24 (B_ 24 (vT))<|.o (lB Tryz.prog .neq 43 [(.int .u64 xa2.Addr),(.int .u64 xa2.Value)] [(.int .u64 xa3.Addr),(.int .u64 xa3.Value)]=some (.bool true)) (fun g_=>(jr xa2 xa3).trans (congrArg (fun b=>some (Value.bool b)) g_.2))<|.o (AV.v (.bool true)=AV.v (.bool true)) (fun _=>rfl)<|.wk (wK [4] [] 0) l0<|.ret (.inr (.inr ())))<|
.op 24 (B_ 24 (vF))<|.o (lB Tryz.prog .neq 43 [(.int .u64 xa2.Addr),(.int .u64 xa2.Value)] [(.int .u64 xa3.Addr),(.int .u64 xa3.Value)]=some (.bool false)) (fun g_=>(jr xa2 xa3).trans (congrArg (fun b=>some (Value.bool b)) g_.2))<|.o (AV.v (.bool false)=AV.v (.bool false)) (fun _=>rfl)<|.wk (wK [0,1,12,13] [] 0) l0<|.ret (.inl (ae .i64 sa 1)))<|
.wk (wK [] [] 0) l0<|.ret (.inr (.inl ()))
theorem iH (n:Nat) (s1_:(List Cell)) (s2_:(List Cell)):pC (cH n s1_ s2_) 53 [.sl (s1_.map Cell.enc),.sl (s2_.map Cell.enc)] (fun r=>.v (.bool r)):=tP IN<|
.rg 1<|tL 7 Cell.enc s1_<|tL 9 Cell.enc s2_<|tB 10 ((s1_.length:Int) != (s2_.length:Int)) (.ret false)<|
.rg 3<|tL 12 Cell.enc s1_<|.bind 3000004 (iter (fun s=>bS n s1_ s2_ s) n 0)<|fun t2 =>.alt 3000004 t2 (fun w3 =>tX 3000004 (wK [0,1,12,13] [] 0) 53 (KW n s1_ s2_) (fun g_=>(eS g_.1.2 g_.2))<|.ret true)<|
fun w3 =>tX 3000004 (wK [0,1,12,13] [] 0) 53 (KW n s1_ s2_) (fun g_=>(eS g_.1.2 g_.2))<|.ret false
noncomputable def OV:Code:=sub (aS Tryz.prog 51) [1,1,0,1,0,0]
def OW (s1_:(List Event)) (s2_:(List Event)) (sa:Int):St:=bE 32 [(1,.sl (s2_.map Event.enc)),(2,.fn 52 [] []),(15,.sl (s1_.map Event.enc)),(16,(vI (s1_.length:Int))),(17,(vI sa))] [] [] 0
def OX (s1_:(List Event)) (s2_:(List Event)) (t0:(Unit⊕Unit)):Ex×St:=match t0 with | .inl tt=>(.ex 0,bE 32 [] [] [] 0) | .inr tt=>(.ret,bE 32 [(6,vF)] [] [] 0)
theorem KX (n:Nat) (s1_:(List Event)) (s2_:(List Event)):lC (aA n s1_ s2_) OV (OW s1_ s2_) (OX s1_ s2_):=tR [] 51 (uI (fun _=>h_) fun _=>tu) fun sa =>
.rg 4<|tB 18 (decide (sa<(s1_.length:Int))) (.rg 5<|tI 20 Event.enc s1_ sa<|fun xa2 =>.rg 6<|tI 24 Event.enc s2_ sa<|fun xa3 =>.rg 7<|tC 29 (pD n xa2 xa3)<|fun ya4 =>tB 30 (!ya4) (.wk (wK [6] [9,8] 0) l0<|.ret (.inr (.inr ())))<|
.wk (wK [1,2,15,16,17] [9,8] 0) l0<|.ret (.inl (ae .i64 sa 1)))<|
.wk (wK [] [] 0) l0<|.ret (.inr (.inl ()))
theorem dz (n:Nat) (s1_:(List Event)) (s2_:(List Event)):pC (bu n s1_ s2_) 51 [.sl (s1_.map Event.enc),.sl (s2_.map Event.enc),.fn 52 [] []] (fun r=>.v (.bool r)):=tP []<|
.rg 1<|tL 11 Event.enc s1_<|tL 13 Event.enc s2_<|tB 14 ((s1_.length:Int) != (s2_.length:Int)) (.ret false)<|
.rg 3<|tL 16 Event.enc s1_<|.bind 3000004 (iter (fun s=>aA n s1_ s2_ s) n 0)<|fun t2 =>.alt 3000004 t2 (fun w3 =>tX 3000004 (wK [1,2,15,16,17] [] 0) 51 (KX n s1_ s2_) (fun g_=>(eS g_.1.2 g_.2))<|.ret true)<|
fun w3 =>tX 3000004 (wK [1,2,15,16,17] [] 0) 51 (KX n s1_ s2_) (fun g_=>(eS g_.1.2 g_.2))<|.ret false
theorem u_ (n:Nat) (x:(List Event)) (y:(List Event)):pC (mi n x y) 50 [.sl (x.map Event.enc),.sl (y.map Event.enc)] (fun r=>.v (.bool r)):=tP []<|
.rg 1<|tC 7 (dz n x y)<|fun y1 =>.ret y1
noncomputable def OY:Code:=sub (aS Tryz.prog 54) [1,1,0,1,0,0]
def OZ (s1_:(List (List Event))) (s2_:(List (List Event))) (sa:Int):St:=bE 32 [(1,.sl (s2_.map (gf Event.enc))),(2,.fn 50 [] []),(15,.sl (s1_.map (gf Event.enc))),(16,(vI (s1_.length:Int))),(17,(vI sa))] [] [] 0
def O0 (s1_:(List (List Event))) (s2_:(List (List Event))) (t0:(Unit⊕Unit)):Ex×St:=match t0 with | .inl tt=>(.ex 0,bE 32 [] [] [] 0) | .inr tt=>(.ret,bE 32 [(6,vF)] [] [] 0)
theorem KY (n:Nat) (s1_:(List (List Event))) (s2_:(List (List Event))):lC (aB n s1_ s2_) OY (OZ s1_ s2_) (O0 s1_ s2_):=tR [] 54 (uI (fun _=>h_) fun _=>tu) fun sa =>
.rg 4<|tB 18 (decide (sa<(s1_.length:Int))) (.rg 5<|tI 20 (gf Event.enc) s1_ sa<|fun xa2 =>.rg 6<|tI 24 (gf Event.enc) s2_ sa<|fun xa3 =>.rg 7<|tC 29 (u_ n xa2 xa3)<|fun ya4 =>tB 30 (!ya4) (.wk (wK [6] [] 0) l0<|.ret (.inr (.inr ())))<|
.wk (wK [1,2,15,16,17] [] 0) l0<|.ret (.inl (ae .i64 sa 1)))<|
.wk (wK [] [] 0) l0<|.ret (.inr (.inl ()))
theorem dI (n:Nat) (s1_:(List (List Event))) (s2_:(List (List Event))):pC (bz n s1_ s2_) 54 [.sl (s1_.map (gf Event.enc)),.sl (s2_.map (gf Event.enc)),.fn 50 [] []] (fun r=>.v (.bool r)):=tP []<|
.rg 1<|tL 11 (gf Event.enc) s1_<|tL 13 (gf Event.enc) s2_<|tB 14 ((s1_.length:Int) != (s2_.length:Int)) (.ret false)<|
.rg 3<|tL 16 (gf Event.enc) s1_<|.bind 3000004 (iter (fun s=>aB n s1_ s2_ s) n 0)<|fun t2 =>.alt 3000004 t2 (fun w3 =>tX 3000004 (wK [1,2,15,16,17] [] 0) 54 (KY n s1_ s2_) (fun g_=>(eS g_.1.2 g_.2))<|.ret true)<|
fun w3 =>tX 3000004 (wK [1,2,15,16,17] [] 0) 54 (KY n s1_ s2_) (fun g_=>(eS g_.1.2 g_.2))<|.ret false
theorem yx (n:Nat) (a:ai) (b:ai):pC (mY n a b) 22 [(eD ai.enc a),(eD ai.enc b)] (fun r=>.v (.bool r)):=tP []<|
.rg 2<|tC 10 (iH n a.First b.First)<|fun y1 =>tB 11 y1 (tC 17 (dI n a.Harts b.Harts)<|fun y3 =>tB 19 y3 (tC 24 (cR n a.From b.From)<|fun y5 =>tB 26 y5 (tC 31 (cR n a.Order b.Order)<|fun y7 =>.ret y7)<|
.ret false)<|
.ret false)<|
.ret false
def IP:List (Nat×PT):=[(6,(hZ [0,1,2,3,4,5,6,7,8,9,10,11]))]
noncomputable def O2:Code:=sub (aS Tryz.prog 23) [1,1,0,1,0,0]
def O3 (a:ai) (b:ai) (sa:Int):St:=bE 51 [(2,.ptr (.L 2) 0 0),(3,.ptr (.L 3) 0 0),(5,(vI sa))] [(3,(ai.enc b)),(2,(ai.enc a))] [] 0
def O4 (a:ai) (b:ai) (t0:(Unit⊕Unit)):Ex×St:=match t0 with | .inl tt=>(.ex 0,bE 51 [(2,.ptr (.L 2) 0 0),(3,.ptr (.L 3) 0 0)] [(3,(ai.enc b)),(2,(ai.enc a))] [] 0) | .inr tt=>(.ret,bE 51 [(4,vF)] [] [] 0)
theorem KZ (n:Nat) (a:ai) (b:ai):lC (km n a b) O2 (O3 a b) (O4 a b):=tR IP 23 (uI (fun _=>h_) fun _=>tu) fun sa =>
.rg 4<|tL 16 (gf Event.enc) a.Harts<|tB 17 (decide (sa<(a.Harts.length:Int))) (.rg 6<|tI 23 (gf Event.enc) a.Harts sa<|fun xa2 =>tI 28 (gf Event.enc) b.Harts sa<|fun xa3 =>tC 30 (pF n xa2 xa3)<|fun ya4 =>tB 31 (!ya4) (.wk (wK [4] [3,2] 0) l0<|.ret (.inr (.inr ())))<|
.wk (wK [2,3,5] [] 0) l0<|.ret (.inl (ae .i64 sa 1)))<|
.wk (wK [2,3] [] 0) l0<|.ret (.inr (.inl ()))
theorem AK (n:Nat) (a:ai) (b:ai):pC (oI n a b) 23 [(eD ai.enc a),(eD ai.enc b)] (fun r=>.v (.bool r)):=tP IP<|
.rg 1<|tL 8 (gf Event.enc) a.Harts<|tL 11 (gf Event.enc) b.Harts<|tB 12 ((a.Harts.length:Int) != (b.Harts.length:Int)) (.ret false)<|
.bind 3000004 (iter (fun s=>km n a b s) n 0)<|fun t2 =>.alt 3000004 t2 (fun w3 =>tX 3000004 (wK [2,3,5] [] 0) 23 (KZ n a b) (fun g_=>(eS g_.1.2 g_.2))<|.rg 8<|tC 36 (jt n a.First b.First)<|fun y4 =>tB 37 y4 (tC 42 (eO n a.From b.From)<|fun y6 =>tB 44 y6 (tC 49 (eO n a.Order b.Order)<|fun y8 =>.ret y8)<|
.ret false)<|
.ret false)<|
fun w3 =>tX 3000004 (wK [2,3,5] [] 0) 23 (KZ n a b) (fun g_=>(eS g_.1.2 g_.2))<|.ret false
def O5:List (Nat×PT):=[(7,(hZ [0,1,2,3,4,5,6,7,8,9,10,11,12,13,14,15,16,17,18,19,20,21,22,23,24,25,26,27,28,29,30,31,32,33,34,35,36,37,38,39,40,41,42,43,44,45,46,47,48,49,50,51,52,53,54,55,56]))]
theorem sk (n:Nat) (c:ai) (o:ai) (hart:Int) (at_:Int) (addr:Int):pC (j5 n c o hart at_ addr) 3 [(eD ai.enc c),(eD ai.enc o),(vI hart),(vI at_),(vU addr)] (fun r=>.v (.bool r)):=tP O5<|
.rg 1<|tC 15 (yr n)<|fun y1 =>tB 16 (!y1) (.ret false)<|
.rg 3<|tC 18 (mD n c 60)<|fun y3 =>tB 20 (!y3) (.ret true)<|
tC 22 (mD n o 60)<|fun y5 =>tB 24 (!y5) (.ret true)<|
.rg 5<|tC 29 (u6 n c hart at_)<|fun y7 =>.rg 6<|tC 36 (xo n c hart at_)<|fun y8 =>.rg 7<|tB 42 (y7.1==y8.1) (tB 47 (y7.2==y8.2) (tC 49 (eh n c)<|fun y11 =>tC 51 (gh n c)<|fun y12 =>tB 54 (y11==y12) (tC 56 (ot n c)<|fun y14 =>tC 57 (AH n y14)<|fun y15 =>tC 59 (Cg n c)<|fun y16 =>tC 60 (pF n y15 y16)<|fun y17 =>tB 62 y17 (tC 64 (u9 n c)<|fun y19 =>tC 66 (xp n c)<|fun y20 =>tC 67 (eO n y19 y20)<|fun y21 =>tB 69 y21 (tC 72 (xr n c addr)<|fun y23 =>tC 75 (yw n c addr)<|fun y24 =>tB 78 (y23==y24) (tC 80 (ot n c)<|fun y26 =>tC 81 (qx n y26)<|fun y27 =>tC 83 (AJ n c)<|fun y28 =>tC 84 (jt n y27 y28)<|fun y29 =>tB 86 y29 (tC 89 (yx n c o)<|fun y31 =>tC 92 (AK n c o)<|fun y32 =>.ret (y31==y32))<|
.ret false)<|
.ret false)<|
.ret false)<|
.ret false)<|
.ret false)<|
.ret false)<|
.ret false
end Go.Proofs.YtcckeabholabcaaGreat
