/- What the functions compute, they compute: printed by a program, path by path. No conditions. -/
import Derived.Test.YtomahedcdcnnhaaGreatDoorP1
import Derived.KernelRfl
namespace Go.Proofs.YtomahedcdcnnhaaGreatDoor
open Go A
set_option linter.unusedVariables false
set_option maxRecDepth 100000
set_option maxHeartbeats 0

noncomputable def NX:Code:=sub (aF Tryz.prog 40) [1,0,1,0,0]
def NY (oA:(List Cell)) (oB:(List (List Event))) (oC:(List Int)) (oD:(List Int)) (oE:(List (Int×(List Int)))) (oF:(List Event)) (oG:(List Int)) (sa:Int):St:=aW 39 [(0,.ptr (.O 2) 0 0),(2,.ptr (.L 2) 0 0),(9,.sl (oF.map Event.enc)),(10,(vI (oF.length:Int))),(11,(vI sa))] [(2,[vF,(vI 0),(vI 0),(vI 0)])] [.arr true 4 [[.sl (oA.map Cell.enc),.sl (oB.map (dT Event.enc)),.sl (oC.map eI),.sl (oD.map eI)]],.mapo true (oE.map (nJ (dl .u64) (py eI))),.arr false 4 [[.ptr (.O 0) 0 0,.sl (oF.map Event.enc),.sl (oG.map eI),.mp 1]],.arr false 1 [[.fn 39 [.ptr (.O 2) 0 0] []],[.fn 40 [.ptr (.O 2) 0 0] []],[.fn 41 [.ptr (.O 2) 0 0] []]]] 4
def NZ (oA:(List Cell)) (oB:(List (List Event))) (oC:(List Int)) (oD:(List Int)) (oE:(List (Int×(List Int)))) (oF:(List Event)) (oG:(List Int)) (t0:(Unit⊕(Bool×Int×Int×Int))):Ex×St:=match t0 with | .inl tt=>(.ex 0,aW 39 [(2,.ptr (.L 2) 0 0)] [(2,[vF,(vI 0),(vI 0),(vI 0)])] [.arr true 4 [[.sl (oA.map Cell.enc),.sl (oB.map (dT Event.enc)),.sl (oC.map eI),.sl (oD.map eI)]],.mapo true (oE.map (nJ (dl .u64) (py eI))),.arr false 4 [[.ptr (.O 0) 0 0,.sl (oF.map Event.enc),.sl (oG.map eI),.mp 1]],.arr false 1 [[.fn 39 [.ptr (.O 2) 0 0] []],[.fn 40 [.ptr (.O 2) 0 0] []],[.fn 41 [.ptr (.O 2) 0 0] []]]] 4) | .inr tt=>(.ret,aW 39 [(2,.ptr (.L 2) 0 0)] [(2,[.v (.bool tt.1),(vI tt.2.1),(vI tt.2.2.1),(vI tt.2.2.2)])] [.arr true 4 [[.sl (oA.map Cell.enc),.sl (oB.map (dT Event.enc)),.sl (oC.map eI),.sl (oD.map eI)]],.mapo true (oE.map (nJ (dl .u64) (py eI))),.arr false 4 [[.ptr (.O 0) 0 0,.sl (oF.map Event.enc),.sl (oG.map eI),.mp 1]],.arr false 1 [[.fn 39 [.ptr (.O 2) 0 0] []],[.fn 40 [.ptr (.O 2) 0 0] []],[.fn 41 [.ptr (.O 2) 0 0] []]]] 4)
theorem LY (n:Nat) (oA:(List Cell)) (oB:(List (List Event))) (oC:(List Int)) (oD:(List Int)) (oE:(List (Int×(List Int)))) (oF:(List Event)) (oG:(List Int)):lC (bw n oA oB oC oD oE oF oG) NX (NY oA oB oC oD oE oF oG) (NZ oA oB oC oD oE oF oG):=tR [] 40 (nu (fun _=>h_) fun _=>nr) fun sa =>
.rg 2<|tB 12 (decide (sa<(oF.length:Int))) (.rg 3<|tI 14 Event.enc oF sa<|fun xa2 =>.rg 4<|tC 17 (ba n xa2)<|fun ya3 =>tB 18 (!ya3) (.wk (wK [0,2,9,10,11] [4] 4) l0<|.ret (.inl (ac .i64 sa 1)))<|
.rg 5<|tS 21 (m4 n sa oA oB oC oD oE oF oG)<|fun ya5 =>.rg 6<|tI 31 eI oC sa<|fun xa6 =>tB 33 (ya5 != xa6) (.rg 7<|tC 36 (io n 3 sa ya5)<|fun ya8 =>.wk (wK [2] [4] 4) l0<|.ret (.inr (.inr (ya8.OK,ya8.Why,ya8.A_,ya8.B))))<|
.wk (wK [0,2,9,10,11] [4] 4) l0<|.ret (.inl (ac .i64 sa 1)))<|
.wk (wK [2] [] 4) l0<|.ret (.inr (.inl ()))
def pB (oA:(List Cell)) (oB:(List (List Event))) (oC:(List Int)) (oD:(List Int)) (oE:(List (Int×(List Int)))) (oF:(List Event)) (oG:(List Int)) (y:(Bool×Int×Int×Int)):AV×List Ob:=(.agg [.v (.bool y.1),(vI y.2.1),(vI y.2.2.1),(vI y.2.2.2)],[.arr true 4 [[.sl (oA.map Cell.enc),.sl (oB.map (dT Event.enc)),.sl (oC.map eI),.sl (oD.map eI)]],.mapo true (oE.map (nJ (dl .u64) (py eI))),.arr false 4 [[.ptr (.O 0) 0 0,.sl (oF.map Event.enc),.sl (oG.map eI),.mp 1]],.arr false 1 [[.fn 39 [.ptr (.O 2) 0 0] []],[.fn 40 [.ptr (.O 2) 0 0] []],[.fn 41 [.ptr (.O 2) 0 0] []]]])
theorem nE (n:Nat) (oA:(List Cell)) (oB:(List (List Event))) (oC:(List Int)) (oD:(List Int)) (oE:(List (Int×(List Int)))) (oF:(List Event)) (oG:(List Int)):sC (dA n oA oB oC oD oE oF oG) 40 [.ptr (.O 2) 0 0] [.arr true 4 [[.sl (oA.map Cell.enc),.sl (oB.map (dT Event.enc)),.sl (oC.map eI),.sl (oD.map eI)]],.mapo true (oE.map (nJ (dl .u64) (py eI))),.arr false 4 [[.ptr (.O 0) 0 0,.sl (oF.map Event.enc),.sl (oG.map eI),.mp 1]],.arr false 1 [[.fn 39 [.ptr (.O 2) 0 0] []],[.fn 40 [.ptr (.O 2) 0 0] []],[.fn 41 [.ptr (.O 2) 0 0] []]]] (pB oA oB oC oD oE oF oG):=tD []<|
.rg 1<|tL 10 Event.enc oF<|.bind 3000002 (iter (fun s=>bw n oA oB oC oD oE oF oG s) n 0)<|fun t1 =>.alt 3000002 t1 (fun w2 =>tX 3000002 (wK [0,2,9,10,11] [] 4) 40 (LY n oA oB oC oD oE oF oG) (fun g_=>(eS g_.1.2 g_.2))<|.rg 9<|tC 38 (jj n)<|fun y3 =>.ret (y3.OK,y3.Why,y3.A_,y3.B))<|
fun w2 =>tX 3000002 (wK [0,2,9,10,11] [] 4) 40 (LY n oA oB oC oD oE oF oG) (fun g_=>(eS g_.1.2 g_.2))<|.ret (w2.1,w2.2.1,w2.2.2.1,w2.2.2.2)
def H1:List (Nat×PT):=[(12,(dn [0,1,2,3,4,5,6,7,8])),(16,(dn [0,1,2,3,4,5,6,7,8,9,10,11,12,13,14,15,16,17,18,19,20,21,22,23,24,25,26]))]
noncomputable def LZ:Code:=sub (aF Tryz.prog 41) [1,0,1,0,0]
noncomputable def N0:Code:=sub LZ [1,1,0,0,1,1,1,1,1,1,0,0]
def N1 (oA:(List Cell)) (oB:(List (List Event))) (oC:(List Int)) (oD:(List Int)) (oE:(List (Int×(List Int)))) (oF:(List Event)) (oG:(List Int)) (xa2:Event) (sb:Int×Int×Int×Int×(List Int)×Int×Int):St:=aW 114 [(0,.ptr (.O 2) 0 0),(2,.ptr (.L 2) 0 0),(3,(vI sb.2.1)),(4,.ptr (.L 4) 0 0),(5,(vI sb.2.2.1)),(6,(vI sb.2.2.2.1)),(14,.sl (oF.map Event.enc)),(15,(vI (oF.length:Int))),(16,(vI sb.1)),(68,.sl (sb.2.2.2.2.1.map eI)),(69,(vI sb.2.2.2.2.2.1)),(70,(vI sb.2.2.2.2.2.2))] [(4,(Event.enc xa2)),(2,[vF,(vI 0),(vI 0),(vI 0)])] [.arr true 4 [[.sl (oA.map Cell.enc),.sl (oB.map (dT Event.enc)),.sl (oC.map eI),.sl (oD.map eI)]],.mapo true (oE.map (nJ (dl .u64) (py eI))),.arr false 4 [[.ptr (.O 0) 0 0,.sl (oF.map Event.enc),.sl (oG.map eI),.mp 1]],.arr false 1 [[.fn 39 [.ptr (.O 2) 0 0] []],[.fn 40 [.ptr (.O 2) 0 0] []],[.fn 41 [.ptr (.O 2) 0 0] []]]] 4
def BH (oA:(List Cell)) (oB:(List (List Event))) (oC:(List Int)) (oD:(List Int)) (oE:(List (Int×(List Int)))) (oF:(List Event)) (oG:(List Int)) (xa2:Event) (t0:(Int⊕(Bool×Int×Int×Int))):Ex×St:=match t0 with | .inl tt=>(.ex 2,aW 114 [(0,.ptr (.O 2) 0 0),(2,.ptr (.L 2) 0 0),(14,.sl (oF.map Event.enc)),(15,(vI (oF.length:Int))),(16,(vI tt))] [(2,[vF,(vI 0),(vI 0),(vI 0)])] [.arr true 4 [[.sl (oA.map Cell.enc),.sl (oB.map (dT Event.enc)),.sl (oC.map eI),.sl (oD.map eI)]],.mapo true (oE.map (nJ (dl .u64) (py eI))),.arr false 4 [[.ptr (.O 0) 0 0,.sl (oF.map Event.enc),.sl (oG.map eI),.mp 1]],.arr false 1 [[.fn 39 [.ptr (.O 2) 0 0] []],[.fn 40 [.ptr (.O 2) 0 0] []],[.fn 41 [.ptr (.O 2) 0 0] []]]] 4) | .inr tt=>(.ret,aW 114 [(2,.ptr (.L 2) 0 0)] [(2,[.v (.bool tt.1),(vI tt.2.1),(vI tt.2.2.1),(vI tt.2.2.2)])] [.arr true 4 [[.sl (oA.map Cell.enc),.sl (oB.map (dT Event.enc)),.sl (oC.map eI),.sl (oD.map eI)]],.mapo true (oE.map (nJ (dl .u64) (py eI))),.arr false 4 [[.ptr (.O 0) 0 0,.sl (oF.map Event.enc),.sl (oG.map eI),.mp 1]],.arr false 1 [[.fn 39 [.ptr (.O 2) 0 0] []],[.fn 40 [.ptr (.O 2) 0 0] []],[.fn 41 [.ptr (.O 2) 0 0] []]]] 4)
theorem Dh (n:Nat) (oA:(List Cell)) (oB:(List (List Event))) (oC:(List Int)) (oD:(List Int)) (oE:(List (Int×(List Int)))) (oF:(List Event)) (oG:(List Int)) (xa2:Event):lC (az n oA oB oC oD oE oF oG xa2) N0 (N1 oA oB oC oD oE oF oG xa2) (BH oA oB oC oD oE oF oG xa2):=tR H1 41 (nu (fun _=>h_) fun _=>nr) fun sb =>
.rg 13<|tB 71 (decide (sb.2.2.2.2.2.2<sb.2.2.2.2.2.1)) (.rg 14<|tI 72 eI sb.2.2.2.2.1 sb.2.2.2.2.2.2<|fun xb2 =>.rg 15<|tI 79 eI oG xb2<|fun xb3 =>.rg 16<|tB 84 (decide (xb3>sb.2.2.2.1)) (tI 91 eI oG sb.2.1<|fun xb5 =>tB 95 (decide (xb3<xb5)) (tI 101 Event.enc oF xb2<|fun xb7 =>tB 107 (xb7.Hart != xa2.Hart) (.rg 17<|tC 110 (io n 4 sb.2.2.1 xb2)<|fun yb9 =>.wk (wK [2] [4] 4) l0<|.ret (.inr (.inr (yb9.OK,yb9.Why,yb9.A_,yb9.B))))<|
.wk (wK [0,2,3,4,5,6,14,15,16,68,69,70] [] 4) l0<|.ret (.inl (sb.1,sb.2.1,sb.2.2.1,sb.2.2.2.1,sb.2.2.2.2.1,sb.2.2.2.2.2.1,(ac .i64 sb.2.2.2.2.2.2 1))))<|
.wk (wK [0,2,3,4,5,6,14,15,16,68,69,70] [] 4) l0<|.ret (.inl (sb.1,sb.2.1,sb.2.2.1,sb.2.2.2.1,sb.2.2.2.2.1,sb.2.2.2.2.2.1,(ac .i64 sb.2.2.2.2.2.2 1))))<|
.wk (wK [0,2,3,4,5,6,14,15,16,68,69,70] [] 4) l0<|.ret (.inl (sb.1,sb.2.1,sb.2.2.1,sb.2.2.2.1,sb.2.2.2.2.1,sb.2.2.2.2.2.1,(ac .i64 sb.2.2.2.2.2.2 1))))<|
.wk (wK [0,2,14,15,16] [4] 4) l0<|.ret (.inr (.inl sb.1))
def N2 (oA:(List Cell)) (oB:(List (List Event))) (oC:(List Int)) (oD:(List Int)) (oE:(List (Int×(List Int)))) (oF:(List Event)) (oG:(List Int)) (sa:Int):St:=aW 114 [(0,.ptr (.O 2) 0 0),(2,.ptr (.L 2) 0 0),(14,.sl (oF.map Event.enc)),(15,(vI (oF.length:Int))),(16,(vI sa))] [(2,[vF,(vI 0),(vI 0),(vI 0)])] [.arr true 4 [[.sl (oA.map Cell.enc),.sl (oB.map (dT Event.enc)),.sl (oC.map eI),.sl (oD.map eI)]],.mapo true (oE.map (nJ (dl .u64) (py eI))),.arr false 4 [[.ptr (.O 0) 0 0,.sl (oF.map Event.enc),.sl (oG.map eI),.mp 1]],.arr false 1 [[.fn 39 [.ptr (.O 2) 0 0] []],[.fn 40 [.ptr (.O 2) 0 0] []],[.fn 41 [.ptr (.O 2) 0 0] []]]] 4
def N3 (oA:(List Cell)) (oB:(List (List Event))) (oC:(List Int)) (oD:(List Int)) (oE:(List (Int×(List Int)))) (oF:(List Event)) (oG:(List Int)) (t0:(Unit⊕(Bool×Int×Int×Int))):Ex×St:=match t0 with | .inl tt=>(.ex 0,aW 114 [(2,.ptr (.L 2) 0 0)] [(2,[vF,(vI 0),(vI 0),(vI 0)])] [.arr true 4 [[.sl (oA.map Cell.enc),.sl (oB.map (dT Event.enc)),.sl (oC.map eI),.sl (oD.map eI)]],.mapo true (oE.map (nJ (dl .u64) (py eI))),.arr false 4 [[.ptr (.O 0) 0 0,.sl (oF.map Event.enc),.sl (oG.map eI),.mp 1]],.arr false 1 [[.fn 39 [.ptr (.O 2) 0 0] []],[.fn 40 [.ptr (.O 2) 0 0] []],[.fn 41 [.ptr (.O 2) 0 0] []]]] 4) | .inr tt=>(.ret,aW 114 [(2,.ptr (.L 2) 0 0)] [(2,[.v (.bool tt.1),(vI tt.2.1),(vI tt.2.2.1),(vI tt.2.2.2)])] [.arr true 4 [[.sl (oA.map Cell.enc),.sl (oB.map (dT Event.enc)),.sl (oC.map eI),.sl (oD.map eI)]],.mapo true (oE.map (nJ (dl .u64) (py eI))),.arr false 4 [[.ptr (.O 0) 0 0,.sl (oF.map Event.enc),.sl (oG.map eI),.mp 1]],.arr false 1 [[.fn 39 [.ptr (.O 2) 0 0] []],[.fn 40 [.ptr (.O 2) 0 0] []],[.fn 41 [.ptr (.O 2) 0 0] []]]] 4)
theorem L0 (n:Nat) (oA:(List Cell)) (oB:(List (List Event))) (oC:(List Int)) (oD:(List Int)) (oE:(List (Int×(List Int)))) (oF:(List Event)) (oG:(List Int)):lC (bF n oA oB oC oD oE oF oG) LZ (N2 oA oB oC oD oE oF oG) (N3 oA oB oC oD oE oF oG):=tR H1 41 (nu (fun _=>h_) fun _=>nr) fun sa =>
.rg 2<|tB 17 (decide (sa<(oF.length:Int))) (.rg 3<|tI 19 Event.enc oF sa<|fun xa2 =>.rg 4<|tB 23 (xa2.Kind != 4) (.wk (wK [0,2,14,15,16] [4] 4) l0<|.ret (.inl (ac .i64 sa 1)))<|
.rg 7<|tI 39 eI oC (ac .i64 (aJ .i64 sa xa2.At) xa2.Pair)<|fun xa4 =>.rg 8<|tB 42 (decide (xa4≥0)) (.rg 9<|tI 48 eI oG xa4<|fun xa6 =>.rg 10<|tI 56 eI oG sa<|fun xa7 =>tB 58 (decide (xa6≥xa7)) (.rg 11<|tC 61 (io n 4 (ac .i64 (aJ .i64 sa xa2.At) xa2.Pair) xa4)<|fun ya9 =>.wk (wK [2] [4] 4) l0<|.ret (.inr (.inr (ya9.OK,ya9.Why,ya9.A_,ya9.B))))<|
.rg 12<|.opt 68 (jn ey oE xa2.Addr) (.op 68 (cA 68 (.nilsl))<|.o _ (fun g_=>oH oE xa2.Addr g_.2)<|.bind 3000013 (iter (fun s=>az n oA oB oC oD oE oF oG xa2 s) n (sa,sa,(ac .i64 (aJ .i64 sa xa2.At) xa2.Pair),xa6,([]:List Int),0,0))<|fun ta10 =>.alt 3000013 ta10 (fun wa11 =>.lp 3000013 (wK [0,2,3,4,5,6,14,15,16,68,69,70] [] 4) ⟨[(68,.sl (([]:List Int).map eI))],[],[]⟩ (BH oA oB oC oD oE oF oG xa2 (.inl wa11)).1 (BH oA oB oC oD oE oF oG xa2 (.inl wa11)).2<|.o (b9 (.nilsl) (.sl (([]:List Int).map eI))) (fun _=>b9.nil)<|oX (qT 41) (Dh n oA oB oC oD oE oF oG xa2) (fun g_=>(eS g_.1.2 g_.2))<|.wk (wK [0,2,14,15,16] [] 4) l0<|.ret (.inl (ac .i64 wa11 1)))<|
fun wa11 =>.lp 3000013 (wK [0,2,3,4,5,6,14,15,16,68,69,70] [] 4) ⟨[(68,.sl (([]:List Int).map eI))],[],[]⟩ (BH oA oB oC oD oE oF oG xa2 (.inr wa11)).1 (BH oA oB oC oD oE oF oG xa2 (.inr wa11)).2<|.o (b9 (.nilsl) (.sl (([]:List Int).map eI))) (fun _=>b9.nil)<|oX (qT 41) (Dh n oA oB oC oD oE oF oG xa2) (fun g_=>(eS g_.1.2 g_.2))<|.wk (wK [2] [] 4) l0<|.ret (.inr (.inr (wa11.1,wa11.2.1,wa11.2.2.1,wa11.2.2.2))))<|
fun za9 =>.op 68 (cA 68 (.sl (za9.map eI)))<|.o _ (fun g_=>oI oE xa2.Addr g_.2)<|tL 69 eI za9<|.bind 3000013 (iter (fun s=>az n oA oB oC oD oE oF oG xa2 s) n (sa,sa,(ac .i64 (aJ .i64 sa xa2.At) xa2.Pair),xa6,za9,(za9.length:Int),0))<|fun ta11 =>.alt 3000013 ta11 (fun wa12 =>tX 3000013 (wK [0,2,3,4,5,6,14,15,16,68,69,70] [] 4) 41 (Dh n oA oB oC oD oE oF oG xa2) (fun g_=>(eS g_.1.2 g_.2))<|.wk (wK [0,2,14,15,16] [] 4) l0<|.ret (.inl (ac .i64 wa12 1)))<|
fun wa12 =>tX 3000013 (wK [0,2,3,4,5,6,14,15,16,68,69,70] [] 4) 41 (Dh n oA oB oC oD oE oF oG xa2) (fun g_=>(eS g_.1.2 g_.2))<|.wk (wK [2] [] 4) l0<|.ret (.inr (.inr (wa12.1,wa12.2.1,wa12.2.2.1,wa12.2.2.2))))<|
.rg 12<|.opt 68 (jn ey oE xa2.Addr) (.op 68 (cA 68 (.nilsl))<|.o _ (fun g_=>oH oE xa2.Addr g_.2)<|.bind 3000013 (iter (fun s=>az n oA oB oC oD oE oF oG xa2 s) n (sa,sa,(ac .i64 (aJ .i64 sa xa2.At) xa2.Pair),(-1),([]:List Int),0,0))<|fun ta7 =>.alt 3000013 ta7 (fun wa8 =>.lp 3000013 (wK [0,2,3,4,5,6,14,15,16,68,69,70] [] 4) ⟨[(68,.sl (([]:List Int).map eI))],[],[]⟩ (BH oA oB oC oD oE oF oG xa2 (.inl wa8)).1 (BH oA oB oC oD oE oF oG xa2 (.inl wa8)).2<|.o (b9 (.nilsl) (.sl (([]:List Int).map eI))) (fun _=>b9.nil)<|oX (qT 41) (Dh n oA oB oC oD oE oF oG xa2) (fun g_=>(eS g_.1.2 g_.2))<|.wk (wK [0,2,14,15,16] [] 4) l0<|.ret (.inl (ac .i64 wa8 1)))<|
fun wa8 =>.lp 3000013 (wK [0,2,3,4,5,6,14,15,16,68,69,70] [] 4) ⟨[(68,.sl (([]:List Int).map eI))],[],[]⟩ (BH oA oB oC oD oE oF oG xa2 (.inr wa8)).1 (BH oA oB oC oD oE oF oG xa2 (.inr wa8)).2<|.o (b9 (.nilsl) (.sl (([]:List Int).map eI))) (fun _=>b9.nil)<|oX (qT 41) (Dh n oA oB oC oD oE oF oG xa2) (fun g_=>(eS g_.1.2 g_.2))<|.wk (wK [2] [] 4) l0<|.ret (.inr (.inr (wa8.1,wa8.2.1,wa8.2.2.1,wa8.2.2.2))))<|
fun za6 =>.op 68 (cA 68 (.sl (za6.map eI)))<|.o _ (fun g_=>oI oE xa2.Addr g_.2)<|tL 69 eI za6<|.bind 3000013 (iter (fun s=>az n oA oB oC oD oE oF oG xa2 s) n (sa,sa,(ac .i64 (aJ .i64 sa xa2.At) xa2.Pair),(-1),za6,(za6.length:Int),0))<|fun ta8 =>.alt 3000013 ta8 (fun wa9 =>tX 3000013 (wK [0,2,3,4,5,6,14,15,16,68,69,70] [] 4) 41 (Dh n oA oB oC oD oE oF oG xa2) (fun g_=>(eS g_.1.2 g_.2))<|.wk (wK [0,2,14,15,16] [] 4) l0<|.ret (.inl (ac .i64 wa9 1)))<|
fun wa9 =>tX 3000013 (wK [0,2,3,4,5,6,14,15,16,68,69,70] [] 4) 41 (Dh n oA oB oC oD oE oF oG xa2) (fun g_=>(eS g_.1.2 g_.2))<|.wk (wK [2] [] 4) l0<|.ret (.inr (.inr (wa9.1,wa9.2.1,wa9.2.2.1,wa9.2.2.2))))<|
.wk (wK [2] [] 4) l0<|.ret (.inr (.inl ()))
def qi (oA:(List Cell)) (oB:(List (List Event))) (oC:(List Int)) (oD:(List Int)) (oE:(List (Int×(List Int)))) (oF:(List Event)) (oG:(List Int)) (y:(Bool×Int×Int×Int)):AV×List Ob:=(.agg [.v (.bool y.1),(vI y.2.1),(vI y.2.2.1),(vI y.2.2.2)],[.arr true 4 [[.sl (oA.map Cell.enc),.sl (oB.map (dT Event.enc)),.sl (oC.map eI),.sl (oD.map eI)]],.mapo true (oE.map (nJ (dl .u64) (py eI))),.arr false 4 [[.ptr (.O 0) 0 0,.sl (oF.map Event.enc),.sl (oG.map eI),.mp 1]],.arr false 1 [[.fn 39 [.ptr (.O 2) 0 0] []],[.fn 40 [.ptr (.O 2) 0 0] []],[.fn 41 [.ptr (.O 2) 0 0] []]]])
theorem oM (n:Nat) (oA:(List Cell)) (oB:(List (List Event))) (oC:(List Int)) (oD:(List Int)) (oE:(List (Int×(List Int)))) (oF:(List Event)) (oG:(List Int)):sC (dX n oA oB oC oD oE oF oG) 41 [.ptr (.O 2) 0 0] [.arr true 4 [[.sl (oA.map Cell.enc),.sl (oB.map (dT Event.enc)),.sl (oC.map eI),.sl (oD.map eI)]],.mapo true (oE.map (nJ (dl .u64) (py eI))),.arr false 4 [[.ptr (.O 0) 0 0,.sl (oF.map Event.enc),.sl (oG.map eI),.mp 1]],.arr false 1 [[.fn 39 [.ptr (.O 2) 0 0] []],[.fn 40 [.ptr (.O 2) 0 0] []],[.fn 41 [.ptr (.O 2) 0 0] []]]] (qi oA oB oC oD oE oF oG):=tD H1<|
.rg 1<|tL 15 Event.enc oF<|.bind 3000002 (iter (fun s=>bF n oA oB oC oD oE oF oG s) n 0)<|fun t1 =>.alt 3000002 t1 (fun w2 =>tX 3000002 (wK [0,2,14,15,16] [] 4) 41 (L0 n oA oB oC oD oE oF oG) (fun g_=>(eS g_.1.2 g_.2))<|.rg 20<|tC 113 (jj n)<|fun y3 =>.ret (y3.OK,y3.Why,y3.A_,y3.B))<|
fun w2 =>tX 3000002 (wK [0,2,14,15,16] [] 4) 41 (L0 n oA oB oC oD oE oF oG) (fun g_=>(eS g_.1.2 g_.2))<|.ret (w2.1,w2.2.1,w2.2.2.1,w2.2.2.2)
theorem iv (n:Nat) (c:af):pC (dJ n c) 20 [(bM af.enc c)] (fun r=>(bM aC.enc r)):=tP []<|
.rg 1<|.bind 7 (dU n c.First c.Harts c.From c.Order)<|fun y1 =>.alt 7 y1 (fun wa2 =>.op 7 ⟨[],[],[],[],[],[(7,(.nilp,[.arr true 4 [(af.enc c)]]))],[],[],[]⟩<|.o _ (fun g_=>ji n c.First c.Harts c.From c.Order (.inl wa2) (eS g_.1.2 g_.2))<|.rg 3<|tC 10 (io n 1 (-1) (-1))<|fun y3 =>.ret y3)<|
fun wb2 =>.op 7 ⟨[],[],[],[],[],[(7,(.ptr (.O 2) 0 0,[.arr true 4 [(af.enc c)],.mapo true (wb2.1.map (nJ (dl .u64) (py eI))),.arr false 4 [[.ptr (.O 0) 0 0,.sl (wb2.2.1.map Event.enc),.sl (wb2.2.2.map eI),.mp 1]]]))],[],[],[]⟩<|.o _ (fun g_=>ji n c.First c.Harts c.From c.Order (.inr wb2) (eS g_.1.2 g_.2))<|.un 3000005<|.rg 7<|tS 24 (nD n c.First c.Harts c.From c.Order wb2.1 wb2.2.1 wb2.2.2)<|fun y3 =>.rg 8<|tB 27 (!y3.1) (.ret (aC.mk y3.1 y3.2.1 y3.2.2.1 y3.2.2.2))<|
.rg 7<|tS 24 (nE n c.First c.Harts c.From c.Order wb2.1 wb2.2.1 wb2.2.2)<|fun y5 =>.rg 8<|tB 27 (!y5.1) (.ret (aC.mk y5.1 y5.2.1 y5.2.2.1 y5.2.2.2))<|
.rg 7<|tS 24 (oM n c.First c.Harts c.From c.Order wb2.1 wb2.2.1 wb2.2.2)<|fun y7 =>.rg 8<|tB 27 (!y7.1) (.ret (aC.mk y7.1 y7.2.1 y7.2.2.1 y7.2.2.2))<|
.rg 11<|tC 30 (jj n)<|fun y9 =>.ret y9
theorem qj (n:Nat) (j:aC) (r:ByteArray) (h:iw n j=some r):ft Tryz.prog 25 [.agg (aC.enc j)] (Q1 (.v (.string r))):=by
  unfold iw at h
  obtain ⟨h1,h⟩:=Ng h
  have e:=Option.some.inj h
  subst e
  unfold IJ at h1
  simp only [Bool.and_eq_true,decide_eq_true_eq] at h1
  exact ⟨_,GN j.OK j.Why j.A_ j.B h1.1 h1.2,rfl⟩

theorem zq (n:Nat):pC (qz n) 7 [] (fun r=>.v (.bool r)):=tP []<|
.rg 1<|tC 1 (oZ n false)<|fun y1 =>tC 2 (iv n y1)<|fun y2 =>.ite 4 (aC.beq y2 (aC.mk true 0 (-1) (-1))) (.op 4 (Fs 4 (vT))<|.o (jq Tryz.prog .eql 48 [(.bool y2.OK),(.int .i64 y2.Why),(.int .i64 y2.A_),(.int .i64 y2.B)] [(.bool true),(.int .i64 0),(.int .i64 (-1)),(.int .i64 (-1))]=some (.bool true)) (fun g_=>(gS y2 (aC.mk true 0 (-1) (-1))).trans (congrArg (fun b=>some (Value.bool b)) g_.2))<|.o (AV.v (.bool true)=AV.v (.bool true)) (fun _=>rfl)<|tC 6 (oZ n true)<|fun y4 =>tC 7 (iv n y4)<|fun y5 =>tC 8 (qj n y5)<|fun y6 =>.ret (y6.toList==(ByteArray.mk #[111,114,100,101,114,32,48,32,50]).toList))<|
.op 4 (Fs 4 (vF))<|.o (jq Tryz.prog .eql 48 [(.bool y2.OK),(.int .i64 y2.Why),(.int .i64 y2.A_),(.int .i64 y2.B)] [(.bool true),(.int .i64 0),(.int .i64 (-1)),(.int .i64 (-1))]=some (.bool false)) (fun g_=>(gS y2 (aC.mk true 0 (-1) (-1))).trans (congrArg (fun b=>some (Value.bool b)) g_.2))<|.o (AV.v (.bool false)=AV.v (.bool false)) (fun _=>rfl)<|.ret false
theorem tw (n:Nat) (d:Deps) (most:Int):pC (mQ n d most) 56 [(bM Deps.enc d),(vI most)] (fun r=>.v (.bool r)):=tP []<|
.rg 1<|tL 7 eI d.Addr<|tB 10 (decide ((d.Addr.length:Int)≤most)) (tL 13 eI d.Data<|tB 17 (decide ((d.Data.length:Int)≤most)) (tL 20 eI d.Way<|.ret (decide ((d.Way.length:Int)≤most)))<|
.ret false)<|
.ret false
noncomputable def N4:Code:=sub (aF Tryz.prog 30) [1,1,0,1,0,0]
def N5 (l:(List Event)) (sa:Int):St:=aW 23 [(0,.sl (l.map Event.enc)),(5,(vI sa))] [] [] 0
def N6 (l:(List Event)) (t0:(Unit⊕Unit)):Ex×St:=match t0 with | .inl tt=>(.ex 0,aW 23 [] [] [] 0) | .inr tt=>(.ret,aW 23 [(4,vF)] [] [] 0)
theorem L1 (n:Nat) (l:(List Event)):lC (fJ n l) N4 (N5 l) (N6 l):=tR [] 30 (nu (fun _=>h_) fun _=>nr) fun sa =>
.rg 4<|tL 12 Event.enc l<|tB 13 (decide (sa<(l.length:Int))) (.rg 6<|tI 18 Event.enc l sa<|fun xa2 =>tC 21 (tw n xa2.Deps 60)<|fun ya3 =>tB 22 (!ya3) (.wk (wK [4] [] 0) l0<|.ret (.inr (.inr ())))<|
.wk (wK [0,5] [] 0) l0<|.ret (.inl (ac .i64 sa 1)))<|
.wk (wK [] [] 0) l0<|.ret (.inr (.inl ()))
theorem qW (n:Nat) (l:(List Event)) (most:Int):pC (ip n l most) 30 [.sl (l.map Event.enc),(vI most)] (fun r=>.v (.bool r)):=tP []<|
.rg 1<|tL 7 Event.enc l<|tB 9 (decide ((l.length:Int)>most)) (.ret false)<|
.bind 3000004 (iter (fun s=>fJ n l s) n 0)<|fun t2 =>.alt 3000004 t2 (fun w3 =>tX 3000004 (wK [0,5] [] 0) 30 (L1 n l) (fun g_=>(eS g_.1.2 g_.2))<|.ret true)<|
fun w3 =>tX 3000004 (wK [0,5] [] 0) 30 (L1 n l) (fun g_=>(eS g_.1.2 g_.2))<|.ret false
noncomputable def N7:Code:=sub (aF Tryz.prog 8) [1,1,0,1,0,0]
def N8 (c:af) (most:Int) (sa:Int×Int):St:=aW 66 [(1,(vI most)),(2,.ptr (.L 2) 0 0),(5,(vI sa.1)),(6,(vI sa.2))] [(2,(af.enc c))] [] 0
def N9 (c:af) (most:Int) (t0:(Int⊕Unit)):Ex×St:=match t0 with | .inl tt=>(.ex 0,aW 66 [(1,(vI most)),(2,.ptr (.L 2) 0 0),(5,(vI tt))] [(2,(af.enc c))] [] 0) | .inr tt=>(.ret,aW 66 [(4,vF)] [] [] 0)
theorem L2 (n:Nat) (c:af) (most:Int):lC (gH n c most) N7 (N8 c most) (N9 c most):=tR [] 8 (nu (fun _=>h_) fun _=>nr) fun sa =>
.rg 3<|tL 10 (dT Event.enc) c.Harts<|tB 12 (decide (sa.2<(c.Harts.length:Int))) (tB 15 (decide (sa.2<10)) (.rg 5<|tI 22 (dT Event.enc) c.Harts sa.2<|fun xa3 =>tL 24 Event.enc xa3<|.rg 6<|tM 29 (dT Event.enc) (fun g_=>g_.2)<|tC 32 (qW n xa3 most)<|fun ya4 =>tB 33 (!ya4) (.wk (wK [4] [2] 0) l0<|.ret (.inr (.inr ())))<|
.wk (wK [1,2,5,6] [] 0) l0<|.ret (.inl ((ac .i64 sa.1 (xa3.length:Int)),(ac .i64 sa.2 1))))<|
.wk (wK [1,2,5] [] 0) l0<|.ret (.inr (.inl sa.1)))<|
.wk (wK [1,2,5] [] 0) l0<|.ret (.inr (.inl sa.1))
theorem tz (n:Nat) (c:af) (most:Int):pC (jW n c most) 8 [(bM af.enc c),(vI most)] (fun r=>.v (.bool r)):=tP []<|
.bind 3000003 (iter (fun s=>gH n c most s) n (0,0))<|fun t1 =>.alt 3000003 t1 (fun w2 =>tX 3000003 (wK [1,2,5,6] [] 0) 8 (L2 n c most) (fun g_=>(eS g_.1.2 g_.2))<|.rg 8<|tL 36 (dT Event.enc) c.Harts<|tB 38 (decide ((c.Harts.length:Int)≤9)) (tB 43 (decide (w2≤most)) (tL 46 Cell.enc c.First<|tB 50 (decide ((c.First.length:Int)≤most)) (tL 53 eI c.From<|tB 58 (decide ((c.From.length:Int)≤(iO .i64 2 most))) (tL 61 eI c.Order<|.ret (decide ((c.Order.length:Int)≤(iO .i64 2 most))))<|
.ret false)<|
.ret false)<|
.ret false)<|
.ret false)<|
fun w2 =>tX 3000003 (wK [1,2,5,6] [] 0) 8 (L2 n c most) (fun g_=>(eS g_.1.2 g_.2))<|.ret false
theorem uR (n:Nat) (l:(List Cell)):pC (kO n l) 33 [.sl (l.map Cell.enc)] (fun r=>.sl (r.map Cell.enc)):=tP []<|
.rg 1<|tG 5 (Nat.ble (l.length * 16) 140737488355328)<|.op 5 (hA 5)<|.o (gx 2 (l.map Cell.enc)=true) (fun _=>GP)<|.o (bh (l.map Cell.enc)=true) (fun _=>DD)<|.o (Nat.ble ((l.map Cell.enc).length * 16) 140737488355328=true) (fun g_=>mH g_.2)<|.ret l
def vY (l:(List Int)) (y:Unit):AV×List Ob:=(.mf 0,[.arr true 1 (l.map eI)])
theorem mM (n:Nat) (l:(List Int)):sC (ig n l) 34 [.sl (l.map eI)] [] (vY l):=tD []<|
.rg 1<|tG 5 (Nat.ble (l.length * 8) 140737488355328)<|.op 5 (hA 5)<|.o (gx 1 (l.map eI)=true) (fun _=>GP)<|.o (bh (l.map eI)=true) (fun _=>DD)<|.o (Nat.ble ((l.map eI).length * 8) 140737488355328=true) (fun g_=>mH g_.2)<|.ret ()
def uS (l:(List Int)) (oA:(List Int)) (y:Unit):AV×List Ob:=(.mf 1,[.arr true 1 (oA.map eI),.arr true 1 (l.map eI)])
theorem l6 (n:Nat) (l:(List Int)) (oA:(List Int)):sC (gw n l oA) 34 [.sl (l.map eI)] [.arr true 1 (oA.map eI)] (uS l oA):=tD []<|
.rg 1<|tG 5 (Nat.ble (l.length * 8) 140737488355328)<|.op 5 (hA 5)<|.o (gx 1 (l.map eI)=true) (fun _=>GP)<|.o (bh (l.map eI)=true) (fun _=>DD)<|.o (Nat.ble ((l.map eI).length * 8) 140737488355328=true) (fun g_=>mH g_.2)<|.ret ()
def uT (l:(List Int)) (oA:(List Int)) (oB:(List Int)) (y:Unit):AV×List Ob:=(.mf 2,[.arr true 1 (oA.map eI),.arr true 1 (oB.map eI),.arr true 1 (l.map eI)])
theorem sn (n:Nat) (l:(List Int)) (oA:(List Int)) (oB:(List Int)):sC (lu n l oA oB) 34 [.sl (l.map eI)] [.arr true 1 (oA.map eI),.arr true 1 (oB.map eI)] (uT l oA oB):=tD []<|
.rg 1<|tG 5 (Nat.ble (l.length * 8) 140737488355328)<|.op 5 (hA 5)<|.o (gx 1 (l.map eI)=true) (fun _=>GP)<|.o (bh (l.map eI)=true) (fun _=>DD)<|.o (Nat.ble ((l.map eI).length * 8) 140737488355328=true) (fun g_=>mH g_.2)<|.ret ()
def L3:List (Nat×PT):=[(1,(dn [0,1,2,3,4,5,6,7,8,9,10]))]
theorem vZ (n:Nat) (d:Deps):pC (ml n d) 74 [(bM Deps.enc d)] (fun r=>(bM Deps.enc r)):=tP L3<|
.rg 1<|tS 5 (mM n d.Addr)<|fun y1 =>tS 8 (l6 n d.Data d.Addr)<|fun y2 =>tS 11 (sn n d.Way d.Addr d.Data)<|fun y3 =>.ret d
theorem uU (n:Nat) (e:Event):pC (kP n e) 58 [(bM Event.enc e)] (fun r=>(bM Event.enc r)):=tP []<|
.rg 1<|tC 5 (vZ n e.Deps)<|fun y1 =>.ret (Event.mk e.Hart e.At e.Kind e.Addr e.Load e.Store e.Aq e.Rl e.Pred e.Succ e.Pair y1)
noncomputable def N_:Code:=sub (aF Tryz.prog 35) [1,1,0,1,0,0]
def Oa (l:(List Event)) (sa:(List Event)×Int):St:=aW 20 [(0,.sl (l.map Event.enc)),(3,.mf 0),(4,(vI sa.2))] [] [.arr true 14 (sa.1.map Event.enc)] 0
def Oc (l:(List Event)) (tt:((List Event))):Ex×St:=(.ex 0,aW 20 [(3,.mf 0)] [] [.arr true 14 (tt.map Event.enc)] 0)
theorem Od (n:Nat) (l:(List Event)):lC (gI n l) N_ (Oa l) (Oc l):=tR [] 35 (fun _=>h_) fun sa =>
.rg 3<|tL 7 Event.enc l<|tB 8 (decide (sa.2<(l.length:Int))) (.rg 5<|tI 14 Event.enc l sa.2<|fun xa2 =>tC 16 (uU n xa2)<|fun ya3 =>tG 18 (Nat.ble ((sa.1.length + 1) * 152) 140737488355328)<|.op 18 (BE 18 0 ((sa.1++([ya3]:List Event)).map Event.enc))<|.o (gx 14 [(Event.enc ya3)]=true) (fun _=>rfl)<|.o (bh [(Event.enc ya3)]=true) (fun _=>rfl)<|.o (Nat.ble (((sa.1.map Event.enc).length + 1) * 152) 140737488355328=true) (fun g_=>gR g_.2)<|.o _ (fun _=>j8 Event.enc sa.1 ([ya3]:List Event))<|.wk (wK [0,3,4] [] 1) l0<|.ret (.inl ((sa.1++([ya3]:List Event)),(ac .i64 sa.2 1))))<|
.wk (wK [3] [] 1) l0<|.ret (.inr sa.1)
theorem tA (n:Nat) (l:(List Event)):pC (ge n l) 35 [.sl (l.map Event.enc)] (fun r=>.sl (r.map Event.enc)):=tP []<|
.bind 3000003 (iter (fun s=>gI n l s) n (([]:List Event),0))<|fun t1 =>tX 3000003 ⟨[0,3,4],[],0,[(3,14)],[],[]⟩ 35 (Od n l) (fun g_=>g_.2)<|.ret t1
def JQ:List (Nat×PT):=[(1,(dn [0,1,2,3,4,5,6,7,8,9,10,11])),(5,(dn [0,1,2,3,4,5,6,7,8,9,10,11]))]
noncomputable def Oe:Code:=sub (aF Tryz.prog 13) [1,1,0,1,0,0]
def Og (c:af) (y1:(List Cell)) (sa:(List (List Event))×Int):St:=aW 34 [(1,.ptr (.L 1) 0 0),(2,.ptr (.L 2) 0 0),(3,.ptr (.L 3) 0 0),(4,(vI sa.2))] [(3,[.sl (y1.map Cell.enc),.mf 2,.mf 0,.mf 1]),(2,[.nilsl,.nilsl,.nilsl,.nilsl]),(1,(af.enc c))] [.arr true 1 (c.From.map eI),.arr true 1 (c.Order.map eI),.arr true 1 (sa.1.map (dT Event.enc))] 0
def Oh (c:af) (y1:(List Cell)) (tt:((List (List Event)))):Ex×St:=(.ex 0,aW 34 [(2,.ptr (.L 2) 0 0),(3,.ptr (.L 3) 0 0)] [(3,[.sl (y1.map Cell.enc),.mf 2,.mf 0,.mf 1]),(2,[.nilsl,.nilsl,.nilsl,.nilsl])] [.arr true 1 (c.From.map eI),.arr true 1 (c.Order.map eI),.arr true 1 (tt.map (dT Event.enc))] 0)
theorem Oi (n:Nat) (c:af) (y1:(List Cell)):lC (gJ n c y1) Oe (Og c y1) (Oh c y1):=tR JQ 13 (fun _=>h_) fun sa =>
.rg 3<|tL 18 (dT Event.enc) c.Harts<|tB 19 (decide (sa.2<(c.Harts.length:Int))) (.rg 5<|tI 27 (dT Event.enc) c.Harts sa.2<|fun xa2 =>tC 29 (tA n xa2)<|fun ya3 =>tG 31 (Nat.ble ((sa.1.length + 1) * 24) 140737488355328)<|.op 31 (BE 31 2 ((sa.1++([ya3]:List (List Event))).map (dT Event.enc)))<|.o (gx 1 [[.sl (ya3.map Event.enc)]]=true) (fun _=>rfl)<|.o (bh [[.sl (ya3.map Event.enc)]]=true) (fun _=>rfl)<|.o (Nat.ble (((sa.1.map (dT Event.enc)).length + 1) * 24) 140737488355328=true) (fun g_=>gR g_.2)<|.o _ (fun _=>j8 (dT Event.enc) sa.1 ([ya3]:List (List Event)))<|.wk (wK [1,2,3,4] [] 3) l0<|.ret (.inl ((sa.1++([ya3]:List (List Event))),(ac .i64 sa.2 1))))<|
.wk (wK [2,3] [1] 3) l0<|.ret (.inr sa.1)
def v1 (c:af) (y:((List Cell)×(List Int)×(List Int)×(List (List Event)))):AV×List Ob:=(.agg [.sl (y.1.map Cell.enc),.mf 2,.mf 0,.mf 1],[.arr true 1 (y.2.1.map eI),.arr true 1 (y.2.2.1.map eI),.arr true 1 (y.2.2.2.map (dT Event.enc))])
theorem tE (n:Nat) (c:af):sC (jX n c) 13 [(bM af.enc c)] [] (v1 c):=tD JQ<|
.rg 1<|tC 7 (uR n c.First)<|fun y1 =>tS 10 (mM n c.From)<|fun y2 =>tS 13 (l6 n c.Order c.From)<|fun y3 =>.bind 3000003 (iter (fun s=>gJ n c y1 s) n (([]:List (List Event)),0))<|fun t4 =>tX 3000003 ⟨[1,2,3,4],[],2,[],[(3,1,1)],[]⟩ 13 (Oi n c y1) (fun g_=>g_.2)<|.ret (y1,c.From,c.Order,t4)
theorem BI (n:Nat) (n_:Int) (m:Int):pC (sE n n_ m) 12 [(vI n_),(vI m)] (fun r=>(vI r)):=tP []<|
.rg 1<|tB 7 (decide (m<1)) (.ret 0)<|
.rg 3<|tG 10 (decide (IntKind.i64=IntKind.i64)&&!(m==0))<|.op 10 (hA 10)<|.o _ (fun g_=>g_.2)<|.rg 4<|tB 12 (decide ((cw .i64 n_ m)<0)) (.ret (ac .i64 (cw .i64 n_ m) m))<|
.ret (cw .i64 n_ m)
def JR:List (Nat×PT):=[(4,(dn [0,1,2,3,4,5,6,7,8,9,10,11,12,13,14,15,16,17,18,19,20,21,22,23,24]))]
noncomputable def Oj:Code:=sub (aF Tryz.prog 53) [1,0,1,0,0]
def Ol (l:(List Cell)) (sa:Int):St:=aW 35 [(0,.sl (l.map Cell.enc)),(3,(vI sa))] [] [] 0
def Om (l:(List Cell)) (t0:(Unit⊕Unit)):Ex×St:=match t0 with | .inl tt=>(.ex 0,aW 35 [] [] [] 0) | .inr tt=>(.ret,aW 35 [(2,vF)] [] [] 0)
theorem L4 (n:Nat) (l:(List Cell)):lC (kQ n l) Oj (Ol l) (Om l):=tR JR 53 (nu (fun _=>h_) fun _=>nr) fun sa =>
.rg 2<|tL 6 Cell.enc l<|tB 7 (decide (sa<(l.length:Int))) (.rg 4<|tI 12 Cell.enc l sa<|fun xa2 =>tB 17 ((cw .u64 xa2.Addr 8) != 0) (.wk (wK [2] [] 0) l0<|.ret (.inr (.inr ())))<|
tB 20 (decide (sa>0)) (tI 24 Cell.enc l (aJ .i64 sa 1)<|fun xa5 =>tM 29 Cell.enc (fun g_=>g_.1.1.1.2)<|tB 34 (decide (xa5.Addr≥xa2.Addr)) (.wk (wK [2] [] 0) l0<|.ret (.inr (.inr ())))<|
.wk (wK [0,3] [] 0) l0<|.ret (.inl (ac .i64 sa 1)))<|
.wk (wK [0,3] [] 0) l0<|.ret (.inl (ac .i64 sa 1)))<|
.wk (wK [] [] 0) l0<|.ret (.inr (.inl ()))
theorem zr (n:Nat) (l:(List Cell)):pC (lg n l) 53 [.sl (l.map Cell.enc)] (fun r=>.v (.bool r)):=tP JR<|
.bind 3000002 (iter (fun s=>kQ n l s) n 0)<|fun t1 =>.alt 3000002 t1 (fun w2 =>tX 3000002 (wK [0,3] [] 0) 53 (L4 n l) (fun g_=>(eS g_.1.2 g_.2))<|.ret true)<|
fun w2 =>tX 3000002 (wK [0,3] [] 0) 53 (L4 n l) (fun g_=>(eS g_.1.2 g_.2))<|.ret false
theorem b_ (n:Nat) (e:Event):pC (cL n e) 17 [(bM Event.enc e)] (fun r=>.v (.bool r)):=tP []<|
.rg 1<|tB 6 (e.Kind==1) (.ret true)<|
tB 11 (e.Kind==3) (.ret true)<|
.ret (e.Kind==5)
theorem bc (n:Nat) (e:Event):pC (bK n e) 18 [(bM Event.enc e)] (fun r=>.v (.bool r)):=tP []<|
.rg 1<|tB 6 (e.Kind==2) (.ret true)<|
tB 11 (e.Kind==4) (.ret true)<|
.ret (e.Kind==5)
theorem eh (n:Nat) (e:Event):pC (dY n e) 16 [(bM Event.enc e)] (fun r=>.v (.bool r)):=tP []<|
.rg 1<|tC 4 (b_ n e)<|fun y1 =>tB 5 y1 (.ret true)<|
tC 7 (bc n e)<|fun y3 =>.ret y3
def JS:List (Nat×PT):=[(4,(dn [0,1,2,3,4,5,6,7,8,9,10,11,12,13,14,15,16,17,18,19,20]))]
noncomputable def On:Code:=sub (aF Tryz.prog 99) [1,0,1,0,0]
def Oo (l:(List Int)) (sa:Int):St:=aW 31 [(0,.sl (l.map eI)),(3,(vI sa))] [] [] 0
def Oq (l:(List Int)) (t0:(Unit⊕Unit)):Ex×St:=match t0 with | .inl tt=>(.ex 0,aW 31 [] [] [] 0) | .inr tt=>(.ret,aW 31 [(2,vF)] [] [] 0)
theorem L5 (n:Nat) (l:(List Int)):lC (dK n l) On (Oo l) (Oq l):=tR JS 99 (nu (fun _=>h_) fun _=>nr) fun sa =>
.rg 2<|tL 6 eI l<|tB 7 (decide (sa<(l.length:Int))) (.rg 4<|tI 12 eI l sa<|fun xa2 =>tB 15 (decide (xa2<0)) (.wk (wK [2] [] 0) l0<|.ret (.inr (.inr ())))<|
tB 18 (decide (sa>0)) (tI 22 eI l (aJ .i64 sa 1)<|fun xa5 =>tM 26 eI (fun g_=>g_.1.1.1.2)<|tB 30 (decide (xa5≥xa2)) (.wk (wK [2] [] 0) l0<|.ret (.inr (.inr ())))<|
.wk (wK [0,3] [] 0) l0<|.ret (.inl (ac .i64 sa 1)))<|
.wk (wK [0,3] [] 0) l0<|.ret (.inl (ac .i64 sa 1)))<|
.wk (wK [] [] 0) l0<|.ret (.inr (.inl ()))
theorem yp (n:Nat) (l:(List Int)):pC (nN n l) 99 [.sl (l.map eI)] (fun r=>.v (.bool r)):=tP JS<|
.bind 3000002 (iter (fun s=>dK n l s) n 0)<|fun t1 =>.alt 3000002 t1 (fun w2 =>tX 3000002 (wK [0,3] [] 0) 99 (L5 n l) (fun g_=>(eS g_.1.2 g_.2))<|.ret true)<|
fun w2 =>tX 3000002 (wK [0,3] [] 0) 99 (L5 n l) (fun g_=>(eS g_.1.2 g_.2))<|.ret false
theorem m5 (n:Nat) (l:(List Int)) (at_:Int):pC (lh n l at_) 86 [.sl (l.map eI),(vI at_)] (fun r=>.v (.bool r)):=tP []<|
.rg 1<|tC 6 (yp n l)<|fun y1 =>tB 7 y1 (tL 9 eI l<|tB 11 ((l.length:Int)==0) (.ret true)<|
tL 14 eI l<|tI 16 eI l (aJ .i64 (l.length:Int) 1)<|fun x4 =>.ret (decide (x4<at_)))<|
.ret false
noncomputable def Ot:Code:=sub (aF Tryz.prog 69) [1,1,1,1]
noncomputable def L6:Code:=sub (aF Tryz.prog 69) [1,1,1,0,1,1,1]
noncomputable def L8:Code:=sub L6 [1]
noncomputable def Ou:Code:=sub L8 [1]
def Ov (sa:Bool):St:=aW 216 [(4,.v (.bool sa))] [] [] 0
def Ow (tt:Int):Ex×St:=(.ret,aW 216 [(2,(vI tt))] [] [] 0)
theorem iN (n:Nat):dC (ah n) Ot (Ov) (Ow):=Jg [] 69 fun sa =>
.rg 9<|tB 215 (!sa) (.wk (wK [2] [] 0) l0<|.ret 2)<|
.wk (wK [2] [] 0) l0<|.ret 0
def Ox (e:Event) (sd:Bool):St:=aW 216 [(1,.ptr (.L 1) 0 0),(4,.v (.bool sd))] [(1,(Event.enc e))] [] 0
def Oy (e:Event) (tt:Bool):Ex×St:=(.nrm,aW 216 [(4,.v (.bool tt))] [] [] 0)
theorem Di (n:Nat) (e:Event):dC (aM n e) Ou (Ox e) (Oy e):=Jg [] 69 fun sd =>
.rg 8<|tB 179 sd (tC 185 (m5 n e.Deps.Addr e.At)<|fun yd2 =>tB 187 yd2 (tC 193 (m5 n e.Deps.Data e.At)<|fun yd4 =>tB 195 yd4 (tC 201 (m5 n e.Deps.Way e.At)<|fun yd6 =>tB 203 yd6 (tC 205 (bc n e)<|fun yd8 =>tB 206 yd8 (.wk (wK [4] [1] 0) l0<|.ret true)<|
tL 210 eI e.Deps.Data<|.wk (wK [4] [1] 0) l0<|.ret ((e.Deps.Data.length:Int)==0))<|
.wk (wK [4] [1] 0) l0<|.ret false)<|
.wk (wK [4] [1] 0) l0<|.ret false)<|
.wk (wK [4] [1] 0) l0<|.ret false)<|
.wk (wK [4] [1] 0) l0<|.ret false
def Oz (e:Event) (sb:Bool):St:=aW 216 [(1,.ptr (.L 1) 0 0),(4,.v (.bool sb))] [(1,(Event.enc e))] [] 0
def OA (e:Event) (tt:Bool):Ex×St:=(.nrm,aW 216 [(4,.v (.bool tt))] [] [] 0)
theorem GC (n:Nat) (e:Event):dC (aZ n e) L8 (Oz e) (OA e):=Jg [] 69 fun sb =>
.rg 7<|tB 151 sb (tB 155 (e.Kind==4) (tB 160 (decide (e.Pair≥0)) (tB 167 (decide (e.Pair<e.At)) (.bind 4000008 (aM n e true)<|fun tb5 =>tQ 4000008 (wK [1,4] [] 0) (Di n e) (fun g_=>g_.2)<|.wk (wK [4] [] 0) l0<|.ret tb5)<|
tB 171 (e.Kind != 4) (.bind 4000008 (aM n e (e.Pair==0))<|fun tb6 =>tQ 4000008 (wK [1,4] [] 0) (Di n e) (fun g_=>g_.2)<|.wk (wK [4] [] 0) l0<|.ret tb6)<|
.bind 4000008 (aM n e false)<|fun tb6 =>tQ 4000008 (wK [1,4] [] 0) (Di n e) (fun g_=>g_.2)<|.wk (wK [4] [] 0) l0<|.ret tb6)<|
tB 171 (e.Kind != 4) (.bind 4000008 (aM n e (e.Pair==0))<|fun tb5 =>tQ 4000008 (wK [1,4] [] 0) (Di n e) (fun g_=>g_.2)<|.wk (wK [4] [] 0) l0<|.ret tb5)<|
.bind 4000008 (aM n e false)<|fun tb5 =>tQ 4000008 (wK [1,4] [] 0) (Di n e) (fun g_=>g_.2)<|.wk (wK [4] [] 0) l0<|.ret tb5)<|
tB 171 (e.Kind != 4) (.bind 4000008 (aM n e (e.Pair==0))<|fun tb4 =>tQ 4000008 (wK [1,4] [] 0) (Di n e) (fun g_=>g_.2)<|.wk (wK [4] [] 0) l0<|.ret tb4)<|
.bind 4000008 (aM n e false)<|fun tb4 =>tQ 4000008 (wK [1,4] [] 0) (Di n e) (fun g_=>g_.2)<|.wk (wK [4] [] 0) l0<|.ret tb4)<|
.bind 4000008 (aM n e false)<|fun tb2 =>tQ 4000008 (wK [1,4] [] 0) (Di n e) (fun g_=>g_.2)<|.wk (wK [4] [] 0) l0<|.ret tb2
def OB (e:Event) (sa:Bool):St:=aW 216 [(1,.ptr (.L 1) 0 0),(4,.v (.bool sa))] [(1,(Event.enc e))] [] 0
def OC (e:Event) (tt:Bool):Ex×St:=(.nrm,aW 216 [(4,.v (.bool tt))] [] [] 0)
theorem qX (n:Nat) (e:Event):dC (ar n e) L6 (OB e) (OC e):=Jg [] 69 fun sa =>
.rg 6<|tB 130 sa (tB 134 (e.Kind != 1) (tB 139 (e.Kind != 2) (.bind 4000007 (aZ n e true)<|fun ta4 =>tQ 4000007 (wK [1,4] [] 0) (GC n e) (fun g_=>g_.2)<|.wk (wK [4] [] 0) l0<|.ret ta4)<|
tB 143 (!e.Aq) (.bind 4000007 (aZ n e (!e.Rl))<|fun ta5 =>tQ 4000007 (wK [1,4] [] 0) (GC n e) (fun g_=>g_.2)<|.wk (wK [4] [] 0) l0<|.ret ta5)<|
.bind 4000007 (aZ n e false)<|fun ta5 =>tQ 4000007 (wK [1,4] [] 0) (GC n e) (fun g_=>g_.2)<|.wk (wK [4] [] 0) l0<|.ret ta5)<|
tB 143 (!e.Aq) (.bind 4000007 (aZ n e (!e.Rl))<|fun ta4 =>tQ 4000007 (wK [1,4] [] 0) (GC n e) (fun g_=>g_.2)<|.wk (wK [4] [] 0) l0<|.ret ta4)<|
.bind 4000007 (aZ n e false)<|fun ta4 =>tQ 4000007 (wK [1,4] [] 0) (GC n e) (fun g_=>g_.2)<|.wk (wK [4] [] 0) l0<|.ret ta4)<|
.bind 4000007 (aZ n e false)<|fun ta2 =>tQ 4000007 (wK [1,4] [] 0) (GC n e) (fun g_=>g_.2)<|.wk (wK [4] [] 0) l0<|.ret ta2
theorem yq (n:Nat) (e:Event):pC (fK n e) 69 [(bM Event.enc e)] (fun r=>(vI r)):=tP []<|
.rg 1<|tL 8 eI e.Deps.Addr<|tL 12 eI e.Deps.Data<|tL 17 eI e.Deps.Way<|.rg 2<|tB 22 (decide (e.Hart≥0)) (tB 27 (decide (e.Hart<8)) (.rg 3<|tB 34 (e.Kind==6) (.rg 4<|tB 36 (decide (e.At≥0)) (tB 41 (e.Addr==0) (tB 46 (e.Load==0) (tB 51 (e.Store==0) (tB 56 (!e.Aq) (tB 61 (!e.Rl) (tB 66 (e.Pair==0) (tB 70 ((ac .i64 (ac .i64 (e.Deps.Addr.length:Int) (e.Deps.Data.length:Int)) (e.Deps.Way.length:Int))==0) (tB 75 (decide (e.Pred≥0)) (tB 80 (decide (e.Pred≤15)) (tB 85 (decide (e.Succ≥0)) (.bind 4000009 (ah n (decide (e.Succ≤15)))<|fun t15 =>tQ 4000009 (wK [4] [1] 0) (iN n) (fun g_=>g_.2)<|.ret t15)<|
.bind 4000009 (ah n false)<|fun t15 =>tQ 4000009 (wK [4] [1] 0) (iN n) (fun g_=>g_.2)<|.ret t15)<|
.bind 4000009 (ah n false)<|fun t14 =>tQ 4000009 (wK [4] [1] 0) (iN n) (fun g_=>g_.2)<|.ret t14)<|
.bind 4000009 (ah n false)<|fun t13 =>tQ 4000009 (wK [4] [1] 0) (iN n) (fun g_=>g_.2)<|.ret t13)<|
.bind 4000009 (ah n false)<|fun t12 =>tQ 4000009 (wK [4] [1] 0) (iN n) (fun g_=>g_.2)<|.ret t12)<|
.bind 4000009 (ah n false)<|fun t11 =>tQ 4000009 (wK [4] [1] 0) (iN n) (fun g_=>g_.2)<|.ret t11)<|
.bind 4000009 (ah n false)<|fun t10 =>tQ 4000009 (wK [4] [1] 0) (iN n) (fun g_=>g_.2)<|.ret t10)<|
.bind 4000009 (ah n false)<|fun t9 =>tQ 4000009 (wK [4] [1] 0) (iN n) (fun g_=>g_.2)<|.ret t9)<|
.bind 4000009 (ah n false)<|fun t8 =>tQ 4000009 (wK [4] [1] 0) (iN n) (fun g_=>g_.2)<|.ret t8)<|
.bind 4000009 (ah n false)<|fun t7 =>tQ 4000009 (wK [4] [1] 0) (iN n) (fun g_=>g_.2)<|.ret t7)<|
.bind 4000009 (ah n false)<|fun t6 =>tQ 4000009 (wK [4] [1] 0) (iN n) (fun g_=>g_.2)<|.ret t6)<|
.bind 4000009 (ah n false)<|fun t5 =>tQ 4000009 (wK [4] [1] 0) (iN n) (fun g_=>g_.2)<|.ret t5)<|
.rg 5<|tB 91 (decide (e.At≥0)) (tC 93 (eh n e)<|fun y5 =>tB 95 y5 (tB 101 ((cw .u64 e.Addr 8)==0) (tC 103 (b_ n e)<|fun y8 =>tB 104 y8 (tC 112 (bc n e)<|fun y10 =>tB 113 y10 (tB 124 (e.Pred==0) (.bind 4000006 (ar n e (e.Succ==0))<|fun t13 =>tQ 4000006 (wK [1,4] [] 0) (qX n e) (fun g_=>g_.2)<|.bind 4000009 (ah n t13)<|fun t14 =>tQ 4000009 (wK [4] [] 0) (iN n) (fun g_=>g_.2)<|.ret t14)<|
.bind 4000006 (ar n e false)<|fun t13 =>tQ 4000006 (wK [1,4] [] 0) (qX n e) (fun g_=>g_.2)<|.bind 4000009 (ah n t13)<|fun t14 =>tQ 4000009 (wK [4] [] 0) (iN n) (fun g_=>g_.2)<|.ret t14)<|
tB 119 (e.Store==0) (tB 124 (e.Pred==0) (.bind 4000006 (ar n e (e.Succ==0))<|fun t14 =>tQ 4000006 (wK [1,4] [] 0) (qX n e) (fun g_=>g_.2)<|.bind 4000009 (ah n t14)<|fun t15 =>tQ 4000009 (wK [4] [] 0) (iN n) (fun g_=>g_.2)<|.ret t15)<|
.bind 4000006 (ar n e false)<|fun t14 =>tQ 4000006 (wK [1,4] [] 0) (qX n e) (fun g_=>g_.2)<|.bind 4000009 (ah n t14)<|fun t15 =>tQ 4000009 (wK [4] [] 0) (iN n) (fun g_=>g_.2)<|.ret t15)<|
.bind 4000006 (ar n e false)<|fun t13 =>tQ 4000006 (wK [1,4] [] 0) (qX n e) (fun g_=>g_.2)<|.bind 4000009 (ah n t13)<|fun t14 =>tQ 4000009 (wK [4] [] 0) (iN n) (fun g_=>g_.2)<|.ret t14)<|
tB 110 (e.Load==0) (tC 112 (bc n e)<|fun y11 =>tB 113 y11 (tB 124 (e.Pred==0) (.bind 4000006 (ar n e (e.Succ==0))<|fun t14 =>tQ 4000006 (wK [1,4] [] 0) (qX n e) (fun g_=>g_.2)<|.bind 4000009 (ah n t14)<|fun t15 =>tQ 4000009 (wK [4] [] 0) (iN n) (fun g_=>g_.2)<|.ret t15)<|
.bind 4000006 (ar n e false)<|fun t14 =>tQ 4000006 (wK [1,4] [] 0) (qX n e) (fun g_=>g_.2)<|.bind 4000009 (ah n t14)<|fun t15 =>tQ 4000009 (wK [4] [] 0) (iN n) (fun g_=>g_.2)<|.ret t15)<|
tB 119 (e.Store==0) (tB 124 (e.Pred==0) (.bind 4000006 (ar n e (e.Succ==0))<|fun t15 =>tQ 4000006 (wK [1,4] [] 0) (qX n e) (fun g_=>g_.2)<|.bind 4000009 (ah n t15)<|fun t16 =>tQ 4000009 (wK [4] [] 0) (iN n) (fun g_=>g_.2)<|.ret t16)<|
.bind 4000006 (ar n e false)<|fun t15 =>tQ 4000006 (wK [1,4] [] 0) (qX n e) (fun g_=>g_.2)<|.bind 4000009 (ah n t15)<|fun t16 =>tQ 4000009 (wK [4] [] 0) (iN n) (fun g_=>g_.2)<|.ret t16)<|
.bind 4000006 (ar n e false)<|fun t14 =>tQ 4000006 (wK [1,4] [] 0) (qX n e) (fun g_=>g_.2)<|.bind 4000009 (ah n t14)<|fun t15 =>tQ 4000009 (wK [4] [] 0) (iN n) (fun g_=>g_.2)<|.ret t15)<|
.bind 4000006 (ar n e false)<|fun t11 =>tQ 4000006 (wK [1,4] [] 0) (qX n e) (fun g_=>g_.2)<|.bind 4000009 (ah n t11)<|fun t12 =>tQ 4000009 (wK [4] [] 0) (iN n) (fun g_=>g_.2)<|.ret t12)<|
.bind 4000006 (ar n e false)<|fun t8 =>tQ 4000006 (wK [1,4] [] 0) (qX n e) (fun g_=>g_.2)<|.bind 4000009 (ah n t8)<|fun t9 =>tQ 4000009 (wK [4] [] 0) (iN n) (fun g_=>g_.2)<|.ret t9)<|
.bind 4000006 (ar n e false)<|fun t7 =>tQ 4000006 (wK [1,4] [] 0) (qX n e) (fun g_=>g_.2)<|.bind 4000009 (ah n t7)<|fun t8 =>tQ 4000009 (wK [4] [] 0) (iN n) (fun g_=>g_.2)<|.ret t8)<|
.bind 4000006 (ar n e false)<|fun t5 =>tQ 4000006 (wK [1,4] [] 0) (qX n e) (fun g_=>g_.2)<|.bind 4000009 (ah n t5)<|fun t6 =>tQ 4000009 (wK [4] [] 0) (iN n) (fun g_=>g_.2)<|.ret t6)<|
.rg 3<|tB 34 (e.Kind==6) (.bind 4000009 (ah n false)<|fun t4 =>tQ 4000009 (wK [4] [1] 0) (iN n) (fun g_=>g_.2)<|.ret t4)<|
.bind 4000006 (ar n e false)<|fun t4 =>tQ 4000006 (wK [1,4] [] 0) (qX n e) (fun g_=>g_.2)<|.bind 4000009 (ah n t4)<|fun t5 =>tQ 4000009 (wK [4] [] 0) (iN n) (fun g_=>g_.2)<|.ret t5)<|
.rg 3<|tB 34 (e.Kind==6) (.bind 4000009 (ah n false)<|fun t3 =>tQ 4000009 (wK [4] [1] 0) (iN n) (fun g_=>g_.2)<|.ret t3)<|
.bind 4000006 (ar n e false)<|fun t3 =>tQ 4000006 (wK [1,4] [] 0) (qX n e) (fun g_=>g_.2)<|.bind 4000009 (ah n t3)<|fun t4 =>tQ 4000009 (wK [4] [] 0) (iN n) (fun g_=>g_.2)<|.ret t4
def H2:List (Nat×PT):=[(8,(dn [0,1,2,3,4,5,6,7,8,9,10,11,12,13,14,15,16,17]))]
noncomputable def L9:Code:=sub (aF Tryz.prog 54) [1,0,1,0,0]
noncomputable def OD:Code:=sub L9 [1,0,0,1,1,1,1,1,0,0]
def OE (hart:Int) (l:(List Event)) (xa2:Event) (xa8:Event) (sb:Int×Bool×Int×Int):St:=aW 76 [(0,(vI hart)),(1,.sl (l.map Event.enc)),(5,(vI sb.2.2.1)),(7,(vI sb.2.2.2)),(22,.ptr (.L 6) 0 0),(23,(vI xa2.Hart)),(24,(vI hart)),(25,.v (.bool (xa2.Hart != hart))),(28,.ptr (.L 6) 0 1),(29,(vI xa2.At)),(30,(vI sb.1)),(31,.v (.bool sb.2.1)),(44,.sl (l.map Event.enc)),(45,.ptr (.L 6) 0 10),(46,(vI xa2.Pair)),(47,.fptr (Event.enc xa8) 0),(48,.fptr (Event.enc xa8) 3),(49,(vU xa8.Addr)),(50,.ptr (.L 6) 0 3),(51,(vU xa2.Addr)),(52,.v (.bool (xa8.Addr != xa2.Addr)))] [(6,(Event.enc xa2))] [] 0
def OF (hart:Int) (l:(List Event)) (xa2:Event) (xa8:Event) (t0:((Int×Bool×Int)⊕Unit)):Ex×St:=match t0 with | .inl tt=>(.ex 2,aW 76 [(0,(vI hart)),(1,.sl (l.map Event.enc)),(5,(vI tt.2.2)),(22,.ptr (.L 6) 0 0),(23,(vI xa2.Hart)),(24,(vI hart)),(25,.v (.bool (xa2.Hart != hart))),(28,.ptr (.L 6) 0 1),(29,(vI xa2.At)),(30,(vI tt.1)),(31,.v (.bool tt.2.1)),(44,.sl (l.map Event.enc)),(45,.ptr (.L 6) 0 10),(46,(vI xa2.Pair)),(47,.fptr (Event.enc xa8) 0),(48,.fptr (Event.enc xa8) 3),(49,(vU xa8.Addr)),(50,.ptr (.L 6) 0 3),(51,(vU xa2.Addr)),(52,.v (.bool (xa8.Addr != xa2.Addr)))] [(6,(Event.enc xa2))] [] 0) | .inr tt=>(.ret,aW 76 [(4,(vI 4))] [] [] 0)
theorem L_ (n:Nat) (hart:Int) (l:(List Event)) (xa2:Event) (xa8:Event):lC (lv n hart l xa2 xa8) OD (OE hart l xa2 xa8) (OF hart l xa2 xa8):=tR H2 54 (nu (fun _=>h_) fun _=>nr) fun sb =>
.rg 11<|tB 59 (decide (sb.2.2.2<sb.2.2.1)) (.rg 13<|tI 64 Event.enc l sb.2.2.2<|fun xb2 =>tB 68 (xb2.Kind==3) (.wk (wK [4] [6] 0) l0<|.ret (.inr (.inr ())))<|
tM 71 Event.enc (fun g_=>g_.1.2)<|tB 75 (xb2.Kind==4) (.wk (wK [4] [6] 0) l0<|.ret (.inr (.inr ())))<|
.wk (wK [0,1,5,7,22,23,24,25,28,29,30,31,44,45,46,47,48,49,50,51,52] [] 0) l0<|.ret (.inl (sb.1,sb.2.1,sb.2.2.1,(ac .i64 sb.2.2.2 1))))<|
.wk (wK [0,1,5,22,23,24,25,28,29,30,31,44,45,46,47,48,49,50,51,52] [] 0) l0<|.ret (.inr (.inl (sb.1,sb.2.1,sb.2.2.1)))
def OG (hart:Int) (l:(List Event)) (sa:Int):St:=aW 76 [(0,(vI hart)),(1,.sl (l.map Event.enc)),(5,(vI sa))] [] [] 0
def OH (hart:Int) (l:(List Event)) (t0:(Unit⊕Unit)):Ex×St:=match t0 with | .inl tt=>(.ex 0,aW 76 [] [] [] 0) | .inr tt=>(.ret,aW 76 [(4,(vI 4))] [] [] 0)
theorem Ma (n:Nat) (hart:Int) (l:(List Event)):lC (lw n hart l) L9 (OG hart l) (OH hart l):=tR H2 54 (nu (fun _=>h_) fun _=>nr) fun sa =>
.rg 2<|tL 10 Event.enc l<|tB 11 (decide (sa<(l.length:Int))) (.rg 4<|tI 16 Event.enc l sa<|fun xa2 =>.rg 5<|tC 19 (yq n xa2)<|fun ya3 =>tB 21 (ya3 != 0) (.wk (wK [4] [6] 0) l0<|.ret (.inr (.inr ())))<|
tB 27 (xa2.Hart != hart) (.wk (wK [4] [6] 0) l0<|.ret (.inr (.inr ())))<|
tB 32 (xa2.At != sa) (.wk (wK [4] [6] 0) l0<|.ret (.inr (.inr ())))<|
.rg 7<|tB 35 (xa2.Kind != 4) (.wk (wK [0,1,5] [6] 0) l0<|.ret (.inl (ac .i64 sa 1)))<|
.rg 8<|tI 39 Event.enc l xa2.Pair<|fun xa8 =>tB 43 (xa8.Kind != 3) (.wk (wK [4] [6] 0) l0<|.ret (.inr (.inr ())))<|
tM 47 Event.enc (fun g_=>g_.1.2)<|tB 53 (xa8.Addr != xa2.Addr) (.wk (wK [4] [6] 0) l0<|.ret (.inr (.inr ())))<|
.bind 3000011 (iter (fun s=>lv n hart l xa2 xa8 s) n (sa,(xa2.At != sa),sa,(ac .i64 xa2.Pair 1)))<|fun ta11 =>.alt 3000011 ta11 (fun wa12 =>tX 3000011 (wK [0,1,5,7,22,23,24,25,28,29,30,31,44,45,46,47,48,49,50,51,52] [] 0) 54 (L_ n hart l xa2 xa8) (fun g_=>(eS g_.1.2 g_.2))<|.wk (wK [0,1,5] [6] 0) l0<|.ret (.inl (ac .i64 wa12.2.2 1)))<|
fun wa12 =>tX 3000011 (wK [0,1,5,7,22,23,24,25,28,29,30,31,44,45,46,47,48,49,50,51,52] [] 0) 54 (L_ n hart l xa2 xa8) (fun g_=>(eS g_.1.2 g_.2))<|.wk (wK [4] [] 0) l0<|.ret (.inr (.inr ())))<|
.wk (wK [] [] 0) l0<|.ret (.inr (.inl ()))
theorem Dj (n:Nat) (hart:Int) (l:(List Event)):pC (nO n hart l) 54 [(vI hart),.sl (l.map Event.enc)] (fun r=>(vI r)):=tP H2<|
.bind 3000002 (iter (fun s=>lw n hart l s) n 0)<|fun t1 =>.alt 3000002 t1 (fun w2 =>tX 3000002 (wK [0,1,5] [] 0) 54 (Ma n hart l) (fun g_=>(eS g_.1.2 g_.2))<|.ret 0)<|
fun w2 =>tX 3000002 (wK [0,1,5] [] 0) 54 (Ma n hart l) (fun g_=>(eS g_.1.2 g_.2))<|.ret 4
def Mb:List (Nat×PT):=[(1,(dn [0,1,2,3,4,5,6,7,8,9,10,11,12,13]))]
theorem BJ (n:Nat) (d:Deps):pC (sF n d) 59 [(bM Deps.enc d)] (fun r=>(bM Deps.enc r)):=tP Mb<|
.rg 1<|tG 6 (Nat.ble (d.Addr.length * 8) 140737488355328)<|.op 6 A0<|.o (gx 1 (d.Addr.map eI)=true) (fun _=>GP)<|.o (bh (d.Addr.map eI)=true) (fun _=>DD)<|.o (Nat.ble ((d.Addr.map eI).length * 8) 140737488355328=true) (fun g_=>mH g_.2)<|tG 10 (Nat.ble (d.Data.length * 8) 140737488355328)<|.op 10 A0<|.o (gx 1 (d.Data.map eI)=true) (fun _=>GP)<|.o (bh (d.Data.map eI)=true) (fun _=>DD)<|.o (Nat.ble ((d.Data.map eI).length * 8) 140737488355328=true) (fun g_=>mH g_.2)<|tG 14 (Nat.ble (d.Way.length * 8) 140737488355328)<|.op 14 A0<|.o (gx 1 (d.Way.map eI)=true) (fun _=>GP)<|.o (bh (d.Way.map eI)=true) (fun _=>DD)<|.o (Nat.ble ((d.Way.map eI).length * 8) 140737488355328=true) (fun g_=>mH g_.2)<|.ret d
noncomputable def Mc:Code:=sub (aF Tryz.prog 36) [1,1,0,1,0,0]
noncomputable def OI:Code:=sub Mc [1,0,0,1,0,0]
def OJ (c:af) (sb:(List Event)×Int×Int):St:=aW 41 [(1,.ptr (.L 1) 0 0),(3,.mf 0),(4,(vI sb.2.1)),(5,(vI sb.2.2))] [(1,(af.enc c))] [.arr true 14 (sb.1.map Event.enc)] 0
def OL (c:af) (tt:((List Event)×Int)):Ex×St:=(.ex 2,aW 41 [(1,.ptr (.L 1) 0 0),(3,.mf 0),(4,(vI tt.2))] [(1,(af.enc c))] [.arr true 14 (tt.1.map Event.enc)] 0)
theorem OM (n:Nat) (c:af):lC (mm n c) OI (OJ c) (OL c):=tR [] 36 (fun _=>h_) fun sb =>
.rg 6<|tI 18 (dT Event.enc) c.Harts sb.2.1<|fun xb1 =>tL 20 Event.enc xb1<|tB 21 (decide (sb.2.2<(xb1.length:Int))) (.rg 8<|tM 27 (dT Event.enc) (fun g_=>g_.1.2)<|tI 30 Event.enc xb1 sb.2.2<|fun xb3 =>.rg 9<|tC 34 (BJ n xb3.Deps)<|fun yb4 =>.rg 10<|tG 39 (Nat.ble ((sb.1.length + 1) * 152) 140737488355328)<|.op 39 (BE 39 0 ((sb.1++([(Event.mk xb3.Hart xb3.At xb3.Kind xb3.Addr xb3.Load xb3.Store xb3.Aq xb3.Rl xb3.Pred xb3.Succ xb3.Pair yb4)]:List Event)).map Event.enc))<|.o (gx 14 [[(vI xb3.Hart),(vI xb3.At),(vI xb3.Kind),(vU xb3.Addr),(vU xb3.Load),(vU xb3.Store),.v (.bool xb3.Aq),.v (.bool xb3.Rl),(vI xb3.Pred),(vI xb3.Succ),(vI xb3.Pair),.sl (yb4.Addr.map eI),.sl (yb4.Data.map eI),.sl (yb4.Way.map eI)]]=true) (fun _=>rfl)<|.o (bh [[(vI xb3.Hart),(vI xb3.At),(vI xb3.Kind),(vU xb3.Addr),(vU xb3.Load),(vU xb3.Store),.v (.bool xb3.Aq),.v (.bool xb3.Rl),(vI xb3.Pred),(vI xb3.Succ),(vI xb3.Pair),.sl (yb4.Addr.map eI),.sl (yb4.Data.map eI),.sl (yb4.Way.map eI)]]=true) (fun _=>rfl)<|.o (Nat.ble (((sb.1.map Event.enc).length + 1) * 152) 140737488355328=true) (fun g_=>gR g_.2)<|.o _ (fun _=>j8 Event.enc sb.1 ([(Event.mk xb3.Hart xb3.At xb3.Kind xb3.Addr xb3.Load xb3.Store xb3.Aq xb3.Rl xb3.Pred xb3.Succ xb3.Pair yb4)]:List Event))<|.wk (wK [1,3,4,5] [6] 1) l0<|.ret (.inl ((sb.1++([(Event.mk xb3.Hart xb3.At xb3.Kind xb3.Addr xb3.Load xb3.Store xb3.Aq xb3.Rl xb3.Pred xb3.Succ xb3.Pair yb4)]:List Event)),sb.2.1,(ac .i64 sb.2.2 1))))<|
.wk (wK [1,3,4] [] 1) l0<|.ret (.inr (sb.1,sb.2.1))
def ON (c:af) (sa:(List Event)×Int):St:=aW 41 [(1,.ptr (.L 1) 0 0),(3,.mf 0),(4,(vI sa.2))] [(1,(af.enc c))] [.arr true 14 (sa.1.map Event.enc)] 0
def OO (c:af) (tt:((List Event))):Ex×St:=(.ex 0,aW 41 [(3,.mf 0)] [] [.arr true 14 (tt.map Event.enc)] 0)
theorem OP (n:Nat) (c:af):lC (mn n c) Mc (ON c) (OO c):=tR [] 36 (fun _=>h_) fun sa =>
.rg 3<|tL 10 (dT Event.enc) c.Harts<|tB 11 (decide (sa.2<(c.Harts.length:Int))) (.bind 3000006 (iter (fun s=>mm n c s) n (sa.1,sa.2,0))<|fun ta2 =>tX 3000006 (wK [1,3,4,5] [] 1) 36 (OM n c) (fun g_=>g_.2)<|.wk (wK [1,3,4] [] 1) l0<|.ret (.inl (ta2.1,(ac .i64 ta2.2 1))))<|
.wk (wK [3] [1] 1) l0<|.ret (.inr sa.1)
theorem tH (n:Nat) (c:af):pC (ly n c) 36 [(bM af.enc c)] (fun r=>.sl (r.map Event.enc)):=tP []<|
.bind 3000003 (iter (fun s=>mn n c s) n (([]:List Event),0))<|fun t1 =>tX 3000003 ⟨[1,3,4],[],0,[(3,14)],[],[]⟩ 36 (OP n c) (fun g_=>g_.2)<|.ret t1
noncomputable def OQ:Code:=sub (aF Tryz.prog 70) [1,0,1,0,0]
def OR (l:(List Cell)) (addr:Int) (sa:Int):St:=aW 24 [(0,.sl (l.map Cell.enc)),(1,(vU addr)),(5,(vI sa))] [] [] 0
def OS (l:(List Cell)) (addr:Int) (t0:(Unit⊕Int)):Ex×St:=match t0 with | .inl tt=>(.ex 0,aW 24 [] [] [] 0) | .inr tt=>(.ret,aW 24 [(4,(vU tt))] [] [] 0)
theorem Md (n:Nat) (l:(List Cell)) (addr:Int):lC (kR n l addr) OQ (OR l addr) (OS l addr):=tR [] 70 (nu (fun _=>h_) fun _=>nr) fun sa =>
.rg 2<|tL 8 Cell.enc l<|tB 9 (decide (sa<(l.length:Int))) (.rg 4<|tI 14 Cell.enc l sa<|fun xa2 =>tB 18 (xa2.Addr==addr) (.rg 5<|tM 21 Cell.enc (fun g_=>g_.1.2)<|.wk (wK [4] [] 0) l0<|.ret (.inr (.inr xa2.Value)))<|
.wk (wK [0,1,5] [] 0) l0<|.ret (.inl (ac .i64 sa 1)))<|
.wk (wK [] [] 0) l0<|.ret (.inr (.inl ()))
theorem zt (n:Nat) (l:(List Cell)) (addr:Int):pC (na n l addr) 70 [.sl (l.map Cell.enc),(vU addr)] (fun r=>(vU r)):=tP []<|
.bind 3000002 (iter (fun s=>kR n l addr s) n 0)<|fun t1 =>.alt 3000002 t1 (fun w2 =>tX 3000002 (wK [0,1,5] [] 0) 70 (Md n l addr) (fun g_=>(eS g_.1.2 g_.2))<|.ret 0)<|
fun w2 =>tX 3000002 (wK [0,1,5] [] 0) 70 (Md n l addr) (fun g_=>(eS g_.1.2 g_.2))<|.ret w2
def Me:List (Nat×PT):=[(1,(dn [0,1,2,3,4,5,6,7,8,9,10,11])),(5,(dn [0,1,2,3,4,5,6,7,8])),(8,(dn [0,1,2,3,4,5,6,7,8,9,10,11,12,13,14,15,16,17,18,19,20,21,22,23,24,25]))]
theorem BK (n:Nat) (c:af) (all:(List Event)) (n_:Int):pC (cJ n c all n_) 55 [(bM af.enc c),.sl (all.map Event.enc),(vI n_)] (fun r=>.v (.bool r)):=tP Me<|
.rg 1<|tI 11 Event.enc all n_<|fun x1 =>tI 16 eI c.From n_<|fun x2 =>.rg 2<|tC 20 (b_ n x1)<|fun y3 =>tB 18 (!y3) (.ret (x2==(-1)))<|
.rg 4<|tB 24 (x2==(-1)) (.rg 5<|tC 33 (zt n c.First x1.Addr)<|fun y6 =>.ret (x1.Load==y6))<|
.rg 6<|tB 38 (decide (x2<0)) (.ret false)<|
tL 41 Event.enc all<|tB 44 (decide (x2≥(all.length:Int))) (.ret false)<|
tB 35 (x2==n_) (.ret false)<|
.rg 8<|tI 51 Event.enc all x2<|fun x9 =>tC 53 (bc n x9)<|fun y10 =>tB 54 y10 (tM 57 Event.enc (fun g_=>g_.1.1.2)<|tB 64 (x9.Addr==x1.Addr) (tM 67 Event.enc (fun g_=>g_.1.1.1.2)<|.ret (x9.Store==x1.Load))<|
.ret false)<|
.ret false
noncomputable def OT:Code:=sub (aF Tryz.prog 28) [1,1,1,0,1,0,0]
noncomputable def OU:Code:=sub (aF Tryz.prog 28) [1,1,1,1,1,1,1,0,1,0,0]
noncomputable def OV:Code:=sub (aF Tryz.prog 28) [1,1,1,1,1,1,1,1,1,0,1,0,0]
def OW (c:af) (sa:Int×Int):St:=aW 121 [(1,.ptr (.L 1) 0 0),(3,(vI sa.1)),(4,(vI sa.2))] [(1,(af.enc c))] [] 0
def OX (c:af) (t0:(Int⊕Unit)):Ex×St:=match t0 with | .inl tt=>(.ex 0,aW 121 [(1,.ptr (.L 1) 0 0),(3,(vI tt))] [(1,(af.enc c))] [] 0) | .inr tt=>(.ret,aW 121 [(2,(vI 2))] [] [] 0)
theorem Mf (n:Nat) (c:af):lC (iS n c) OT (OW c) (OX c):=tR [] 28 (nu (fun _=>h_) fun _=>nr) fun sa =>
.rg 5<|tL 30 (dT Event.enc) c.Harts<|tB 31 (decide (sa.2<(c.Harts.length:Int))) (.rg 7<|tI 38 (dT Event.enc) c.Harts sa.2<|fun xa2 =>tL 40 Event.enc xa2<|.rg 8<|tB 44 (decide ((ac .i64 sa.1 (xa2.length:Int))>4096)) (.wk (wK [2] [1] 0) l0<|.ret (.inr (.inr ())))<|
tM 49 (dT Event.enc) (fun g_=>g_.1.2)<|tC 51 (Dj n sa.2 xa2)<|fun ya4 =>tB 53 (ya4 != 0) (.wk (wK [2] [1] 0) l0<|.ret (.inr (.inr ())))<|
.wk (wK [1,3,4] [] 0) l0<|.ret (.inl ((ac .i64 sa.1 (xa2.length:Int)),(ac .i64 sa.2 1))))<|
.wk (wK [1,3] [] 0) l0<|.ret (.inr (.inl sa.1))
def OY (c:af) (w6:Int) (y7:(List Event)) (sa:Int×Int):St:=aW 121 [(1,.ptr (.L 1) 0 0),(3,(vI w6)),(5,.sl (y7.map Event.enc)),(6,(vI sa.1)),(7,(vI sa.2))] [(1,(af.enc c))] [] 0
def OZ (c:af) (w6:Int) (y7:(List Event)) (t0:(Int⊕Unit)):Ex×St:=match t0 with | .inl tt=>(.ex 2,aW 121 [(1,.ptr (.L 1) 0 0),(3,(vI w6)),(5,.sl (y7.map Event.enc)),(6,(vI tt))] [(1,(af.enc c))] [] 0) | .inr tt=>(.ret,aW 121 [(2,(vI 2))] [] [] 0)
theorem Mg (n:Nat) (c:af) (w6:Int) (y7:(List Event)):lC (iT n c w6 y7) OU (OY c w6 y7) (OZ c w6 y7):=tR [] 28 (nu (fun _=>h_) fun _=>nr) fun sa =>
.rg 15<|tB 63 (decide (sa.2<w6)) (.rg 17<|tC 69 (BK n c y7 sa.2)<|fun ya2 =>tB 70 (!ya2) (.wk (wK [2] [1] 0) l0<|.ret (.inr (.inr ())))<|
.rg 19<|tI 73 Event.enc y7 sa.2<|fun xa4 =>.bind 75 (dY n xa4)<|fun ya5 =>.ite 75 ya5 (.op 75 (mI 75 (.v (.bool ya5)) (vT))<|.o _ (fun g_=>(eh n xa4 ya5 g_.1.2))<|.o _ (fun g_=>cB g_.2)<|.wk (wK [1,3,5,6,7] [] 0) l0<|.ret (.inl ((ac .i64 sa.1 1),(ac .i64 sa.2 1))))<|
.op 75 (mI 75 (.v (.bool ya5)) (vF))<|.o _ (fun g_=>(eh n xa4 ya5 g_.1.2))<|.o _ (fun g_=>cB g_.2)<|.wk (wK [1,3,5,6,7] [] 0) l0<|.ret (.inl (sa.1,(ac .i64 sa.2 1))))<|
.wk (wK [1,3,5,6] [] 0) l0<|.ret (.inr (.inl sa.1))
def O0 (c:af) (w6:Int) (y7:(List Event)) (w10:Int) (sa:(List Bool)×Int):St:=aW 121 [(1,.ptr (.L 1) 0 0),(3,(vI w6)),(5,.sl (y7.map Event.enc)),(6,(vI w10)),(8,.mf 0),(9,(vI sa.2))] [(1,(af.enc c))] [.arr true 1 (sa.1.map eZ)] 0
def O1 (c:af) (w6:Int) (y7:(List Event)) (w10:Int) (t0:(Unit⊕Unit)):Ex×St:=match t0 with | .inl tt=>(.ex 4,aW 121 [(1,.ptr (.L 1) 0 0),(6,(vI w10))] [(1,(af.enc c))] [] 0) | .inr tt=>(.ret,aW 121 [(2,(vI 2))] [] [] 0)
theorem Mh (n:Nat) (c:af) (w6:Int) (y7:(List Event)) (w10:Int):lC (iU n c w6 y7 w10) OV (O0 c w6 y7 w10) (O1 c w6 y7 w10):=tR [] 28 (nu (fun _=>h_) fun _=>nr) fun sa =>
.rg 23<|tL 83 eI c.Order<|tB 84 (decide (sa.2<(c.Order.length:Int))) (.rg 25<|tI 90 eI c.Order sa.2<|fun xa2 =>.rg 26<|tB 94 (decide (xa2<0)) (.wk (wK [2] [1] 0) l0<|.ret (.inr (.inr ())))<|
tB 99 (decide (xa2≥w6)) (.wk (wK [2] [1] 0) l0<|.ret (.inr (.inr ())))<|
tI 102 eZ sa.1 xa2<|fun xa5 =>tN 103 eZ (fun g_=>g_.2)<|tB 105 xa5 (.wk (wK [2] [1] 0) l0<|.ret (.inr (.inr ())))<|
tI 108 Event.enc y7 xa2<|fun xa7 =>tC 110 (eh n xa7)<|fun ya8 =>tB 112 (!ya8) (.wk (wK [2] [1] 0) l0<|.ret (.inr (.inr ())))<|
.rg 28<|tM 115 eZ (fun g_=>g_.1.1.1.1.2)<|.op 1000115 (Ey 1000115 [.v (.bool xa5)] 0 ((sa.1.set (xa2).toNat true).map eZ))<|.o _ (fun g_=>fk eZ g_.1.1.1.1.2)<|.o _ (fun _=>fT eZ sa.1 ((xa2).toNat) true)<|.wk (wK [1,3,5,6,8,9] [] 1) l0<|.ret (.inl ((sa.1.set (xa2).toNat true),(ac .i64 sa.2 1))))<|
.wk (wK [1,6] [] 0) l0<|.ret (.inr (.inl ()))
theorem m6 (n:Nat) (c:af):pC (eE n c) 28 [(bM af.enc c)] (fun r=>(vI r)):=tP []<|
.rg 1<|tC 13 (zr n c.First)<|fun y1 =>tB 15 (!y1) (.ret 2)<|
tL 18 (dT Event.enc) c.Harts<|tB 21 (decide ((c.Harts.length:Int)<1)) (.ret 2)<|
tL 24 (dT Event.enc) c.Harts<|tB 26 (decide ((c.Harts.length:Int)>8)) (.ret 2)<|
.bind 3000005 (iter (fun s=>iS n c s) n (0,0))<|fun t5 =>.alt 3000005 t5 (fun w6 =>tX 3000005 (wK [1,3,4] [] 0) 28 (Mf n c) (fun g_=>(eS g_.1.2 g_.2))<|.rg 10<|tC 55 (tH n c)<|fun y7 =>.rg 11<|tL 58 eI c.From<|tB 60 ((c.From.length:Int) != w6) (.ret 2)<|
.bind 3000015 (iter (fun s=>iT n c w6 y7 s) n (0,0))<|fun t9 =>.alt 3000015 t9 (fun w10 =>tX 3000015 (wK [1,3,5,6,7] [] 0) 28 (Mg n c w6 y7) (fun g_=>(eS g_.1.2 g_.2))<|.rg 21<|tG 79 (decide ((0:Int)≤w6)&&decide (w6≤w6)&&decide (1 * w6≤140737488355328)&&decide (w6≤140737488355328)&&Nat.blt 0 1)<|.op 79 (BE 79 0 ((List.replicate (w6).toNat false).map eZ))<|.o _ (fun g_=>g_.2)<|.o (List.replicate (w6).toNat [vF]=(List.replicate (w6).toNat false).map eZ) (fun _=>kX eZ _ false)<|.bind 3000023 (iter (fun s=>iU n c w6 y7 w10 s) n ((List.replicate (w6).toNat false),0))<|fun t12 =>.alt 3000023 t12 (fun w13 =>tX 3000023 (wK [1,3,5,6,8,9] [] 1) 28 (Mh n c w6 y7 w10) (fun g_=>(eS g_.1.2 g_.2))<|.rg 29<|tL 118 eI c.Order<|tB 120 ((c.Order.length:Int) != w10) (.ret 2)<|
.ret 0)<|
fun w13 =>tX 3000023 (wK [1,3,5,6,8,9] [] 1) 28 (Mh n c w6 y7 w10) (fun g_=>(eS g_.1.2 g_.2))<|.ret 2)<|
fun w10 =>tX 3000015 (wK [1,3,5,6,7] [] 0) 28 (Mg n c w6 y7) (fun g_=>(eS g_.1.2 g_.2))<|.ret 2)<|
fun w6 =>tX 3000005 (wK [1,3,4] [] 0) 28 (Mf n c) (fun g_=>(eS g_.1.2 g_.2))<|.ret 2
theorem Dk (n:Nat) (c:af):pC (sG n c) 15 [(bM af.enc c)] (fun r=>.sl (r.map Event.enc)):=tP []<|
.rg 1<|tC 4 (m6 n c)<|fun y1 =>tB 5 (y1 != 0) (.rq ([]:List Event))<|
.rg 3<|tC 7 (tH n c)<|fun y3 =>.ret y3
def Mi:List (Nat×PT):=[(1,(dn [0,1,2,3,4,5,6,7,8]))]
theorem sq (n:Nat) (c:af):pC (mR n c) 31 [(bM af.enc c)] (fun r=>.tup [(bM ab.enc r.1),.v (.bool r.2)]):=tP Mi<|
.rg 1<|tC 6 (Dk n c)<|fun y1 =>tC 9 (m6 n c)<|fun y2 =>.ret ((ab.mk c y1),(y2==0))
theorem mN (n:Nat) (why:Int) (a:Int) (b:Int):pC (qA n why a b) 43 [(vI why),(vI a),(vI b)] (fun r=>(bM aC.enc r)):=tP []<|
.ret (aC.mk false why a b)
noncomputable def O2:Code:=sub (aF Tryz.prog 10) [1,1,1,0,1,0,0]
noncomputable def O3:Code:=sub (aF Tryz.prog 10) [1,1,1,1,0,1,0,0]
def O4 (c:af) (sa:(List Int)×Int):St:=aW 38 [(1,.ptr (.L 1) 0 0),(3,.mf 0),(4,(vI sa.2))] [(1,(af.enc c))] [.arr true 1 (sa.1.map eI)] 0
def O5 (c:af) (tt:((List Int))):Ex×St:=(.ex 0,aW 38 [(1,.ptr (.L 1) 0 0),(3,.mf 0)] [(1,(af.enc c))] [.arr true 1 (tt.map eI)] 0)
theorem O6 (n:Nat) (c:af):lC (jY n c) O2 (O4 c) (O5 c):=tR [] 10 (fun _=>h_) fun sa =>
.rg 5<|tL 15 eI sa.1<|tB 16 (decide (sa.2<(sa.1.length:Int))) (.rg 7<|tI 21 eI sa.1 sa.2<|fun xa2 =>.op 1000021 (Ey 1000021 [(vI xa2)] 0 ((sa.1.set (sa.2).toNat (-1)).map eI))<|.o _ (fun g_=>fk eI g_.2)<|.o _ (fun _=>fT eI sa.1 ((sa.2).toNat) (-1))<|.wk (wK [1,3,4] [] 1) l0<|.ret (.inl ((sa.1.set (sa.2).toNat (-1)),(ac .i64 sa.2 1))))<|
.wk (wK [1,3] [] 1) l0<|.ret (.inr sa.1)
def O7 (c:af) (sa:(List Int)×Int):St:=aW 38 [(1,.ptr (.L 1) 0 0),(3,.mf 0),(5,(vI sa.2))] [(1,(af.enc c))] [.arr true 1 (sa.1.map eI)] 0
def O8 (c:af) (tt:((List Int))):Ex×St:=(.ex 2,aW 38 [(3,.mf 0)] [] [.arr true 1 (tt.map eI)] 0)
theorem O9 (n:Nat) (c:af):lC (jZ n c) O3 (O7 c) (O8 c):=tR [] 10 (fun _=>h_) fun sa =>
.rg 9<|tL 25 eI c.Order<|tB 26 (decide (sa.2<(c.Order.length:Int))) (.rg 11<|tI 33 eI c.Order sa.2<|fun xa2 =>tI 36 eI sa.1 xa2<|fun xa3 =>.op 1000036 (Ey 1000036 [(vI xa3)] 0 ((sa.1.set (xa2).toNat sa.2).map eI))<|.o _ (fun g_=>fk eI g_.2)<|.o _ (fun _=>fT eI sa.1 ((xa2).toNat) sa.2)<|.wk (wK [1,3,5] [] 1) l0<|.ret (.inl ((sa.1.set (xa2).toNat sa.2),(ac .i64 sa.2 1))))<|
.wk (wK [3] [1] 1) l0<|.ret (.inr sa.1)
theorem qk (n:Nat) (c:af):pC (jH n c) 10 [(bM af.enc c)] (fun r=>.sl (r.map eI)):=tP []<|
.rg 1<|tC 7 (m6 n c)<|fun y1 =>tB 8 (y1 != 0) (.rq ([]:List Int))<|
.rg 3<|tL 11 eI c.From<|tG 12 (decide ((0:Int)≤(c.From.length:Int))&&decide ((c.From.length:Int)≤(c.From.length:Int))&&decide (8 * (c.From.length:Int)≤140737488355328)&&decide ((c.From.length:Int)≤140737488355328)&&Nat.blt 0 1)<|.op 12 (BE 12 0 ((List.replicate ((c.From.length:Int)).toNat 0).map eI))<|.o _ (fun g_=>g_.2)<|.o (List.replicate ((c.From.length:Int)).toNat [(vI 0)]=(List.replicate ((c.From.length:Int)).toNat 0).map eI) (fun _=>kX eI _ 0)<|.bind 3000005 (iter (fun s=>jY n c s) n ((List.replicate ((c.From.length:Int)).toNat 0),0))<|fun t4 =>tX 3000005 (wK [1,3,4] [] 1) 10 (O6 n c) (fun g_=>g_.2)<|.bind 3000009 (iter (fun s=>jZ n c s) n (t4,0))<|fun t5 =>tX 3000009 (wK [1,3,5] [] 1) 10 (O9 n c) (fun g_=>g_.2)<|.ret t5
def Mj:List (Nat×PT):=[(3,(dn [0,1,2,3,4,5,6,7,8,9,10,11,12,13]))]
theorem sr (n:Nat) (v:ab) (a:Int) (b:Int):pC (bX n v a b) 71 [(bM ab.enc v),(vI a),(vI b)] (fun r=>.v (.bool r)):=tP Mj<|
.rg 1<|tB 11 (decide (a<0)) (.ret false)<|
tB 15 (decide (b<0)) (.ret false)<|
tL 19 Event.enc v.All<|tB 22 (decide (a≥(v.All.length:Int))) (.ret false)<|
tL 26 Event.enc v.All<|tB 28 (decide (b≥(v.All.length:Int))) (.ret false)<|
.rg 3<|tI 32 Event.enc v.All a<|fun x5 =>tI 37 Event.enc v.All b<|fun x6 =>.rg 4<|tB 44 (x5.Hart==x6.Hart) (tB 51 (decide (x5.At<x6.At)) (tC 53 (eh n x5)<|fun y9 =>tB 55 y9 (tC 57 (eh n x6)<|fun y11 =>.ret y11)<|
.ret false)<|
.ret false)<|
.ret false
theorem tJ (n:Nat) (part:Int) (e:Event):pC (pF n part e) 72 [(vI part),(bM Event.enc e)] (fun r=>.v (.bool r)):=tP []<|
.rg 1<|tB 9 ((cw .i64 (fG .i64 part 2) 2)==1) (tC 11 (b_ n e)<|fun y2 =>tB 13 y2 (.ret true)<|
tB 18 ((cw .i64 (fG .i64 part 1) 2)==1) (tC 20 (bc n e)<|fun y5 =>.ret y5)<|
.ret false)<|
tB 18 ((cw .i64 (fG .i64 part 1) 2)==1) (tC 20 (bc n e)<|fun y3 =>.ret y3)<|
.ret false
noncomputable def O_:Code:=sub (aF Tryz.prog 73) [1,0,1,0,0]
def Pb (l:(List Int)) (n_:Int) (sa:Int):St:=aW 18 [(0,.sl (l.map eI)),(1,(vI n_)),(5,(vI sa))] [] [] 0
def Pd (l:(List Int)) (n_:Int) (t0:(Unit⊕Unit)):Ex×St:=match t0 with | .inl tt=>(.ex 0,aW 18 [] [] [] 0) | .inr tt=>(.ret,aW 18 [(4,vT)] [] [] 0)
theorem Mk (n:Nat) (l:(List Int)) (n_:Int):lC (qB n l n_) O_ (Pb l n_) (Pd l n_):=tR [] 73 (nu (fun _=>h_) fun _=>nr) fun sa =>
.rg 2<|tL 8 eI l<|tB 9 (decide (sa<(l.length:Int))) (.rg 4<|tI 14 eI l sa<|fun xa2 =>tB 17 (xa2==n_) (.wk (wK [4] [] 0) l0<|.ret (.inr (.inr ())))<|
.wk (wK [0,1,5] [] 0) l0<|.ret (.inl (ac .i64 sa 1)))<|
.wk (wK [] [] 0) l0<|.ret (.inr (.inl ()))
theorem jR (n:Nat) (l:(List Int)) (n_:Int):pC (nP n l n_) 73 [.sl (l.map eI),(vI n_)] (fun r=>.v (.bool r)):=tP []<|
.bind 3000002 (iter (fun s=>qB n l n_ s) n 0)<|fun t1 =>.alt 3000002 t1 (fun w2 =>tX 3000002 (wK [0,1,5] [] 0) 73 (Mk n l n_) (fun g_=>(eS g_.1.2 g_.2))<|.ret false)<|
fun w2 =>tX 3000002 (wK [0,1,5] [] 0) 73 (Mk n l n_) (fun g_=>(eS g_.1.2 g_.2))<|.ret true
def Dl:List (Nat×PT):=[(3,(dn [0,1,2,3,4,5,6,7,8,9,10,11,12,13])),(11,(dn [0,1,2,3,4,5,6,7,8,9,10,11,12,13,14,15,16])),(13,(dn [0,1,2,3,4,5,6,7,8,9,10,11,12,13,14,15,16,17,18,19,20,21,22,23,24,25,26,27,28]))]
noncomputable def Pe:Code:=sub (aF Tryz.prog 57) [1,1,1,0,1,0,1,1,1,0,0,1,0,0]
noncomputable def Pf:Code:=sub (aF Tryz.prog 57) [1,1,1,0,1,0,1,1,1,1,1,1,1,0,1,0,0]
noncomputable def Pg:Code:=sub (aF Tryz.prog 57) [1,1,1,0,1,0,1,1,1,1,1,1,1,1,1,1,1,1,1,1,1,1,1,1,1,1,1,1,1,0,1,0,0]
noncomputable def Ph:Code:=sub (aF Tryz.prog 57) [1,1,1,0,1,0,1,1,1,1,1,1,1,1,1,1,1,1,1,1,1,1,1,1,1,1,1,1,1,1,1,0,1,0,0]
def Pi (v:ab) (a:Int) (b:Int) (x3:Event) (x4:Event) (sa:Int):St:=aW 290 [(1,(vI a)),(2,(vI b)),(4,.ptr (.L 4) 0 0),(9,.ptr (.L 9) 0 0),(10,.ptr (.L 10) 0 0),(11,(vI sa))] [(10,(Event.enc x4)),(9,(Event.enc x3)),(4,(ab.enc v))] [] 0
def Pj (v:ab) (a:Int) (b:Int) (x3:Event) (x4:Event) (t0:(Unit⊕Unit)):Ex×St:=match t0 with | .inl tt=>(.ex 1,aW 290 [(1,(vI a)),(2,(vI b)),(4,.ptr (.L 4) 0 0),(9,.ptr (.L 9) 0 0),(10,.ptr (.L 10) 0 0)] [(10,(Event.enc x4)),(9,(Event.enc x3)),(4,(ab.enc v))] [] 0) | .inr tt=>(.ret,aW 290 [(8,vF)] [] [] 0)
theorem Ml (n:Nat) (v:ab) (a:Int) (b:Int) (x3:Event) (x4:Event):lC (eP n v a b x3 x4) Pe (Pi v a b x3 x4) (Pj v a b x3 x4):=tR Dl 57 (nu (fun _=>h_) fun _=>nr) fun sa =>
.rg 9<|tB 51 (decide (sa<b)) (.rg 11<|tI 57 Event.enc v.All sa<|fun xa2 =>tC 59 (bc n xa2)<|fun ya3 =>tB 60 ya3 (tM 64 Event.enc (fun g_=>g_.1.1.2)<|tB 70 (xa2.Addr==x3.Addr) (.wk (wK [8] [10,9,4] 0) l0<|.ret (.inr (.inr ())))<|
.wk (wK [1,2,4,9,10,11] [] 0) l0<|.ret (.inl (ac .i64 sa 1)))<|
.wk (wK [1,2,4,9,10,11] [] 0) l0<|.ret (.inl (ac .i64 sa 1)))<|
.wk (wK [1,2,4,9,10] [] 0) l0<|.ret (.inr (.inl ()))
def Pk (v:ab) (b:Int) (x3:Event) (x4:Event) (sa:Int):St:=aW 290 [(2,(vI b)),(4,.ptr (.L 4) 0 0),(9,.ptr (.L 9) 0 0),(10,.ptr (.L 10) 0 0),(12,(vI sa))] [(10,(Event.enc x4)),(9,(Event.enc x3)),(4,(ab.enc v))] [] 0
def Pl (v:ab) (b:Int) (x3:Event) (x4:Event) (t0:(Unit⊕Unit)):Ex×St:=match t0 with | .inl tt=>(.ex 3,aW 290 [] [] [] 0) | .inr tt=>(.ret,aW 290 [(8,vT)] [] [] 0)
theorem Mm (n:Nat) (v:ab) (b:Int) (x3:Event) (x4:Event):lC (eQ n v b x3 x4) Pf (Pk v b x3 x4) (Pl v b x3 x4):=tR Dl 57 (nu (fun _=>h_) fun _=>nr) fun sa =>
.rg 18<|tB 129 (decide (sa<b)) (.rg 20<|tI 135 Event.enc v.All sa<|fun xa2 =>.rg 21<|tB 140 (xa2.Kind==6) (tC 144 (tJ n xa2.Pred x3)<|fun ya4 =>tB 146 ya4 (tC 150 (tJ n xa2.Succ x4)<|fun ya6 =>tB 151 ya6 (.wk (wK [8] [13,10,9,4] 0) l0<|.ret (.inr (.inr ())))<|
.wk (wK [2,4,9,10,12] [13] 0) l0<|.ret (.inl (ac .i64 sa 1)))<|
.wk (wK [2,4,9,10,12] [13] 0) l0<|.ret (.inl (ac .i64 sa 1)))<|
.wk (wK [2,4,9,10,12] [13] 0) l0<|.ret (.inl (ac .i64 sa 1)))<|
.wk (wK [] [10,9,4] 0) l0<|.ret (.inr (.inl ()))
def Pm (v:ab) (b:Int) (x3:Event) (x4:Event) (sa:Int):St:=aW 290 [(2,(vI b)),(4,.ptr (.L 4) 0 0),(9,.ptr (.L 9) 0 0),(10,.ptr (.L 10) 0 0),(14,(vI sa))] [(10,(Event.enc x4)),(9,(Event.enc x3)),(4,(ab.enc v))] [] 0
def Pn (v:ab) (b:Int) (x3:Event) (x4:Event) (t0:(Unit⊕Unit)):Ex×St:=match t0 with | .inl tt=>(.ex 5,aW 290 [] [] [] 0) | .inr tt=>(.ret,aW 290 [(8,vT)] [] [] 0)
theorem Mn (n:Nat) (v:ab) (b:Int) (x3:Event) (x4:Event):lC (eR n v b x3 x4) Pg (Pm v b x3 x4) (Pn v b x3 x4):=tR Dl 57 (nu (fun _=>h_) fun _=>nr) fun sa =>
.rg 39<|tB 222 (decide (sa<b)) (.rg 41<|tI 228 Event.enc v.All sa<|fun xa2 =>.rg 42<|tC 231 (b_ n x4)<|fun ya3 =>tB 232 ya3 (tI 237 eI v.C_.From b<|fun xa5 =>tB 242 (xa5==sa) (tC 244 (bc n xa2)<|fun ya7 =>tB 246 ya7 (tC 252 (jR n xa2.Deps.Addr x3.At)<|fun ya9 =>tB 253 ya9 (.wk (wK [8] [15,10,9,4] 0) l0<|.ret (.inr (.inr ())))<|
tC 259 (jR n xa2.Deps.Data x3.At)<|fun ya11 =>tB 261 ya11 (.wk (wK [8] [15,10,9,4] 0) l0<|.ret (.inr (.inr ())))<|
.wk (wK [2,4,9,10,14] [15] 0) l0<|.ret (.inl (ac .i64 sa 1)))<|
.wk (wK [2,4,9,10,14] [15] 0) l0<|.ret (.inl (ac .i64 sa 1)))<|
.wk (wK [2,4,9,10,14] [15] 0) l0<|.ret (.inl (ac .i64 sa 1)))<|
.wk (wK [2,4,9,10,14] [15] 0) l0<|.ret (.inl (ac .i64 sa 1)))<|
.wk (wK [] [10,9,4] 0) l0<|.ret (.inr (.inl ()))
def Po (v:ab) (b:Int) (x3:Event) (x4:Event) (sa:Int):St:=aW 290 [(2,(vI b)),(4,.ptr (.L 4) 0 0),(9,.ptr (.L 9) 0 0),(10,.ptr (.L 10) 0 0),(16,(vI sa))] [(10,(Event.enc x4)),(9,(Event.enc x3)),(4,(ab.enc v))] [] 0
def Pp (v:ab) (b:Int) (x3:Event) (x4:Event) (t0:(Unit⊕Unit)):Ex×St:=match t0 with | .inl tt=>(.ex 7,aW 290 [] [] [] 0) | .inr tt=>(.ret,aW 290 [(8,vT)] [] [] 0)
theorem Mo (n:Nat) (v:ab) (b:Int) (x3:Event) (x4:Event):lC (eT n v b x3 x4) Ph (Po v b x3 x4) (Pp v b x3 x4):=tR Dl 57 (nu (fun _=>h_) fun _=>nr) fun sa =>
.rg 46<|tB 268 (decide (sa<b)) (.rg 48<|tI 274 Event.enc v.All sa<|fun xa2 =>.rg 49<|tC 277 (bc n x4)<|fun ya3 =>tB 278 ya3 (tC 280 (eh n xa2)<|fun ya5 =>tB 282 ya5 (tC 288 (jR n xa2.Deps.Addr x3.At)<|fun ya7 =>tB 289 ya7 (.wk (wK [8] [17,10,9,4] 0) l0<|.ret (.inr (.inr ())))<|
.wk (wK [2,4,9,10,16] [17] 0) l0<|.ret (.inl (ac .i64 sa 1)))<|
.wk (wK [2,4,9,10,16] [17] 0) l0<|.ret (.inl (ac .i64 sa 1)))<|
.wk (wK [2,4,9,10,16] [17] 0) l0<|.ret (.inl (ac .i64 sa 1)))<|
.wk (wK [] [10,9,4] 0) l0<|.ret (.inr (.inl ()))
theorem l7 (n:Nat) (v:ab) (a:Int) (b:Int) (rule:Int):pC (cZ n v a b rule) 57 [(bM ab.enc v),(vI a),(vI b),(vI rule)] (fun r=>.v (.bool r)):=tP Dl<|
.rg 1<|tC 21 (sr n v a b)<|fun y1 =>tB 22 (!y1) (.ret false)<|
.rg 3<|tI 26 Event.enc v.All a<|fun x3 =>tI 31 Event.enc v.All b<|fun x4 =>.rg 5<|tB 34 (rule==1) (.rg 6<|tC 37 (bc n x4)<|fun y6 =>tB 38 y6 (.ret (x3.Addr==x4.Addr))<|
.ret false)<|
.rg 7<|tB 45 (rule==2) (.bind 3000009 (iter (fun s=>eP n v a b x3 x4 s) n (ac .i64 a 1))<|fun t7 =>.alt 3000009 t7 (fun w8 =>tX 3000009 (wK [1,2,4,9,10,11] [] 0) 57 (Ml n v a b x3 x4) (fun g_=>(eS g_.1.2 g_.2))<|.rg 13<|tC 72 (b_ n x3)<|fun y9 =>tB 73 y9 (tC 75 (b_ n x4)<|fun y11 =>tB 77 y11 (tB 84 (x3.Addr==x4.Addr) (tI 89 eI v.C_.From a<|fun x14 =>tI 95 eI v.C_.From b<|fun x15 =>.ret (x14 != x15))<|
.ret false)<|
.ret false)<|
.ret false)<|
fun w8 =>tX 3000009 (wK [1,2,4,9,10,11] [] 0) 57 (Ml n v a b x3 x4) (fun g_=>(eS g_.1.2 g_.2))<|.ret false)<|
.rg 14<|tB 99 (rule==3) (.rg 15<|tB 104 (x3.Kind==4) (tC 111 (b_ n x4)<|fun y9 =>tB 113 y9 (tI 118 eI v.C_.From b<|fun x11 =>.ret (x11==a))<|
.ret false)<|
tB 109 (x3.Kind==5) (tC 111 (b_ n x4)<|fun y10 =>tB 113 y10 (tI 118 eI v.C_.From b<|fun x12 =>.ret (x12==a))<|
.ret false)<|
.ret false)<|
.rg 16<|tB 123 (rule==4) (.bind 3000018 (iter (fun s=>eQ n v b x3 x4 s) n (ac .i64 a 1))<|fun t9 =>.alt 3000018 t9 (fun w10 =>tX 3000018 (wK [2,4,9,10,12] [] 0) 57 (Mm n v b x3 x4) (fun g_=>(eS g_.1.2 g_.2))<|.ret false)<|
fun w10 =>tX 3000018 (wK [2,4,9,10,12] [] 0) 57 (Mm n v b x3 x4) (fun g_=>(eS g_.1.2 g_.2))<|.ret true)<|
.rg 23<|tB 152 (rule==5) (.ret x3.Aq)<|
.rg 25<|tB 156 (rule==6) (.ret x4.Rl)<|
.rg 27<|tB 160 (rule==7) (.rg 28<|tB 164 x3.Aq (tB 171 x4.Aq (.ret true)<|
.ret x4.Rl)<|
tB 168 x3.Rl (tB 171 x4.Aq (.ret true)<|
.ret x4.Rl)<|
.ret false)<|
.rg 29<|tB 176 (rule==8) (.rg 30<|tB 181 (x4.Kind==4) (.ret (x4.Pair==x3.At))<|
.ret false)<|
.rg 31<|tB 188 (rule==9) (.rg 32<|tC 195 (jR n x4.Deps.Addr x3.At)<|fun y14 =>.ret y14)<|
.rg 33<|tB 196 (rule==10) (.rg 34<|tC 203 (jR n x4.Deps.Data x3.At)<|fun y15 =>.ret y15)<|
.rg 35<|tB 204 (rule==11) (.rg 36<|tC 207 (bc n x4)<|fun y16 =>tB 208 y16 (tC 214 (jR n x4.Deps.Way x3.At)<|fun y18 =>.ret y18)<|
.ret false)<|
.rg 37<|tB 216 (rule==12) (.bind 3000039 (iter (fun s=>eR n v b x3 x4 s) n (ac .i64 a 1))<|fun t17 =>.alt 3000039 t17 (fun w18 =>tX 3000039 (wK [2,4,9,10,14] [] 0) 57 (Mn n v b x3 x4) (fun g_=>(eS g_.1.2 g_.2))<|.ret false)<|
fun w18 =>tX 3000039 (wK [2,4,9,10,14] [] 0) 57 (Mn n v b x3 x4) (fun g_=>(eS g_.1.2 g_.2))<|.ret true)<|
.rg 44<|tB 262 (rule==13) (.bind 3000046 (iter (fun s=>eT n v b x3 x4 s) n (ac .i64 a 1))<|fun t18 =>.alt 3000046 t18 (fun w19 =>tX 3000046 (wK [2,4,9,10,16] [] 0) 57 (Mo n v b x3 x4) (fun g_=>(eS g_.1.2 g_.2))<|.ret false)<|
fun w19 =>tX 3000046 (wK [2,4,9,10,16] [] 0) 57 (Mo n v b x3 x4) (fun g_=>(eS g_.1.2 g_.2))<|.ret true)<|
.ret false
noncomputable def Pq:Code:=sub (aF Tryz.prog 32) [1,0,1,0,0]
def Pr (v:ab) (a:Int) (b:Int) (sa:Int):St:=aW 18 [(1,(vI a)),(2,(vI b)),(3,.ptr (.L 3) 0 0),(7,(vI sa))] [(3,(ab.enc v))] [] 0
def Ps (v:ab) (a:Int) (b:Int) (t0:(Unit⊕Int)):Ex×St:=match t0 with | .inl tt=>(.ex 0,aW 18 [] [] [] 0) | .inr tt=>(.ret,aW 18 [(6,(vI tt))] [] [] 0)
theorem Mp (n:Nat) (v:ab) (a:Int) (b:Int):lC (fp n v a b) Pq (Pr v a b) (Ps v a b):=tR [] 32 (nu (fun _=>h_) fun _=>nr) fun sa =>
.rg 2<|tB 9 (decide (sa≤13)) (.rg 4<|.bind 16 (cZ n v a b sa)<|fun ya2 =>.ite 16 ya2 (.op 16 (mI 16 (.v (.bool ya2)) (vT))<|.o _ (fun g_=>(l7 n v a b sa ya2 g_.1.2))<|.o _ (fun g_=>cB g_.2)<|.wk (wK [6] [3] 0) l0<|.ret (.inr (.inr sa)))<|
.op 16 (mI 16 (.v (.bool ya2)) (vF))<|.o _ (fun g_=>(l7 n v a b sa ya2 g_.1.2))<|.o _ (fun g_=>cB g_.2)<|.wk (wK [1,2,3,7] [] 0) l0<|.ret (.inl (ac .i64 sa 1)))<|
.wk (wK [] [3] 0) l0<|.ret (.inr (.inl ()))
theorem tK (n:Nat) (v:ab) (a:Int) (b:Int):pC (dL n v a b) 32 [(bM ab.enc v),(vI a),(vI b)] (fun r=>(vI r)):=tP []<|
.bind 3000002 (iter (fun s=>fp n v a b s) n 1)<|fun t1 =>.alt 3000002 t1 (fun w2 =>tX 3000002 (wK [1,2,3,7] [] 0) 32 (Mp n v a b) (fun g_=>(eS g_.1.2 g_.2))<|.ret 0)<|
fun w2 =>tX 3000002 (wK [1,2,3,7] [] 0) 32 (Mp n v a b) (fun g_=>(eS g_.1.2 g_.2))<|.ret w2
def H3:List (Nat×PT):=[(7,(dn [0,1,2,3,4,5,6,7,8,9,10,11,12,13,14,15,16,17,18,19]))]
noncomputable def Mq:Code:=sub (aF Tryz.prog 11) [1,1,1,0,1,0,0]
noncomputable def Pt:Code:=sub Mq [1,0,0,1,0,0]
def Pu (y1:ab×Bool) (sb:(List (bJ Int))×Int×Int):St:=aW 59 [(3,.ptr (.L 3) 0 0),(4,.v (.bool y1.2)),(5,.mf 0),(6,(vI sb.2.1)),(7,(vI sb.2.2)),(19,.v (.bool y1.2))] [(3,(ab.enc y1.1))] [.arr true 2 (sb.1.map (eA eI))] 0
def Pv (y1:ab×Bool) (tt:((List (bJ Int))×Int)):Ex×St:=(.ex 2,aW 59 [(3,.ptr (.L 3) 0 0),(4,.v (.bool y1.2)),(5,.mf 0),(6,(vI tt.2)),(19,.v (.bool y1.2))] [(3,(ab.enc y1.1))] [.arr true 2 (tt.1.map (eA eI))] 0)
theorem Pw (n:Nat) (y1:ab×Bool):lC (kS n y1) Pt (Pu y1) (Pv y1):=tR H3 11 (fun _=>h_) fun sb =>
.rg 7<|tL 28 Event.enc y1.1.All<|tB 30 (decide (sb.2.2<(y1.1.All.length:Int))) (tI 34 Event.enc y1.1.All sb.2.2<|fun xb2 =>tI 40 Event.enc y1.1.All sb.2.1<|fun xb3 =>tB 44 (xb2.Hart==xb3.Hart) (.rg 9<|tC 50 (tK n y1.1 sb.2.1 sb.2.2)<|fun yb5 =>tB 51 (decide (yb5>0)) (.rg 10<|tG 57 (Nat.ble ((sb.1.length + 1) * 16) 140737488355328)<|.op 57 (BE 57 0 ((sb.1++([(bJ.mk sb.2.1 sb.2.2)]:List (bJ Int))).map (eA eI)))<|.o (gx 2 [[(vI sb.2.1),(vI sb.2.2)]]=true) (fun _=>rfl)<|.o (bh [[(vI sb.2.1),(vI sb.2.2)]]=true) (fun _=>rfl)<|.o (Nat.ble (((sb.1.map (eA eI)).length + 1) * 16) 140737488355328=true) (fun g_=>gR g_.2)<|.o _ (fun _=>j8 (eA eI) sb.1 ([(bJ.mk sb.2.1 sb.2.2)]:List (bJ Int)))<|.wk (wK [3,4,5,6,7,19] [] 1) l0<|.ret (.inl ((sb.1++([(bJ.mk sb.2.1 sb.2.2)]:List (bJ Int))),sb.2.1,(ac .i64 sb.2.2 1))))<|
.wk (wK [3,4,5,6,7,19] [] 1) l0<|.ret (.inl (sb.1,sb.2.1,(ac .i64 sb.2.2 1))))<|
.wk (wK [3,4,5,6,19] [] 1) l0<|.ret (.inr (sb.1,sb.2.1)))<|
.wk (wK [3,4,5,6,19] [] 1) l0<|.ret (.inr (sb.1,sb.2.1))
def Px (y1:ab×Bool) (sa:(List (bJ Int))×Int):St:=aW 59 [(3,.ptr (.L 3) 0 0),(4,.v (.bool y1.2)),(5,.mf 0),(6,(vI sa.2))] [(3,(ab.enc y1.1))] [.arr true 2 (sa.1.map (eA eI))] 0
def Py (y1:ab×Bool) (tt:((List (bJ Int)))):Ex×St:=(.ex 0,aW 59 [(5,.mf 0)] [] [.arr true 2 (tt.map (eA eI))] 0)
theorem Pz (n:Nat) (y1:ab×Bool):lC (iV n y1) Mq (Px y1) (Py y1):=tR H3 11 (fun _=>h_) fun sa =>
.rg 4<|tL 16 Event.enc y1.1.All<|tB 18 (decide (sa.2<(y1.1.All.length:Int))) (tB 20 y1.2 (.bind 3000007 (iter (fun s=>kS n y1 s) n (sa.1,sa.2,(ac .i64 sa.2 1)))<|fun ta3 =>tX 3000007 (wK [3,4,5,6,7,19] [] 1) 11 (Pw n y1) (fun g_=>g_.2)<|.wk (wK [3,4,5,6] [] 1) l0<|.ret (.inl (ta3.1,(ac .i64 ta3.2 1))))<|
.wk (wK [5] [3] 1) l0<|.ret (.inr sa.1))<|
.wk (wK [5] [3] 1) l0<|.ret (.inr sa.1)
theorem zu (n:Nat) (c:af):pC (qC n c) 11 [(bM af.enc c)] (fun r=>.sl (r.map (eA eI))):=tP H3<|
.rg 1<|tC 10 (sq n c)<|fun y1 =>.bind 3000004 (iter (fun s=>iV n y1 s) n (([]:List (bJ Int)),0))<|fun t2 =>tX 3000004 ⟨[3,4,5,6],[1],0,[(5,2)],[],[]⟩ 11 (Pz n y1) (fun g_=>g_.2)<|.ret t2
def JU:List (Nat×PT):=[(8,(dn [0,1,2,3,4,5,6,7,8,9,10,11,12,13,14,15,16,17,18,19,20,21,22,23,24,25,26]))]
noncomputable def PC:Code:=sub (aF Tryz.prog 44) [1,1,0,1,0,0]
def PD (v:ab) (places:(List Int)) (n_:Int) (x1:Event) (sa:Int×Int):St:=aW 85 [(1,.sl (places.map eI)),(2,(vI n_)),(3,.ptr (.L 3) 0 0),(7,.ptr (.L 7) 0 0),(8,(vI sa.1)),(9,(vI sa.2))] [(7,(Event.enc x1)),(3,(ab.enc v))] [] 0
def PE (v:ab) (places:(List Int)) (n_:Int) (x1:Event) (tt:Int):Ex×St:=(.ex 0,aW 85 [(8,(vI tt))] [] [] 0)
theorem PF (n:Nat) (v:ab) (places:(List Int)) (n_:Int) (x1:Event):lC (j0 n v places n_ x1) PC (PD v places n_ x1) (PE v places n_ x1):=tR JU 44 (fun _=>h_) fun sa =>
.rg 3<|tL 20 Event.enc v.All<|tB 21 (decide (sa.2<(v.All.length:Int))) (.rg 5<|tI 27 Event.enc v.All sa.2<|fun xa2 =>.rg 6<|tB 32 (sa.2==n_) (.wk (wK [1,2,3,7,8,9] [10] 0) l0<|.ret (.inl (sa.1,(ac .i64 sa.2 1))))<|
tC 34 (bc n xa2)<|fun ya4 =>tB 37 (!ya4) (.wk (wK [1,2,3,7,8,9] [10] 0) l0<|.ret (.inl (sa.1,(ac .i64 sa.2 1))))<|
tB 43 (xa2.Addr != x1.Addr) (.wk (wK [1,2,3,7,8,9] [10] 0) l0<|.ret (.inl (sa.1,(ac .i64 sa.2 1))))<|
.rg 7<|tB 49 (xa2.Hart==x1.Hart) (.rg 8<|tB 57 (decide (xa2.At<x1.At)) (tB 71 (decide (sa.1<0)) (.wk (wK [1,2,3,7,8,9] [10] 0) l0<|.ret (.inl (sa.2,(ac .i64 sa.2 1))))<|
tI 74 eI places sa.1<|fun xa10 =>tI 78 eI places sa.2<|fun xa11 =>tB 82 (decide (xa10<xa11)) (.wk (wK [1,2,3,7,8,9] [10] 0) l0<|.ret (.inl (sa.2,(ac .i64 sa.2 1))))<|
.wk (wK [1,2,3,7,8,9] [10] 0) l0<|.ret (.inl (sa.1,(ac .i64 sa.2 1))))<|
tI 60 eI places sa.2<|fun xa9 =>tI 64 eI places n_<|fun xa10 =>tB 68 (decide (xa9<xa10)) (tB 71 (decide (sa.1<0)) (.wk (wK [1,2,3,7,8,9] [10] 0) l0<|.ret (.inl (sa.2,(ac .i64 sa.2 1))))<|
tI 74 eI places sa.1<|fun xa13 =>tM 78 eI (fun g_=>g_.1.1.1.1.2)<|tB 82 (decide (xa13<xa9)) (.wk (wK [1,2,3,7,8,9] [10] 0) l0<|.ret (.inl (sa.2,(ac .i64 sa.2 1))))<|
.wk (wK [1,2,3,7,8,9] [10] 0) l0<|.ret (.inl (sa.1,(ac .i64 sa.2 1))))<|
.wk (wK [1,2,3,7,8,9] [10] 0) l0<|.ret (.inl (sa.1,(ac .i64 sa.2 1))))<|
.rg 8<|tI 60 eI places sa.2<|fun xa8 =>tI 64 eI places n_<|fun xa9 =>tB 68 (decide (xa8<xa9)) (tB 71 (decide (sa.1<0)) (.wk (wK [1,2,3,7,8,9] [10] 0) l0<|.ret (.inl (sa.2,(ac .i64 sa.2 1))))<|
tI 74 eI places sa.1<|fun xa12 =>tM 78 eI (fun g_=>g_.1.1.1.1.2)<|tB 82 (decide (xa12<xa8)) (.wk (wK [1,2,3,7,8,9] [10] 0) l0<|.ret (.inl (sa.2,(ac .i64 sa.2 1))))<|
.wk (wK [1,2,3,7,8,9] [10] 0) l0<|.ret (.inl (sa.1,(ac .i64 sa.2 1))))<|
.wk (wK [1,2,3,7,8,9] [10] 0) l0<|.ret (.inl (sa.1,(ac .i64 sa.2 1))))<|
.wk (wK [8] [7,3] 0) l0<|.ret (.inr sa.1)
theorem ql (n:Nat) (v:ab) (places:(List Int)) (n_:Int):pC (jI n v places n_) 44 [(bM ab.enc v),.sl (places.map eI),(vI n_)] (fun r=>(vI r)):=tP JU<|
.rg 1<|tI 15 Event.enc v.All n_<|fun x1 =>.bind 3000003 (iter (fun s=>j0 n v places n_ x1 s) n ((-1),0))<|fun t2 =>tX 3000003 (wK [1,2,3,7,8,9] [] 0) 44 (PF n v places n_ x1) (fun g_=>g_.2)<|.ret t2
def JV:List (Nat×PT):=[(12,(dn [0,1,2,3,4,5,6,7,8,9,10,11])),(14,(dn [0,1,2,3,4,5,6,7,8]))]
noncomputable def PG:Code:=sub (aF Tryz.prog 45) [1,1,1,1,1,1,0,1,0,0]
def PH (v:ab) (places:(List Int)) (n_:Int) (x1:Event) (sa:Int):St:=aW 90 [(1,.sl (places.map eI)),(2,(vI n_)),(3,.ptr (.L 3) 0 0),(8,.ptr (.L 8) 0 0),(9,(vI (aJ .i64 n_ (aJ .i64 x1.At x1.Pair)))),(12,(vI sa))] [(8,(Event.enc x1)),(3,(ab.enc v))] [] 0
def PI (v:ab) (places:(List Int)) (n_:Int) (x1:Event) (t0:(Unit⊕Int)):Ex×St:=match t0 with | .inl tt=>(.ex 0,aW 90 [(9,(vI (aJ .i64 n_ (aJ .i64 x1.At x1.Pair))))] [] [] 0) | .inr tt=>(.ret,aW 90 [(6,(vI (aJ .i64 n_ (aJ .i64 x1.At x1.Pair)))),(7,(vI tt))] [] [] 0)
theorem Ji (n:Nat) (v:ab) (places:(List Int)) (n_:Int) (x1:Event):lC (c_ n v places n_ x1) PG (PH v places n_ x1) (PI v places n_ x1):=tR JV 45 (nu (fun _=>h_) fun _=>nr) fun sa =>
.rg 10<|tI 51 eI places n_<|fun xa1 =>tB 53 (decide (sa<xa1)) (.rg 12<|tI 62 eI v.C_.Order sa<|fun xa3 =>tI 64 Event.enc v.All xa3<|fun xa4 =>.rg 13<|tB 71 (xa4.Hart != x1.Hart) (tC 73 (bc n xa4)<|fun ya6 =>tB 75 ya6 (tB 81 (xa4.Addr==x1.Addr) (.rg 14<|tM 87 eI (fun g_=>g_.1.1.1.1.1.2)<|.wk (wK [6,7] [13,8,3] 0) l0<|.ret (.inr (.inr xa3)))<|
.wk (wK [1,2,3,8,9,12] [13] 0) l0<|.ret (.inl (ac .i64 sa 1)))<|
.wk (wK [1,2,3,8,9,12] [13] 0) l0<|.ret (.inl (ac .i64 sa 1)))<|
.wk (wK [1,2,3,8,9,12] [13] 0) l0<|.ret (.inl (ac .i64 sa 1)))<|
.wk (wK [9] [8,3] 0) l0<|.ret (.inr (.inl ()))
theorem BL (n:Nat) (v:ab) (places:(List Int)) (n_:Int):pC (sH n v places n_) 45 [(bM ab.enc v),.sl (places.map eI),(vI n_)] (fun r=>.tup [(vI r.1),(vI r.2)]):=tP JV<|
.rg 1<|tI 17 Event.enc v.All n_<|fun x1 =>.rg 3<|tI 30 eI v.C_.From (aJ .i64 n_ (aJ .i64 x1.At x1.Pair))<|fun x2 =>.rg 5<|tB 33 (decide (x2≥0)) (.rg 6<|tI 36 eI places x2<|fun x4 =>.rg 7<|tI 41 eI places n_<|fun x5 =>tB 43 (decide (x4≥x5)) (.ret ((aJ .i64 n_ (aJ .i64 x1.At x1.Pair)),x2))<|
.bind 3000010 (iter (fun s=>c_ n v places n_ x1 s) n (ac .i64 x4 1))<|fun t7 =>.alt 3000010 t7 (fun w8 =>tX 3000010 (wK [1,2,3,8,9,12] [] 0) 45 (Ji n v places n_ x1) (fun g_=>(eS g_.1.2 g_.2))<|.ret ((aJ .i64 n_ (aJ .i64 x1.At x1.Pair)),(-1)))<|
fun w8 =>tX 3000010 (wK [1,2,3,8,9,12] [] 0) 45 (Ji n v places n_ x1) (fun g_=>(eS g_.1.2 g_.2))<|.ret ((aJ .i64 n_ (aJ .i64 x1.At x1.Pair)),w8))<|
.bind 3000010 (iter (fun s=>c_ n v places n_ x1 s) n 0)<|fun t4 =>.alt 3000010 t4 (fun w5 =>tX 3000010 (wK [1,2,3,8,9,12] [] 0) 45 (Ji n v places n_ x1) (fun g_=>(eS g_.1.2 g_.2))<|.ret ((aJ .i64 n_ (aJ .i64 x1.At x1.Pair)),(-1)))<|
fun w5 =>tX 3000010 (wK [1,2,3,8,9,12] [] 0) 45 (Ji n v places n_ x1) (fun g_=>(eS g_.1.2 g_.2))<|.ret ((aJ .i64 n_ (aJ .i64 x1.At x1.Pair)),w5)
def Fw:List (Nat×PT):=[(9,(dn [0,1,2,3,4,5,6,7,8,9,10,11,12,13,14,15,16])),(10,(dn [0,1,2,3,4,5,6,7,8,9,10,11]))]
noncomputable def PK:Code:=sub (aF Tryz.prog 21) [1,1,1,1,1,0,1,0,0]
noncomputable def PL:Code:=sub (aF Tryz.prog 21) [1,1,1,1,1,1,0,1,0,0]
noncomputable def PM:Code:=sub (aF Tryz.prog 21) [1,1,1,1,1,1,1,0,1,0,0]
def PN (c:af) (y1:ab×Bool) (y3:(List Int)) (y4:(List (bJ Int))) (sa:Int):St:=aW 114 [(1,.ptr (.L 1) 0 0),(2,.ptr (.L 2) 0 0),(3,.ptr (.L 3) 0 0),(5,.sl (y3.map eI)),(6,.sl (y4.map (eA eI))),(7,(vI sa))] [(3,(ab.enc y1.1)),(2,[vF,(vI 0),(vI 0),(vI 0)]),(1,(af.enc c))] [] 0
def PO (c:af) (y1:ab×Bool) (y3:(List Int)) (y4:(List (bJ Int))) (t0:(Unit⊕(Bool×Int×Int×Int))):Ex×St:=match t0 with | .inl tt=>(.ex 0,aW 114 [(1,.ptr (.L 1) 0 0),(2,.ptr (.L 2) 0 0),(3,.ptr (.L 3) 0 0),(5,.sl (y3.map eI))] [(3,(ab.enc y1.1)),(2,[vF,(vI 0),(vI 0),(vI 0)]),(1,(af.enc c))] [] 0) | .inr tt=>(.ret,aW 114 [(2,.ptr (.L 2) 0 0)] [(2,[.v (.bool tt.1),(vI tt.2.1),(vI tt.2.2.1),(vI tt.2.2.2)])] [] 0)
theorem Mr (n:Nat) (c:af) (y1:ab×Bool) (y3:(List Int)) (y4:(List (bJ Int))):lC (eU n c y1 y3 y4) PK (PN c y1 y3 y4) (PO c y1 y3 y4):=tR Fw 21 (nu (fun _=>h_) fun _=>nr) fun sa =>
.rg 7<|tL 27 (eA eI) y4<|tB 28 (decide (sa<(y4.length:Int))) (.rg 9<|.bind 34 (ak y4 sa)<|fun xa2 =>.op 34 (rA 34 [(vI xa2.e0),(vI xa2.e1)])<|.o (Gl (y4.map (eA eI)) sa=some [(vI xa2.e0),(vI xa2.e1)]) (fun g_=>sj (eA eI) g_.2)<|tI 37 eI y3 xa2.e0<|fun xa3 =>.op 42 (rA 42 [(vI xa2.e0),(vI xa2.e1)])<|.o (Gl (y4.map (eA eI)) sa=some [(vI xa2.e0),(vI xa2.e1)]) (fun g_=>sj (eA eI) g_.1.2)<|tI 45 eI y3 xa2.e1<|fun xa4 =>tB 47 (decide (xa3>xa4)) (.rg 10<|.op 50 (rA 50 [(vI xa2.e0),(vI xa2.e1)])<|.o (Gl (y4.map (eA eI)) sa=some [(vI xa2.e0),(vI xa2.e1)]) (fun g_=>sj (eA eI) g_.1.1.1.2)<|.op 55 (rA 55 [(vI xa2.e0),(vI xa2.e1)])<|.o (Gl (y4.map (eA eI)) sa=some [(vI xa2.e0),(vI xa2.e1)]) (fun g_=>sj (eA eI) g_.1.1.1.2)<|tC 58 (mN n 2 xa2.e0 xa2.e1)<|fun ya6 =>.wk (wK [2] [3,1] 0) l0<|.ret (.inr (.inr (ya6.OK,ya6.Why,ya6.A_,ya6.B))))<|
.wk (wK [1,2,3,5,6,7] [] 0) l0<|.ret (.inl (ac .i64 sa 1)))<|
.wk (wK [1,2,3,5] [] 0) l0<|.ret (.inr (.inl ()))
def PP (c:af) (y1:ab×Bool) (y3:(List Int)) (sa:Int):St:=aW 114 [(1,.ptr (.L 1) 0 0),(2,.ptr (.L 2) 0 0),(3,.ptr (.L 3) 0 0),(5,.sl (y3.map eI)),(8,(vI sa))] [(3,(ab.enc y1.1)),(2,[vF,(vI 0),(vI 0),(vI 0)]),(1,(af.enc c))] [] 0
def PR (c:af) (y1:ab×Bool) (y3:(List Int)) (t0:(Unit⊕(Bool×Int×Int×Int))):Ex×St:=match t0 with | .inl tt=>(.ex 2,aW 114 [(2,.ptr (.L 2) 0 0),(3,.ptr (.L 3) 0 0),(5,.sl (y3.map eI))] [(3,(ab.enc y1.1)),(2,[vF,(vI 0),(vI 0),(vI 0)])] [] 0) | .inr tt=>(.ret,aW 114 [(2,.ptr (.L 2) 0 0)] [(2,[.v (.bool tt.1),(vI tt.2.1),(vI tt.2.2.1),(vI tt.2.2.2)])] [] 0)
theorem Ms (n:Nat) (c:af) (y1:ab×Bool) (y3:(List Int)):lC (dD n c y1 y3) PL (PP c y1 y3) (PR c y1 y3):=tR Fw 21 (nu (fun _=>h_) fun _=>nr) fun sa =>
.rg 12<|tL 62 Event.enc y1.1.All<|tB 63 (decide (sa<(y1.1.All.length:Int))) (.rg 14<|tI 69 Event.enc y1.1.All sa<|fun xa2 =>tC 71 (b_ n xa2)<|fun ya3 =>tB 72 (!ya3) (.wk (wK [1,2,3,5,8] [] 0) l0<|.ret (.inl (ac .i64 sa 1)))<|
.rg 15<|tC 76 (ql n y1.1 y3 sa)<|fun ya5 =>.rg 16<|tI 81 eI c.From sa<|fun xa6 =>tB 83 (ya5 != xa6) (.rg 17<|tC 86 (mN n 3 sa ya5)<|fun ya8 =>.wk (wK [2] [3,1] 0) l0<|.ret (.inr (.inr (ya8.OK,ya8.Why,ya8.A_,ya8.B))))<|
.wk (wK [1,2,3,5,8] [] 0) l0<|.ret (.inl (ac .i64 sa 1)))<|
.wk (wK [2,3,5] [1] 0) l0<|.ret (.inr (.inl ()))
def PS (y1:ab×Bool) (y3:(List Int)) (sa:Int):St:=aW 114 [(2,.ptr (.L 2) 0 0),(3,.ptr (.L 3) 0 0),(5,.sl (y3.map eI)),(10,(vI sa))] [(3,(ab.enc y1.1)),(2,[vF,(vI 0),(vI 0),(vI 0)])] [] 0
def PU (y1:ab×Bool) (y3:(List Int)) (t0:(Unit⊕(Bool×Int×Int×Int))):Ex×St:=match t0 with | .inl tt=>(.ex 4,aW 114 [(2,.ptr (.L 2) 0 0)] [(2,[vF,(vI 0),(vI 0),(vI 0)])] [] 0) | .inr tt=>(.ret,aW 114 [(2,.ptr (.L 2) 0 0)] [(2,[.v (.bool tt.1),(vI tt.2.1),(vI tt.2.2.1),(vI tt.2.2.2)])] [] 0)
theorem Mt (n:Nat) (y1:ab×Bool) (y3:(List Int)):lC (dE n y1 y3) PM (PS y1 y3) (PU y1 y3):=tR Fw 21 (nu (fun _=>h_) fun _=>nr) fun sa =>
.rg 19<|tL 90 Event.enc y1.1.All<|tB 91 (decide (sa<(y1.1.All.length:Int))) (.rg 21<|tI 97 Event.enc y1.1.All sa<|fun xa2 =>tB 100 (xa2.Kind != 4) (.wk (wK [2,3,5,10] [] 0) l0<|.ret (.inl (ac .i64 sa 1)))<|
.rg 22<|tC 105 (BL n y1.1 y3 sa)<|fun ya4 =>.rg 23<|tB 109 (decide (ya4.2≥0)) (.rg 24<|tC 112 (mN n 4 ya4.1 ya4.2)<|fun ya6 =>.wk (wK [2] [3] 0) l0<|.ret (.inr (.inr (ya6.OK,ya6.Why,ya6.A_,ya6.B))))<|
.wk (wK [2,3,5,10] [] 0) l0<|.ret (.inl (ac .i64 sa 1)))<|
.wk (wK [2] [3] 0) l0<|.ret (.inr (.inl ()))
theorem rz (n:Nat) (c:af):pC (nd n c) 21 [(bM af.enc c)] (fun r=>(bM aC.enc r)):=tP Fw<|
.rg 1<|tC 15 (sq n c)<|fun y1 =>.rg 2<|tB 19 (!y1.2) (.rg 3<|tC 20 (mN n 1 (-1) (-1))<|fun y3 =>.ret y3)<|
.rg 4<|tC 22 (qk n c)<|fun y3 =>.rg 5<|tC 24 (zu n c)<|fun y4 =>.bind 3000007 (iter (fun s=>eU n c y1 y3 y4 s) n 0)<|fun t5 =>.alt 3000007 t5 (fun w6 =>tX 3000007 (wK [1,2,3,5,6,7] [] 0) 21 (Mr n c y1 y3 y4) (fun g_=>(eS g_.1.2 g_.2))<|.bind 3000012 (iter (fun s=>dD n c y1 y3 s) n 0)<|fun t7 =>.alt 3000012 t7 (fun w8 =>tX 3000012 (wK [1,2,3,5,8] [] 0) 21 (Ms n c y1 y3) (fun g_=>(eS g_.1.2 g_.2))<|.bind 3000019 (iter (fun s=>dE n y1 y3 s) n 0)<|fun t9 =>.alt 3000019 t9 (fun w10 =>tX 3000019 (wK [2,3,5,10] [] 0) 21 (Mt n y1 y3) (fun g_=>(eS g_.1.2 g_.2))<|.ret (aC.mk true 0 (-1) (-1)))<|
fun w10 =>tX 3000019 (wK [2,3,5,10] [] 0) 21 (Mt n y1 y3) (fun g_=>(eS g_.1.2 g_.2))<|.ret (aC.mk w10.1 w10.2.1 w10.2.2.1 w10.2.2.2))<|
fun w8 =>tX 3000012 (wK [1,2,3,5,8] [] 0) 21 (Ms n c y1 y3) (fun g_=>(eS g_.1.2 g_.2))<|.ret (aC.mk w8.1 w8.2.1 w8.2.2.1 w8.2.2.2))<|
fun w6 =>tX 3000007 (wK [1,2,3,5,6,7] [] 0) 21 (Mr n c y1 y3 y4) (fun g_=>(eS g_.1.2 g_.2))<|.ret (aC.mk w6.1 w6.2.1 w6.2.2.1 w6.2.2.2)
theorem BM (n:Nat) (c:af):pC (wE n c) 9 [(bM af.enc c)] (fun r=>.v (.bool r)):=tP []<|
.rg 1<|tC 4 (iv n c)<|fun y1 =>.ret y1.OK
theorem EB (n:Nat) (c:af):pC (DF n c) 22 [(bM af.enc c)] (fun r=>.v (.bool r)):=tP []<|
.rg 1<|tC 4 (rz n c)<|fun y1 =>.ret y1.OK
noncomputable def PV:Code:=sub (aF Tryz.prog 47) [1,1,1,0,1,0,0]
def PW (n_:Int) (oA:(List Cell)) (oB:(List (List Event))) (oC:(List Int)) (oD:(List Int)) (oE:(List (Int×(List Int)))) (oF:(List Event)) (oG:(List Int)) (x1:Event) (sa:(List Int)×Int):St:=aW 84 [(0,.ptr (.O 2) 0 0),(1,(vI n_)),(5,.ptr (.L 5) 0 0),(6,.sl (sa.1.map eI)),(7,(vI sa.2))] [(5,(Event.enc x1))] [.arr true 4 [[.sl (oA.map Cell.enc),.sl (oB.map (dT Event.enc)),.sl (oC.map eI),.sl (oD.map eI)]],.mapo true (oE.map (nJ (dl .u64) (py eI))),.arr false 4 [[.ptr (.O 0) 0 0,.sl (oF.map Event.enc),.sl (oG.map eI),.mp 1]]] 3
def H4 (n_:Int) (oA:(List Cell)) (oB:(List (List Event))) (oC:(List Int)) (oD:(List Int)) (oE:(List (Int×(List Int)))) (oF:(List Event)) (oG:(List Int)) (x1:Event) (t0:(Unit⊕Int)):Ex×St:=match t0 with | .inl tt=>(.ex 0,aW 84 [] [] [.arr true 4 [[.sl (oA.map Cell.enc),.sl (oB.map (dT Event.enc)),.sl (oC.map eI),.sl (oD.map eI)]],.mapo true (oE.map (nJ (dl .u64) (py eI))),.arr false 4 [[.ptr (.O 0) 0 0,.sl (oF.map Event.enc),.sl (oG.map eI),.mp 1]]] 3) | .inr tt=>(.ret,aW 84 [(4,(vI tt))] [] [.arr true 4 [[.sl (oA.map Cell.enc),.sl (oB.map (dT Event.enc)),.sl (oC.map eI),.sl (oD.map eI)]],.mapo true (oE.map (nJ (dl .u64) (py eI))),.arr false 4 [[.ptr (.O 0) 0 0,.sl (oF.map Event.enc),.sl (oG.map eI),.mp 1]]] 3)
theorem Jj (n:Nat) (n_:Int) (oA:(List Cell)) (oB:(List (List Event))) (oC:(List Int)) (oD:(List Int)) (oE:(List (Int×(List Int)))) (oF:(List Event)) (oG:(List Int)) (x1:Event):lC (bY n n_ oA oB oC oD oE oF oG x1) PV (PW n_ oA oB oC oD oE oF oG x1) (H4 n_ oA oB oC oD oE oF oG x1):=tR Fv 47 (nu (fun _=>h_) fun _=>nr) fun sa =>
.rg 4<|tB 27 (decide (sa.2≥0)) (.rg 6<|tI 36 eI sa.1 sa.2<|fun xa2 =>tI 38 Event.enc oF xa2<|fun xa3 =>.rg 7<|tM 42 eI (fun g_=>g_.1.2)<|tB 46 (xa2 != n_) (tM 53 eI (fun g_=>g_.1.1.2)<|tI 55 eI oG xa2<|fun xa5 =>tI 62 eI oG n_<|fun xa6 =>tB 65 (decide (xa5<xa6)) (.rg 8<|tM 82 eI (fun g_=>g_.1.1.1.1.1.2)<|.wk (wK [4] [8,5] 3) l0<|.ret (.inr (.inr xa2)))<|
tB 71 (xa3.Hart==x1.Hart) (tB 79 (decide (xa3.At<x1.At)) (.rg 8<|tM 82 eI (fun g_=>g_.1.1.1.1.1.1.1.2)<|.wk (wK [4] [8,5] 3) l0<|.ret (.inr (.inr xa2)))<|
.wk (wK [0,1,5,6,7] [8] 3) l0<|.ret (.inl (sa.1,(aJ .i64 sa.2 1))))<|
.wk (wK [0,1,5,6,7] [8] 3) l0<|.ret (.inl (sa.1,(aJ .i64 sa.2 1))))<|
.wk (wK [0,1,5,6,7] [8] 3) l0<|.ret (.inl (sa.1,(aJ .i64 sa.2 1))))<|
.wk (wK [] [5] 3) l0<|.ret (.inr (.inl ()))
def nF (n_:Int) (oA:(List Cell)) (oB:(List (List Event))) (oC:(List Int)) (oD:(List Int)) (oE:(List (Int×(List Int)))) (oF:(List Event)) (oG:(List Int)) (y:Int):AV×List Ob:=((vI y),[.arr true 4 [[.sl (oA.map Cell.enc),.sl (oB.map (dT Event.enc)),.sl (oC.map eI),.sl (oD.map eI)]],.mapo true (oE.map (nJ (dl .u64) (py eI))),.arr false 4 [[.ptr (.O 0) 0 0,.sl (oF.map Event.enc),.sl (oG.map eI),.mp 1]]])
theorem md (n:Nat) (n_:Int) (oA:(List Cell)) (oB:(List (List Event))) (oC:(List Int)) (oD:(List Int)) (oE:(List (Int×(List Int)))) (oF:(List Event)) (oG:(List Int)):sC (gm n n_ oA oB oC oD oE oF oG) 47 [.ptr (.O 2) 0 0,(vI n_)] [.arr true 4 [[.sl (oA.map Cell.enc),.sl (oB.map (dT Event.enc)),.sl (oC.map eI),.sl (oD.map eI)]],.mapo true (oE.map (nJ (dl .u64) (py eI))),.arr false 4 [[.ptr (.O 0) 0 0,.sl (oF.map Event.enc),.sl (oG.map eI),.mp 1]]] (nF n_ oA oB oC oD oE oF oG):=tD Fv<|
.rg 1<|tI 14 Event.enc oF n_<|fun x1 =>.rg 2<|.opt 22 (jn ey oE x1.Addr) (.op 22 (cA 22 (.nilsl))<|.o _ (fun g_=>oH oE x1.Addr g_.2)<|.bind 3000004 (iter (fun s=>bY n n_ oA oB oC oD oE oF oG x1 s) n (([]:List Int),(-1)))<|fun t3 =>.alt 3000004 t3 (fun w4 =>.lp 3000004 (wK [0,1,5,6,7] [] 3) ⟨[(6,.sl (([]:List Int).map eI))],[],[]⟩ (H4 n_ oA oB oC oD oE oF oG x1 (.inl w4)).1 (H4 n_ oA oB oC oD oE oF oG x1 (.inl w4)).2<|.o (b9 (.nilsl) (.sl (([]:List Int).map eI))) (fun _=>b9.nil)<|oX (qT 47) (Jj n n_ oA oB oC oD oE oF oG x1) (fun g_=>(eS g_.1.2 g_.2))<|.ret (-1))<|
fun w4 =>.lp 3000004 (wK [0,1,5,6,7] [] 3) ⟨[(6,.sl (([]:List Int).map eI))],[],[]⟩ (H4 n_ oA oB oC oD oE oF oG x1 (.inr w4)).1 (H4 n_ oA oB oC oD oE oF oG x1 (.inr w4)).2<|.o (b9 (.nilsl) (.sl (([]:List Int).map eI))) (fun _=>b9.nil)<|oX (qT 47) (Jj n n_ oA oB oC oD oE oF oG x1) (fun g_=>(eS g_.1.2 g_.2))<|.ret w4)<|
fun z2 =>.op 22 (cA 22 (.sl (z2.map eI)))<|.o _ (fun g_=>oI oE x1.Addr g_.2)<|.rg 3<|tL 24 eI z2<|.bind 3000004 (iter (fun s=>bY n n_ oA oB oC oD oE oF oG x1 s) n (z2,(aJ .i64 (z2.length:Int) 1)))<|fun t4 =>.alt 3000004 t4 (fun w5 =>tX 3000004 (wK [0,1,5,6,7] [] 3) 47 (Jj n n_ oA oB oC oD oE oF oG x1) (fun g_=>(eS g_.1.2 g_.2))<|.ret (-1))<|
fun w5 =>tX 3000004 (wK [0,1,5,6,7] [] 3) 47 (Jj n n_ oA oB oC oD oE oF oG x1) (fun g_=>(eS g_.1.2 g_.2))<|.ret w5
theorem nG (n:Nat) (c:af) (n_:Int):pC (iW n c n_) 23 [(bM af.enc c),(vI n_)] (fun r=>(vI r)):=tP []<|
.rg 1<|.bind 6 (dU n c.First c.Harts c.From c.Order)<|fun y1 =>.alt 6 y1 (fun wa2 =>.op 6 ⟨[],[],[],[],[],[(6,(.nilp,[.arr true 4 [(af.enc c)]]))],[],[],[]⟩<|.o _ (fun g_=>ji n c.First c.Harts c.From c.Order (.inl wa2) (eS g_.1.2 g_.2))<|.ret (-1))<|
fun wb2 =>.op 6 ⟨[],[],[],[],[],[(6,(.ptr (.O 2) 0 0,[.arr true 4 [(af.enc c)],.mapo true (wb2.1.map (nJ (dl .u64) (py eI))),.arr false 4 [[.ptr (.O 0) 0 0,.sl (wb2.2.1.map Event.enc),.sl (wb2.2.2.map eI),.mp 1]]]))],[],[],[]⟩<|.o _ (fun g_=>ji n c.First c.Harts c.From c.Order (.inr wb2) (eS g_.1.2 g_.2))<|.rg 2<|tB 13 (decide (n_<0)) (.ret (-1))<|
tL 19 Event.enc wb2.2.1<|tB 22 (decide (n_≥(wb2.2.1.length:Int))) (.ret (-1))<|
tI 28 Event.enc wb2.2.1 n_<|fun x5 =>tC 30 (ba n x5)<|fun y6 =>tB 32 (!y6) (.ret (-1))<|
.rg 4<|tS 35 (md n n_ c.First c.Harts c.From c.Order wb2.1 wb2.2.1 wb2.2.2)<|fun y8 =>.ret y8
def Mu:List (Nat×PT):=[(4,(dn [0,1,2,3,4,5]))]
theorem qm (n:Nat) (c:af) (n_:Int):pC (lz n c n_) 24 [(bM af.enc c),(vI n_)] (fun r=>(vI r)):=tP Mu<|
.rg 1<|tC 9 (sq n c)<|fun y1 =>.rg 2<|tB 14 (!y1.2) (.ret (-1))<|
tB 18 (decide (n_<0)) (.ret (-1))<|
tL 22 Event.enc y1.1.All<|tB 25 (decide (n_≥(y1.1.All.length:Int))) (.ret (-1))<|
tI 29 Event.enc y1.1.All n_<|fun x5 =>tC 31 (b_ n x5)<|fun y6 =>tB 33 (!y6) (.ret (-1))<|
.rg 4<|tC 36 (qk n c)<|fun y8 =>tC 38 (ql n y1.1 y8 n_)<|fun y9 =>.ret y9
theorem rB (n:Nat):∀ (n_:Int),pC (gf n n_) 67 [(vU n_)] (fun r=>.v (.string r)):=by
 induction n with
 | zero=>intro n_ r h; unfold gf at h; cases h
 | succ n ih =>
 intro n_
 exact tP []<|
.rg 1<|tB 4 (decide (n_>9)) (.rg 2<|tC 7 (ih (fG .u64 n_ 10))<|fun y2 =>tC 10 (ih (cw .u64 n_ 10))<|fun y3 =>tG 11 (decide (((y2.size + y3.size:Nat):Int)≤9223372036854775807))<|.op 11 (hA 11)<|.o _ (fun g_=>g_.2)<|.ret (y2++y3))<|
.rg 3<|tG 15 (decide ((0:Int)≤n_)&&decide (n_≤(ac .u64 n_ 1))&&decide ((ac .u64 n_ 1)≤((ByteArray.mk #[48,49,50,51,52,53,54,55,56,57]).size:Int)))<|.op 15 (hA 15)<|.o _ (fun g_=>g_.2)<|.ret ((ByteArray.mk #[48,49,50,51,52,53,54,55,56,57]).extract (n_).toNat ((ac .u64 n_ 1)).toNat)
theorem fu (n:Nat) (n_:Int):pC (dZ n n_) 49 [(vI n_)] (fun r=>.v (.string r)):=tP []<|
.rg 1<|tB 4 (decide (n_<0)) (.rg 2<|tC 8 (rB n (IntKind.wrap .u64 (aJ .i64 0 n_)))<|fun y2 =>tG 9 (decide ((((ByteArray.mk #[45]).size + y2.size:Nat):Int)≤9223372036854775807))<|.op 9 (hA 9)<|.o _ (fun g_=>g_.2)<|.ret ((ByteArray.mk #[45])++y2))<|
.rg 3<|tC 12 (rB n (IntKind.wrap .u64 n_))<|fun y2 =>.ret y2
def Mv:List (Nat×PT):=[(7,(dn [0,1,2,3,4,5,6,7,8,9,10,11,12,13,14]))]
theorem BN (n:Nat) (j:aC):pC (pG n j) 26 [(bM aC.enc j)] (fun r=>.v (.string r)):=tP Mv<|
.rg 2<|tB 7 j.OK (.ret (ByteArray.mk #[111,107]))<|
.rg 5<|tB 11 (decide (j.Why≥1)) (tB 15 (decide (j.Why≤4)) (.rg 7<|tI 20 Nn ([(ByteArray.mk #[111,116,104,101,114]),(ByteArray.mk #[102,111,114,109]),(ByteArray.mk #[111,114,100,101,114]),(ByteArray.mk #[118,97,108,117,101]),(ByteArray.mk #[112,97,105,114])]:List ByteArray) j.Why<|fun x4 =>tG 22 (decide (((x4.size + (ByteArray.mk #[32]).size:Nat):Int)≤9223372036854775807))<|.op 22 (hA 22)<|.o _ (fun g_=>g_.2)<|tC 25 (fu n j.A_)<|fun y6 =>tG 26 (decide ((((x4++(ByteArray.mk #[32])).size + y6.size:Nat):Int)≤9223372036854775807))<|.op 26 (hA 26)<|.o _ (fun g_=>g_.2)<|tG 27 (decide (((((x4++(ByteArray.mk #[32]))++y6).size + (ByteArray.mk #[32]).size:Nat):Int)≤9223372036854775807))<|.op 27 (hA 27)<|.o _ (fun g_=>g_.2)<|tC 30 (fu n j.B)<|fun y9 =>tG 31 (decide ((((((x4++(ByteArray.mk #[32]))++y6)++(ByteArray.mk #[32])).size + y9.size:Nat):Int)≤9223372036854775807))<|.op 31 (hA 31)<|.o _ (fun g_=>g_.2)<|.ret ((((x4++(ByteArray.mk #[32]))++y6)++(ByteArray.mk #[32]))++y9))<|
.rg 7<|tG 22 (decide ((((ByteArray.mk #[111,116,104,101,114]).size + (ByteArray.mk #[32]).size:Nat):Int)≤9223372036854775807))<|.op 22 (hA 22)<|.o _ (fun g_=>g_.2)<|tC 25 (fu n j.A_)<|fun y5 =>tG 26 (decide (((((ByteArray.mk #[111,116,104,101,114])++(ByteArray.mk #[32])).size + y5.size:Nat):Int)≤9223372036854775807))<|.op 26 (hA 26)<|.o _ (fun g_=>g_.2)<|tG 27 (decide ((((((ByteArray.mk #[111,116,104,101,114])++(ByteArray.mk #[32]))++y5).size + (ByteArray.mk #[32]).size:Nat):Int)≤9223372036854775807))<|.op 27 (hA 27)<|.o _ (fun g_=>g_.2)<|tC 30 (fu n j.B)<|fun y8 =>tG 31 (decide (((((((ByteArray.mk #[111,116,104,101,114])++(ByteArray.mk #[32]))++y5)++(ByteArray.mk #[32])).size + y8.size:Nat):Int)≤9223372036854775807))<|.op 31 (hA 31)<|.o _ (fun g_=>g_.2)<|.ret (((((ByteArray.mk #[111,116,104,101,114])++(ByteArray.mk #[32]))++y5)++(ByteArray.mk #[32]))++y8))<|
.rg 7<|tG 22 (decide ((((ByteArray.mk #[111,116,104,101,114]).size + (ByteArray.mk #[32]).size:Nat):Int)≤9223372036854775807))<|.op 22 (hA 22)<|.o _ (fun g_=>g_.2)<|tC 25 (fu n j.A_)<|fun y4 =>tG 26 (decide (((((ByteArray.mk #[111,116,104,101,114])++(ByteArray.mk #[32])).size + y4.size:Nat):Int)≤9223372036854775807))<|.op 26 (hA 26)<|.o _ (fun g_=>g_.2)<|tG 27 (decide ((((((ByteArray.mk #[111,116,104,101,114])++(ByteArray.mk #[32]))++y4).size + (ByteArray.mk #[32]).size:Nat):Int)≤9223372036854775807))<|.op 27 (hA 27)<|.o _ (fun g_=>g_.2)<|tC 30 (fu n j.B)<|fun y7 =>tG 31 (decide (((((((ByteArray.mk #[111,116,104,101,114])++(ByteArray.mk #[32]))++y4)++(ByteArray.mk #[32])).size + y7.size:Nat):Int)≤9223372036854775807))<|.op 31 (hA 31)<|.o _ (fun g_=>g_.2)<|.ret (((((ByteArray.mk #[111,116,104,101,114])++(ByteArray.mk #[32]))++y4)++(ByteArray.mk #[32]))++y7)
def JW:List (Nat×PT):=[(6,(dn [0,1,2,3,4,5,6,7,8]))]
noncomputable def PX:Code:=sub (aF Tryz.prog 52) [1,1,0,1,0,0]
def PY (a:(List Int)) (b:(List Int)) (sa:Int):St:=aW 26 [(0,.sl (a.map eI)),(1,.sl (b.map eI)),(5,(vI sa))] [] [] 0
def PZ (a:(List Int)) (b:(List Int)) (t0:(Unit⊕Unit)):Ex×St:=match t0 with | .inl tt=>(.ex 0,aW 26 [] [] [] 0) | .inr tt=>(.ret,aW 26 [(4,vF)] [] [] 0)
theorem Mw (n:Nat) (a:(List Int)) (b:(List Int)):lC (iq n a b) PX (PY a b) (PZ a b):=tR JW 52 (nu (fun _=>h_) fun _=>nr) fun sa =>
.rg 4<|tL 13 eI a<|tB 14 (decide (sa<(a.length:Int))) (.rg 6<|tI 19 eI a sa<|fun xa2 =>tI 23 eI b sa<|fun xa3 =>tB 25 (xa2 != xa3) (.wk (wK [4] [] 0) l0<|.ret (.inr (.inr ())))<|
.wk (wK [0,1,5] [] 0) l0<|.ret (.inl (ac .i64 sa 1)))<|
.wk (wK [] [] 0) l0<|.ret (.inr (.inl ()))
theorem fw (n:Nat) (a:(List Int)) (b:(List Int)):pC (dG n a b) 52 [.sl (a.map eI),.sl (b.map eI)] (fun r=>.v (.bool r)):=tP JW<|
.rg 1<|tL 7 eI a<|tL 9 eI b<|tB 10 ((a.length:Int) != (b.length:Int)) (.ret false)<|
.bind 3000004 (iter (fun s=>iq n a b s) n 0)<|fun t2 =>.alt 3000004 t2 (fun w3 =>tX 3000004 (wK [0,1,5] [] 0) 52 (Mw n a b) (fun g_=>(eS g_.1.2 g_.2))<|.ret true)<|
fun w3 =>tX 3000004 (wK [0,1,5] [] 0) 52 (Mw n a b) (fun g_=>(eS g_.1.2 g_.2))<|.ret false
theorem BO (n:Nat) (a:Deps) (b:Deps):pC (wF n a b) 85 [(bM Deps.enc a),(bM Deps.enc b)] (fun r=>.v (.bool r)):=tP []<|
.rg 1<|tC 9 (fw n a.Addr b.Addr)<|fun y1 =>tB 10 y1 (tC 15 (fw n a.Data b.Data)<|fun y3 =>tB 17 y3 (tC 22 (fw n a.Way b.Way)<|fun y5 =>.ret y5)<|
.ret false)<|
.ret false
theorem zv (n:Nat) (a:Event) (b:Event):pC (qD n a b) 68 [(bM Event.enc a),(bM Event.enc b)] (fun r=>.v (.bool r)):=tP []<|
.rg 1<|tC 9 (BO n a.Deps b.Deps)<|fun y1 =>tB 10 y1 (tB 17 (a.Hart==b.Hart) (tB 24 (a.At==b.At) (tB 31 (a.Kind==b.Kind) (tB 38 (a.Addr==b.Addr) (tB 45 (a.Load==b.Load) (tB 52 (a.Store==b.Store) (tB 59 (a.Aq==b.Aq) (tB 66 (a.Rl==b.Rl) (tB 73 (a.Pred==b.Pred) (tB 80 (a.Succ==b.Succ) (.ret (a.Pair==b.Pair))<|
.ret false)<|
.ret false)<|
.ret false)<|
.ret false)<|
.ret false)<|
.ret false)<|
.ret false)<|
.ret false)<|
.ret false)<|
.ret false)<|
.ret false
def JX:List (Nat×PT):=[(6,(dn [0,1,2,3,4,5,6,7,8,9]))]
noncomputable def P0:Code:=sub (aF Tryz.prog 50) [1,1,0,1,0,0]
def P1 (a:(List Event)) (b:(List Event)) (sa:Int):St:=aW 27 [(0,.sl (a.map Event.enc)),(1,.sl (b.map Event.enc)),(5,(vI sa))] [] [] 0
def P2 (a:(List Event)) (b:(List Event)) (t0:(Unit⊕Unit)):Ex×St:=match t0 with | .inl tt=>(.ex 0,aW 27 [] [] [] 0) | .inr tt=>(.ret,aW 27 [(4,vF)] [] [] 0)
theorem Mx (n:Nat) (a:(List Event)) (b:(List Event)):lC (gg n a b) P0 (P1 a b) (P2 a b):=tR JX 50 (nu (fun _=>h_) fun _=>nr) fun sa =>
.rg 4<|tL 13 Event.enc a<|tB 14 (decide (sa<(a.length:Int))) (.rg 6<|tI 19 Event.enc a sa<|fun xa2 =>tI 23 Event.enc b sa<|fun xa3 =>tC 25 (zv n xa2 xa3)<|fun ya4 =>tB 26 (!ya4) (.wk (wK [4] [] 0) l0<|.ret (.inr (.inr ())))<|
.wk (wK [0,1,5] [] 0) l0<|.ret (.inl (ac .i64 sa 1)))<|
.wk (wK [] [] 0) l0<|.ret (.inr (.inl ()))
theorem yr (n:Nat) (a:(List Event)) (b:(List Event)):pC (nQ n a b) 50 [.sl (a.map Event.enc),.sl (b.map Event.enc)] (fun r=>.v (.bool r)):=tP JX<|
.rg 1<|tL 7 Event.enc a<|tL 9 Event.enc b<|tB 10 ((a.length:Int) != (b.length:Int)) (.ret false)<|
.bind 3000004 (iter (fun s=>gg n a b s) n 0)<|fun t2 =>.alt 3000004 t2 (fun w3 =>tX 3000004 (wK [0,1,5] [] 0) 50 (Mx n a b) (fun g_=>(eS g_.1.2 g_.2))<|.ret true)<|
fun w3 =>tX 3000004 (wK [0,1,5] [] 0) 50 (Mx n a b) (fun g_=>(eS g_.1.2 g_.2))<|.ret false
def JY:List (Nat×PT):=[(6,(dn [0,1,2,3,4,5,6,7,8]))]
noncomputable def P3:Code:=sub (aF Tryz.prog 51) [1,1,0,1,0,0]
def P4 (a:(List Cell)) (b:(List Cell)) (sa:Int):St:=aW 26 [(0,.sl (a.map Cell.enc)),(1,.sl (b.map Cell.enc)),(5,(vI sa))] [] [] 0
def P5 (a:(List Cell)) (b:(List Cell)) (t0:(Unit⊕Unit)):Ex×St:=match t0 with | .inl tt=>(.ex 0,aW 26 [] [] [] 0) | .inr tt=>(.ret,aW 26 [(4,vF)] [] [] 0)
theorem My (n:Nat) (a:(List Cell)) (b:(List Cell)):lC (dO n a b) P3 (P4 a b) (P5 a b):=tR JY 51 (nu (fun _=>h_) fun _=>nr) fun sa =>
.rg 4<|tL 13 Cell.enc a<|tB 14 (decide (sa<(a.length:Int))) (.rg 6<|tI 19 Cell.enc a sa<|fun xa2 =>tI 23 Cell.enc b sa<|fun xa3 =>.ite 25 (!(Cell.beq xa2 xa3)) (.op 25 (Fs 25 (vT))<|.o (jq Tryz.prog .neq 64 [(.int .u64 xa2.Addr),(.int .u64 xa2.Value)] [(.int .u64 xa3.Addr),(.int .u64 xa3.Value)]=some (.bool true)) (fun g_=>(qh xa2 xa3).trans (congrArg (fun b=>some (Value.bool b)) g_.2))<|.o (AV.v (.bool true)=AV.v (.bool true)) (fun _=>rfl)<|.wk (wK [4] [] 0) l0<|.ret (.inr (.inr ())))<|
.op 25 (Fs 25 (vF))<|.o (jq Tryz.prog .neq 64 [(.int .u64 xa2.Addr),(.int .u64 xa2.Value)] [(.int .u64 xa3.Addr),(.int .u64 xa3.Value)]=some (.bool false)) (fun g_=>(qh xa2 xa3).trans (congrArg (fun b=>some (Value.bool b)) g_.2))<|.o (AV.v (.bool false)=AV.v (.bool false)) (fun _=>rfl)<|.wk (wK [0,1,5] [] 0) l0<|.ret (.inl (ac .i64 sa 1)))<|
.wk (wK [] [] 0) l0<|.ret (.inr (.inl ()))
theorem tO (n:Nat) (a:(List Cell)) (b:(List Cell)):pC (j3 n a b) 51 [.sl (a.map Cell.enc),.sl (b.map Cell.enc)] (fun r=>.v (.bool r)):=tP JY<|
.rg 1<|tL 7 Cell.enc a<|tL 9 Cell.enc b<|tB 10 ((a.length:Int) != (b.length:Int)) (.ret false)<|
.bind 3000004 (iter (fun s=>dO n a b s) n 0)<|fun t2 =>.alt 3000004 t2 (fun w3 =>tX 3000004 (wK [0,1,5] [] 0) 51 (My n a b) (fun g_=>(eS g_.1.2 g_.2))<|.ret true)<|
fun w3 =>tX 3000004 (wK [0,1,5] [] 0) 51 (My n a b) (fun g_=>(eS g_.1.2 g_.2))<|.ret false
def JZ:List (Nat×PT):=[(6,(dn [0,1,2,3,4,5,6,7,8,9,10,11]))]
noncomputable def P6:Code:=sub (aF Tryz.prog 27) [1,1,0,1,0,0]
def P7 (a:af) (b:af) (sa:Int):St:=aW 51 [(2,.ptr (.L 2) 0 0),(3,.ptr (.L 3) 0 0),(5,(vI sa))] [(3,(af.enc b)),(2,(af.enc a))] [] 0
def P8 (a:af) (b:af) (t0:(Unit⊕Unit)):Ex×St:=match t0 with | .inl tt=>(.ex 0,aW 51 [(2,.ptr (.L 2) 0 0),(3,.ptr (.L 3) 0 0)] [(3,(af.enc b)),(2,(af.enc a))] [] 0) | .inr tt=>(.ret,aW 51 [(4,vF)] [] [] 0)
theorem Mz (n:Nat) (a:af) (b:af):lC (iE n a b) P6 (P7 a b) (P8 a b):=tR JZ 27 (nu (fun _=>h_) fun _=>nr) fun sa =>
.rg 4<|tL 16 (dT Event.enc) a.Harts<|tB 17 (decide (sa<(a.Harts.length:Int))) (.rg 6<|tI 23 (dT Event.enc) a.Harts sa<|fun xa2 =>tI 28 (dT Event.enc) b.Harts sa<|fun xa3 =>tC 30 (yr n xa2 xa3)<|fun ya4 =>tB 31 (!ya4) (.wk (wK [4] [3,2] 0) l0<|.ret (.inr (.inr ())))<|
.wk (wK [2,3,5] [] 0) l0<|.ret (.inl (ac .i64 sa 1)))<|
.wk (wK [2,3] [] 0) l0<|.ret (.inr (.inl ()))
theorem BP (n:Nat) (a:af) (b:af):pC (sI n a b) 27 [(bM af.enc a),(bM af.enc b)] (fun r=>.v (.bool r)):=tP JZ<|
.rg 1<|tL 8 (dT Event.enc) a.Harts<|tL 11 (dT Event.enc) b.Harts<|tB 12 ((a.Harts.length:Int) != (b.Harts.length:Int)) (.ret false)<|
.bind 3000004 (iter (fun s=>iE n a b s) n 0)<|fun t2 =>.alt 3000004 t2 (fun w3 =>tX 3000004 (wK [2,3,5] [] 0) 27 (Mz n a b) (fun g_=>(eS g_.1.2 g_.2))<|.rg 8<|tC 36 (tO n a.First b.First)<|fun y4 =>tB 37 y4 (tC 42 (fw n a.From b.From)<|fun y6 =>tB 44 y6 (tC 49 (fw n a.Order b.Order)<|fun y8 =>.ret y8)<|
.ret false)<|
.ret false)<|
fun w3 =>tX 3000004 (wK [2,3,5] [] 0) 27 (Mz n a b) (fun g_=>(eS g_.1.2 g_.2))<|.ret false
def P9:List (Nat×PT):=[(7,(dn [0,1,2,3,4,5,6,7,8,9,10,11,12,13,14,15,16,17,18,19,20,21,22,23,24,25,26,27,28,29,30,31,32,33,34,35,36,37,38,39,40,41,42]))]
theorem ss (n:Nat) (c:af) (n_:Int) (j:aC):pC (iX n c n_ j) 5 [(bM af.enc c),(vI n_),(bM aC.enc j)] (fun r=>.v (.bool r)):=tP P9<|
.rg 1<|tC 9 (zq n)<|fun y1 =>tB 10 (!y1) (.ret false)<|
.rg 3<|tC 12 (tz n c 30)<|fun y3 =>tB 13 (!y3) (.ret true)<|
.rg 5<|tS 15 (tE n c)<|fun y5 =>.rg 6<|tL 19 eI c.From<|tC 21 (BI n n_ (ac .i64 (c.From.length:Int) 2))<|fun y6 =>.rg 7<|tC 24 (iv n (af.mk y5.1 y5.2.2.2 y5.2.1 y5.2.2.1))<|fun y7 =>tC 26 (rz n c)<|fun y8 =>.ite 27 (aC.beq y7 y8) (.op 27 (Fs 27 (vT))<|.o (jq Tryz.prog .eql 48 [(.bool y7.OK),(.int .i64 y7.Why),(.int .i64 y7.A_),(.int .i64 y7.B)] [(.bool y8.OK),(.int .i64 y8.Why),(.int .i64 y8.A_),(.int .i64 y8.B)]=some (.bool true)) (fun g_=>(gS y7 y8).trans (congrArg (fun b=>some (Value.bool b)) g_.2))<|.o (AV.v (.bool true)=AV.v (.bool true)) (fun _=>rfl)<|tC 30 (BM n (af.mk y5.1 y5.2.2.2 y5.2.1 y5.2.2.1))<|fun y10 =>tC 32 (EB n c)<|fun y11 =>tB 35 (y10==y11) (tC 38 (nG n (af.mk y5.1 y5.2.2.2 y5.2.1 y5.2.2.1) n_)<|fun y13 =>tC 41 (qm n c n_)<|fun y14 =>tB 44 (y13==y14) (tC 47 (nG n (af.mk y5.1 y5.2.2.2 y5.2.1 y5.2.2.1) (aJ .i64 y6 1))<|fun y16 =>tC 50 (qm n c (aJ .i64 y6 1))<|fun y17 =>tB 53 (y16==y17) (tC 55 (qj n j)<|fun y19 =>tC 57 (BN n j)<|fun y20 =>tB 60 (y19.toList==y20.toList) (tC 63 (BP n (af.mk y5.1 y5.2.2.2 y5.2.1 y5.2.2.1) c)<|fun y22 =>.ret y22)<|
.ret false)<|
.ret false)<|
.ret false)<|
.ret false)<|
.op 27 (Fs 27 (vF))<|.o (jq Tryz.prog .eql 48 [(.bool y7.OK),(.int .i64 y7.Why),(.int .i64 y7.A_),(.int .i64 y7.B)] [(.bool y8.OK),(.int .i64 y8.Why),(.int .i64 y8.A_),(.int .i64 y8.B)]=some (.bool false)) (fun g_=>(gS y7 y8).trans (congrArg (fun b=>some (Value.bool b)) g_.2))<|.o (AV.v (.bool false)=AV.v (.bool false)) (fun _=>rfl)<|.ret false
end Go.Proofs.YtomahedcdcnnhaaGreatDoor
