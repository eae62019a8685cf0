/- What the functions compute, they compute: printed by a program, path by path. No conditions. -/
import Derived.Test.YtomahedcdcnnhaaGreatDoorP2
import Derived.KernelRfl
namespace Go.Proofs.YtomahedcdcnnhaaGreatDoor
open Go A
set_option linter.unusedVariables false
set_option maxRecDepth 100000
set_option maxHeartbeats 0
section
variable (pc:Nat→List AV→(AV→Prop)→Prop) (sc:Nat→List AV→List Ob→(AV→List Ob→Prop)→Prop) (lp:bw→Code→St→(Ex→St→Prop)→Prop) (cd:wB)

def gV:List (Nat×PT):=[(12,(eO [0,1,2,3,4,5,6,7,8])),(16,(eO [0,1,2,3,4,5,6,7,8,9,10,11,12,13,14,15,16,17,18,19,20,21,22,23,24,25,26]))]
theorem Hf:aA (ao 41) gV (al Tryz.prog 41)=true:=by kernel_rfl
noncomputable def Lr:Code:=sub (al Tryz.prog 41) [1,0,1,0,0]
noncomputable def NR:Code:=sub Lr [1,1,0,0,1,1,1,1,1,1,0,0]
theorem Hg:aA (ao 41) gV NR=true:=by kernel_rfl
def xU (oA:(List Cell)) (oB:(List (List Event))) (oC:(List Int)) (oD:(List Int)) (oE:(List (Int×(List Int)))) (oF:(List Event)) (oG:(List Int)) (xa2:Event) (sb:Int×Int×Int×Int×(List Int)×Int×Int):St:=bm 114 [(0,.ptr (.O 2) 0 0),(2,.ptr (.L 2) 0 0),(3,(vI sb.2.1)),(4,.ptr (.L 4) 0 0),(5,(vI sb.2.2.1)),(6,(vI sb.2.2.2.1)),(14,.sl (oF.map Event.enc)),(15,(vI (oF.length:Int))),(16,(vI sb.1)),(68,.sl (sb.2.2.2.2.1.map eI)),(69,(vI sb.2.2.2.2.2.1)),(70,(vI sb.2.2.2.2.2.2))] [(4,(Event.enc xa2)),(2,[vF,(vI 0),(vI 0),(vI 0)])] [.arr true 4 [[.sl (oA.map Cell.enc),.sl (oB.map (et Event.enc)),.sl (oC.map eI),.sl (oD.map eI)]],.mapo true (oE.map (dr (aR .u64) (ep eI))),.arr false 4 [[.ptr (.O 0) 0 0,.sl (oF.map Event.enc),.sl (oG.map eI),.mp 1]],.arr false 1 [[.fn 39 [.ptr (.O 2) 0 0] []],[.fn 40 [.ptr (.O 2) 0 0] []],[.fn 41 [.ptr (.O 2) 0 0] []]]] 4
def Hh (oA:(List Cell)) (oB:(List (List Event))) (oC:(List Int)) (oD:(List Int)) (oE:(List (Int×(List Int)))) (oF:(List Event)) (oG:(List Int)) (xa2:Event) (tt:Int):St:=bm 114 [(0,.ptr (.O 2) 0 0),(2,.ptr (.L 2) 0 0),(14,.sl (oF.map Event.enc)),(15,(vI (oF.length:Int))),(16,(vI tt))] [(2,[vF,(vI 0),(vI 0),(vI 0)])] [.arr true 4 [[.sl (oA.map Cell.enc),.sl (oB.map (et Event.enc)),.sl (oC.map eI),.sl (oD.map eI)]],.mapo true (oE.map (dr (aR .u64) (ep eI))),.arr false 4 [[.ptr (.O 0) 0 0,.sl (oF.map Event.enc),.sl (oG.map eI),.mp 1]],.arr false 1 [[.fn 39 [.ptr (.O 2) 0 0] []],[.fn 40 [.ptr (.O 2) 0 0] []],[.fn 41 [.ptr (.O 2) 0 0] []]]] 4
def Hi (oA:(List Cell)) (oB:(List (List Event))) (oC:(List Int)) (oD:(List Int)) (oE:(List (Int×(List Int)))) (oF:(List Event)) (oG:(List Int)) (xa2:Event) (tt:Bool×Int×Int×Int):St:=bm 114 [(2,.ptr (.L 2) 0 0)] [(2,[.v (.bool tt.1),(vI tt.2.1),(vI tt.2.2.1),(vI tt.2.2.2)])] [.arr true 4 [[.sl (oA.map Cell.enc),.sl (oB.map (et Event.enc)),.sl (oC.map eI),.sl (oD.map eI)]],.mapo true (oE.map (dr (aR .u64) (ep eI))),.arr false 4 [[.ptr (.O 0) 0 0,.sl (oF.map Event.enc),.sl (oG.map eI),.mp 1]],.arr false 1 [[.fn 39 [.ptr (.O 2) 0 0] []],[.fn 40 [.ptr (.O 2) 0 0] []],[.fn 41 [.ptr (.O 2) 0 0] []]]] 4
def Ap (oA:(List Cell)) (oB:(List (List Event))) (oC:(List Int)) (oD:(List Int)) (oE:(List (Int×(List Int)))) (oF:(List Event)) (oG:(List Int)) (xa2:Event) (t0:(Int⊕(Bool×Int×Int×Int))):Ex×St:=match t0 with | .inl tt=>(.ex 2,Hh oA oB oC oD oE oF oG xa2 tt) | .inr tt=>(.ret,Hi oA oB oC oD oE oF oG xa2 tt)
theorem BU (n:Nat) (oA:(List Cell)) (oB:(List (List Event))) (oC:(List Int)) (oD:(List Int)) (oE:(List (Int×(List Int)))) (oF:(List Event)) (oG:(List Int)) (xa2:Event):∀ sb r,bp n oA oB oC oD oE oF oG xa2 sb=some r→aW Tryz.prog NR (xU oA oB oC oD oE oF oG xa2 sb) (rk (xU oA oB oC oD oE oF oG xa2) (Ap oA oB oC oD oE oF oG xa2) r):=by
 intro sb r h
 unfold bp at h
 rcases aG h with ⟨hb1,h⟩ | ⟨hb1,h⟩
 ·
  exact kQ h (nA gV [rV 13 [(71,vF)]]) [wK 4 [0,2,14,15,16] [4] 4] Hg (co rfl j8) (fun z=>(aB hb1 z)) (by kernel_rfl)
 obtain ⟨xb2,gxb2,h⟩:=ac h
 obtain ⟨xb3,gxb3,h⟩:=ac h
 have c180_:=fun (R:Prop) (z:R)=>(aB hb1 (aM eI gxb2 (aM eI gxb3 z)))
 let e181_:LR:=[rV 13 [(71,vT)],rR 14 [(72,[(vI xb2)])],rR 15 [(79,[(vI xb3)])]]
 rcases aG h with ⟨hb4,h⟩ | ⟨hb4,h⟩
 ·
  exact kQ h (nA gV (e181_++[rV 16 [(84,vF)]])) [wK 0 [0,2,3,4,5,6,14,15,16,68,69,70] [] 4] Hg cS (fun z=>(c180_ _ (aB hb4 z))) (by kernel_rfl)
 obtain ⟨xb5,gxb5,h⟩:=ac h
 have c182_:=fun (R:Prop) (z:R)=>(aB hb4 (aM eI gxb5 z))
 rcases aG h with ⟨hb6,h⟩ | ⟨hb6,h⟩
 ·
  exact kQ h (nA gV (e181_++[(16,⟨[],[],[(91,[(vI xb5)])],[(84,vT),(95,vF)],[],[],[],[],[]⟩)])) [wK 0 [0,2,3,4,5,6,14,15,16,68,69,70] [] 4] Hg cS (fun z=>(c180_ _ (c182_ _ (aB hb6 z)))) (by kernel_rfl)
 obtain ⟨xb7,gxb7,h⟩:=ac h
 have c183_:=fun (R:Prop) (z:R)=>(aB hb6 (aM Event.enc gxb7 z))
 rcases aG h with ⟨hb8,h⟩ | ⟨hb8,h⟩
 ·
  exact kQ h (nA gV (e181_++[(16,⟨[],[],[(91,[(vI xb5)]),(101,(Event.enc xb7))],[(84,vT),(95,vT),(107,vF)],[],[],[],[],[]⟩)])) [wK 0 [0,2,3,4,5,6,14,15,16,68,69,70] [] 4] Hg cS (fun z=>(c180_ _ (c182_ _ (c183_ _ (aB hb8 z))))) (by kernel_rfl)
 obtain ⟨yb9,gyb9,h⟩:=ac h
 exact kQ h (nA gV (e181_++[(16,⟨[],[],[(91,[(vI xb5)]),(101,(Event.enc xb7))],[(84,vT),(95,vT),(107,vT)],[],[],[],[],[]⟩),bh 17 [] [(110,(bT bi.enc yb9))]])) [wK 1 [2] [4] 4] Hg (co rfl fT) (fun z=>(c180_ _ (c182_ _ (c183_ _ (aB hb8 (aI (gU n 4 sb.2.2.1 xb2 yb9 gyb9) z)))))) (by kernel_rfl)

theorem wV:aA (ao 41) gV Lr=true:=by kernel_rfl
def I3 (oA:(List Cell)) (oB:(List (List Event))) (oC:(List Int)) (oD:(List Int)) (oE:(List (Int×(List Int)))) (oF:(List Event)) (oG:(List Int)) (sa:Int):St:=bm 114 [(0,.ptr (.O 2) 0 0),(2,.ptr (.L 2) 0 0),(14,.sl (oF.map Event.enc)),(15,(vI (oF.length:Int))),(16,(vI sa))] [(2,[vF,(vI 0),(vI 0),(vI 0)])] [.arr true 4 [[.sl (oA.map Cell.enc),.sl (oB.map (et Event.enc)),.sl (oC.map eI),.sl (oD.map eI)]],.mapo true (oE.map (dr (aR .u64) (ep eI))),.arr false 4 [[.ptr (.O 0) 0 0,.sl (oF.map Event.enc),.sl (oG.map eI),.mp 1]],.arr false 1 [[.fn 39 [.ptr (.O 2) 0 0] []],[.fn 40 [.ptr (.O 2) 0 0] []],[.fn 41 [.ptr (.O 2) 0 0] []]]] 4
def NS (oA:(List Cell)) (oB:(List (List Event))) (oC:(List Int)) (oD:(List Int)) (oE:(List (Int×(List Int)))) (oF:(List Event)) (oG:(List Int)) (tt:Unit):St:=bm 114 [(2,.ptr (.L 2) 0 0)] [(2,[vF,(vI 0),(vI 0),(vI 0)])] [.arr true 4 [[.sl (oA.map Cell.enc),.sl (oB.map (et Event.enc)),.sl (oC.map eI),.sl (oD.map eI)]],.mapo true (oE.map (dr (aR .u64) (ep eI))),.arr false 4 [[.ptr (.O 0) 0 0,.sl (oF.map Event.enc),.sl (oG.map eI),.mp 1]],.arr false 1 [[.fn 39 [.ptr (.O 2) 0 0] []],[.fn 40 [.ptr (.O 2) 0 0] []],[.fn 41 [.ptr (.O 2) 0 0] []]]] 4
def NT (oA:(List Cell)) (oB:(List (List Event))) (oC:(List Int)) (oD:(List Int)) (oE:(List (Int×(List Int)))) (oF:(List Event)) (oG:(List Int)) (tt:Bool×Int×Int×Int):St:=bm 114 [(2,.ptr (.L 2) 0 0)] [(2,[.v (.bool tt.1),(vI tt.2.1),(vI tt.2.2.1),(vI tt.2.2.2)])] [.arr true 4 [[.sl (oA.map Cell.enc),.sl (oB.map (et Event.enc)),.sl (oC.map eI),.sl (oD.map eI)]],.mapo true (oE.map (dr (aR .u64) (ep eI))),.arr false 4 [[.ptr (.O 0) 0 0,.sl (oF.map Event.enc),.sl (oG.map eI),.mp 1]],.arr false 1 [[.fn 39 [.ptr (.O 2) 0 0] []],[.fn 40 [.ptr (.O 2) 0 0] []],[.fn 41 [.ptr (.O 2) 0 0] []]]] 4
def Lt (oA:(List Cell)) (oB:(List (List Event))) (oC:(List Int)) (oD:(List Int)) (oE:(List (Int×(List Int)))) (oF:(List Event)) (oG:(List Int)) (t0:(Unit⊕(Bool×Int×Int×Int))):Ex×St:=match t0 with | .inl tt=>(.ex 0,NS oA oB oC oD oE oF oG tt) | .inr tt=>(.ret,NT oA oB oC oD oE oF oG tt)
theorem NU (n:Nat) (oA:(List Cell)) (oB:(List (List Event))) (oC:(List Int)) (oD:(List Int)) (oE:(List (Int×(List Int)))) (oF:(List Event)) (oG:(List Int)):∀ sa r,ew n oA oB oC oD oE oF oG sa=some r→aW Tryz.prog Lr (I3 oA oB oC oD oE oF oG sa) (rk (I3 oA oB oC oD oE oF oG) (Lt oA oB oC oD oE oF oG) r):=by
 intro sa r h
 unfold ew at h
 rcases aG h with ⟨ha1,h⟩ | ⟨ha1,h⟩
 ·
  exact kQ h (nA gV [rV 2 [(17,vF)]]) [wK 2 [2] [] 4] wV (co rfl j8) (fun z=>(aB ha1 z)) (by kernel_rfl)
 obtain ⟨xa2,gxa2,h⟩:=ac h
 have c184_:=fun (R:Prop) (z:R)=>(aB ha1 (aM Event.enc gxa2 z))
 let e185_:LR:=[rV 2 [(17,vT)],rR 3 [(19,(Event.enc xa2))]]
 rcases au h with ⟨ha3,h⟩ | ⟨ha3,h⟩
 ·
  exact kQ h (nA gV (e185_++[rV 4 [(23,vT)]])) [wK 0 [0,2,14,15,16] [4] 4] wV cS (fun z=>(c184_ _ (aB ha3 z))) (by kernel_rfl)
 obtain ⟨xa4,gxa4,h⟩:=ac h
 have c186_:=fun (R:Prop) (z:R)=>(aB ha3 (aM eI gxa4 z))
 let e187_:LR:=[rV 4 [(23,vF)],rR 7 [(39,[(vI xa4)])]]
 rcases aG h with ⟨ha5,h⟩ | ⟨ha5,h⟩
 ·
  let e193_:LR:=[rV 8 [(42,vF)]]
  rcases jC h with ⟨ha6,h⟩ | ⟨za6,ha7,h⟩
  ·
   obtain ⟨ta7,gta7,h⟩:=ac h
   have c194_:=fun (R:Prop) (z:R)=>(aB ha5 (aI (qN oE xa2.Addr ha6:∀ k':AV→Prop,k' (.nilsl)→cK Tryz.prog 40 ((vU xa2.Addr)) (oE.map (dr (aR .u64) (ep eI))) fun _ r=>eJ Tryz.prog 24 false (oE.map (dr (aR .u64) (ep eI))) r k') z))
   rcases ta7 with wa8 | wa8
   ·
    exact kQ h ⟨gV,(e185_++(e187_++(e193_++[bh 12 [] [(68,.nilsl)]]))),[],[(13,(⟨[0,2,3,4,5,6,14,15,16,68,69,70],[],4,[],[],[]⟩,⟨[(68,.sl (([]:List Int).map eI))],[],[]⟩,(.ex 2),Hh oA oB oC oD oE oF oG xa2 wa8))],[]⟩ [wK 0 [0,2,14,15,16] [] 4] wV cS (fun z=>(c184_ _ (c186_ _ (c194_ _ (aI (aJ.nil:aJ (.nilsl) (.sl (([]:List Int).map eI))) (aI (eA (pl:=ao 41) (xU oA oB oC oD oE oF oG xa2) (Ap oA oB oC oD oE oF oG xa2) (BU n oA oB oC oD oE oF oG xa2) n _ (.inl wa8) gta7) z)))))) (by kernel_rfl)
   ·
    exact kQ h ⟨gV,(e185_++(e187_++(e193_++[bh 12 [] [(68,.nilsl)]]))),[],[(13,(⟨[0,2,3,4,5,6,14,15,16,68,69,70],[],4,[],[],[]⟩,⟨[(68,.sl (([]:List Int).map eI))],[],[]⟩,.ret,Hi oA oB oC oD oE oF oG xa2 wa8))],[]⟩ [wK 1 [2] [] 4] wV (co rfl fT) (fun z=>(c184_ _ (c186_ _ (c194_ _ (aI (aJ.nil:aJ (.nilsl) (.sl (([]:List Int).map eI))) (aI (eA (pl:=ao 41) (xU oA oB oC oD oE oF oG xa2) (Ap oA oB oC oD oE oF oG xa2) (BU n oA oB oC oD oE oF oG xa2) n _ (.inr wa8) gta7) z)))))) (by kernel_rfl)
  ·
   obtain ⟨ta8,gta8,h⟩:=ac h
   have c195_:=fun (R:Prop) (z:R)=>(aB ha5 (aI (qO oE xa2.Addr ha7:∀ k':AV→Prop,k' (.sl (za6.map eI))→cK Tryz.prog 40 ((vU xa2.Addr)) (oE.map (dr (aR .u64) (ep eI))) fun _ r=>eJ Tryz.prog 24 false (oE.map (dr (aR .u64) (ep eI))) r k') (aL eI za6 z)))
   rcases ta8 with wa9 | wa9
   ·
    exact kQ h ⟨gV,(e185_++(e187_++(e193_++[bh 12 [(69,(vI (za6.length:Int)))] [(68,.sl (za6.map eI))]]))),[],[(13,(⟨[0,2,3,4,5,6,14,15,16,68,69,70],[],4,[],[],[]⟩,l0,(.ex 2),Hh oA oB oC oD oE oF oG xa2 wa9))],[]⟩ [wK 0 [0,2,14,15,16] [] 4] wV cS (fun z=>(c184_ _ (c186_ _ (c195_ _ (aI (eA (pl:=ao 41) (xU oA oB oC oD oE oF oG xa2) (Ap oA oB oC oD oE oF oG xa2) (BU n oA oB oC oD oE oF oG xa2) n _ (.inl wa9) gta8) z))))) (by kernel_rfl)
   ·
    exact kQ h ⟨gV,(e185_++(e187_++(e193_++[bh 12 [(69,(vI (za6.length:Int)))] [(68,.sl (za6.map eI))]]))),[],[(13,(⟨[0,2,3,4,5,6,14,15,16,68,69,70],[],4,[],[],[]⟩,l0,.ret,Hi oA oB oC oD oE oF oG xa2 wa9))],[]⟩ [wK 1 [2] [] 4] wV (co rfl fT) (fun z=>(c184_ _ (c186_ _ (c195_ _ (aI (eA (pl:=ao 41) (xU oA oB oC oD oE oF oG xa2) (Ap oA oB oC oD oE oF oG xa2) (BU n oA oB oC oD oE oF oG xa2) n _ (.inr wa9) gta8) z))))) (by kernel_rfl)
 obtain ⟨xa6,gxa6,h⟩:=ac h
 obtain ⟨xa7,gxa7,h⟩:=ac h
 have c188_:=fun (R:Prop) (z:R)=>(aB ha5 (aM eI gxa6 (aM eI gxa7 z)))
 let e189_:LR:=[rV 8 [(42,vT)],rR 9 [(48,[(vI xa6)])]]
 rcases au h with ⟨ha8,h⟩ | ⟨ha8,h⟩
 ·
  obtain ⟨ya9,gya9,h⟩:=ac h
  exact kQ h (nA gV (e185_++(e187_++(e189_++[(10,⟨[],[],[(56,[(vI xa7)])],[(58,vT)],[],[],[],[],[]⟩),bh 11 [] [(61,(bT bi.enc ya9))]])))) [wK 1 [2] [4] 4] wV (co rfl fT) (fun z=>(c184_ _ (c186_ _ (c188_ _ (aB ha8 (aI (gU n 4 (ah .i64 (cT .i64 sa xa2.At) xa2.Pair) xa4 ya9 gya9) z)))))) (by kernel_rfl)
 let e190_:LR:=[(10,⟨[],[],[(56,[(vI xa7)])],[(58,vF)],[],[],[],[],[]⟩)]
 rcases jC h with ⟨ha9,h⟩ | ⟨za9,ha10,h⟩
 ·
  obtain ⟨ta10,gta10,h⟩:=ac h
  have c191_:=fun (R:Prop) (z:R)=>(aB ha8 (aI (qN oE xa2.Addr ha9:∀ k':AV→Prop,k' (.nilsl)→cK Tryz.prog 40 ((vU xa2.Addr)) (oE.map (dr (aR .u64) (ep eI))) fun _ r=>eJ Tryz.prog 24 false (oE.map (dr (aR .u64) (ep eI))) r k') z))
  rcases ta10 with wa11 | wa11
  ·
   exact kQ h ⟨gV,(e185_++(e187_++(e189_++(e190_++[bh 12 [] [(68,.nilsl)]])))),[],[(13,(⟨[0,2,3,4,5,6,14,15,16,68,69,70],[],4,[],[],[]⟩,⟨[(68,.sl (([]:List Int).map eI))],[],[]⟩,(.ex 2),Hh oA oB oC oD oE oF oG xa2 wa11))],[]⟩ [wK 0 [0,2,14,15,16] [] 4] wV cS (fun z=>(c184_ _ (c186_ _ (c188_ _ (c191_ _ (aI (aJ.nil:aJ (.nilsl) (.sl (([]:List Int).map eI))) (aI (eA (pl:=ao 41) (xU oA oB oC oD oE oF oG xa2) (Ap oA oB oC oD oE oF oG xa2) (BU n oA oB oC oD oE oF oG xa2) n _ (.inl wa11) gta10) z))))))) (by kernel_rfl)
  ·
   exact kQ h ⟨gV,(e185_++(e187_++(e189_++(e190_++[bh 12 [] [(68,.nilsl)]])))),[],[(13,(⟨[0,2,3,4,5,6,14,15,16,68,69,70],[],4,[],[],[]⟩,⟨[(68,.sl (([]:List Int).map eI))],[],[]⟩,.ret,Hi oA oB oC oD oE oF oG xa2 wa11))],[]⟩ [wK 1 [2] [] 4] wV (co rfl fT) (fun z=>(c184_ _ (c186_ _ (c188_ _ (c191_ _ (aI (aJ.nil:aJ (.nilsl) (.sl (([]:List Int).map eI))) (aI (eA (pl:=ao 41) (xU oA oB oC oD oE oF oG xa2) (Ap oA oB oC oD oE oF oG xa2) (BU n oA oB oC oD oE oF oG xa2) n _ (.inr wa11) gta10) z))))))) (by kernel_rfl)
 ·
  obtain ⟨ta11,gta11,h⟩:=ac h
  have c192_:=fun (R:Prop) (z:R)=>(aB ha8 (aI (qO oE xa2.Addr ha10:∀ k':AV→Prop,k' (.sl (za9.map eI))→cK Tryz.prog 40 ((vU xa2.Addr)) (oE.map (dr (aR .u64) (ep eI))) fun _ r=>eJ Tryz.prog 24 false (oE.map (dr (aR .u64) (ep eI))) r k') (aL eI za9 z)))
  rcases ta11 with wa12 | wa12
  ·
   exact kQ h ⟨gV,(e185_++(e187_++(e189_++(e190_++[bh 12 [(69,(vI (za9.length:Int)))] [(68,.sl (za9.map eI))]])))),[],[(13,(⟨[0,2,3,4,5,6,14,15,16,68,69,70],[],4,[],[],[]⟩,l0,(.ex 2),Hh oA oB oC oD oE oF oG xa2 wa12))],[]⟩ [wK 0 [0,2,14,15,16] [] 4] wV cS (fun z=>(c184_ _ (c186_ _ (c188_ _ (c192_ _ (aI (eA (pl:=ao 41) (xU oA oB oC oD oE oF oG xa2) (Ap oA oB oC oD oE oF oG xa2) (BU n oA oB oC oD oE oF oG xa2) n _ (.inl wa12) gta11) z)))))) (by kernel_rfl)
  ·
   exact kQ h ⟨gV,(e185_++(e187_++(e189_++(e190_++[bh 12 [(69,(vI (za9.length:Int)))] [(68,.sl (za9.map eI))]])))),[],[(13,(⟨[0,2,3,4,5,6,14,15,16,68,69,70],[],4,[],[],[]⟩,l0,.ret,Hi oA oB oC oD oE oF oG xa2 wa12))],[]⟩ [wK 1 [2] [] 4] wV (co rfl fT) (fun z=>(c184_ _ (c186_ _ (c188_ _ (c192_ _ (aI (eA (pl:=ao 41) (xU oA oB oC oD oE oF oG xa2) (Ap oA oB oC oD oE oF oG xa2) (BU n oA oB oC oD oE oF oG xa2) n _ (.inr wa12) gta11) z)))))) (by kernel_rfl)

def jY (oA:(List Cell)) (oB:(List (List Event))) (oC:(List Int)) (oD:(List Int)) (oE:(List (Int×(List Int)))) (oF:(List Event)) (oG:(List Int)) (y:(Bool×Int×Int×Int)):AV×List Ob:=(.agg [.v (.bool y.1),(vI y.2.1),(vI y.2.2.1),(vI y.2.2.2)],[.arr true 4 [[.sl (oA.map Cell.enc),.sl (oB.map (et Event.enc)),.sl (oC.map eI),.sl (oD.map eI)]],.mapo true (oE.map (dr (aR .u64) (ep eI))),.arr false 4 [[.ptr (.O 0) 0 0,.sl (oF.map Event.enc),.sl (oG.map eI),.mp 1]],.arr false 1 [[.fn 39 [.ptr (.O 2) 0 0] []],[.fn 40 [.ptr (.O 2) 0 0] []],[.fn 41 [.ptr (.O 2) 0 0] []]]])
theorem iW (n:Nat) (oA:(List Cell)) (oB:(List (List Event))) (oC:(List Int)) (oD:(List Int)) (oE:(List (Int×(List Int)))) (oF:(List Event)) (oG:(List Int)) (y:(Bool×Int×Int×Int)) (h:ef n oA oB oC oD oE oF oG=some y):SD Tryz.prog 41 [.ptr (.O 2) 0 0] [.arr true 4 [[.sl (oA.map Cell.enc),.sl (oB.map (et Event.enc)),.sl (oC.map eI),.sl (oD.map eI)]],.mapo true (oE.map (dr (aR .u64) (ep eI))),.arr false 4 [[.ptr (.O 0) 0 0,.sl (oF.map Event.enc),.sl (oG.map eI),.mp 1]],.arr false 1 [[.fn 39 [.ptr (.O 2) 0 0] []],[.fn 40 [.ptr (.O 2) 0 0] []],[.fn 41 [.ptr (.O 2) 0 0] []]]] (fun r' o'=>r'=(jY oA oB oC oD oE oF oG y).1∧o'=(jY oA oB oC oD oE oF oG y).2):=by
 unfold ef at h
 obtain ⟨t1,gt1,h⟩:=ac h
 rcases t1 with w2 | w2
 ·
  obtain ⟨y3,gy3,h⟩:=ac h
  obtain rfl:=aS h
  exact kS ⟨gV,[rV 1 [(15,(vI (oF.length:Int)))],bh 20 [] [(113,(bT bi.enc y3))]],[],[(2,(⟨[0,2,14,15,16],[],4,[],[],[]⟩,l0,(.ex 0),NS oA oB oC oD oE oF oG w2))],[]⟩ Hf ⟨rfl,rfl⟩ (fun z=>(aL Event.enc oF (aI (eA (pl:=ao 41) (I3 oA oB oC oD oE oF oG) (Lt oA oB oC oD oE oF oG) (NU n oA oB oC oD oE oF oG) n _ (.inl w2) gt1) (aI (iU n y3 gy3) z)))) (by kernel_rfl)
 ·
  obtain rfl:=aS h
  exact kS ⟨gV,[rV 1 [(15,(vI (oF.length:Int)))]],[],[(2,(⟨[0,2,14,15,16],[],4,[],[],[]⟩,l0,.ret,NT oA oB oC oD oE oF oG w2))],[]⟩ Hf ⟨rfl,rfl⟩ (fun z=>(aL Event.enc oF (aI (eA (pl:=ao 41) (I3 oA oB oC oD oE oF oG) (Lt oA oB oC oD oE oF oG) (NU n oA oB oC oD oE oF oG) n _ (.inr w2) gt1) z))) (by kernel_rfl)

def jZ:List (Nat×PT):=[]
theorem wW:aA (ao 20) jZ (al Tryz.prog 20)=true:=by kernel_rfl
noncomputable def qV:Code:=sub (al Tryz.prog 20) [1,1,1,0,1,0,0]
theorem xV:aA (ao 20) jZ qV=true:=by kernel_rfl
theorem jm (c:af) (wb2:(List (Int×(List Int)))×(List Event)×(List Int)) (y3:(Bool×Int×Int×Int)) (K:Ex→St→Prop):oR pc sc lp cd (nA jZ [(7,⟨[],[],[],[],[],[(24,(.agg [.v (.bool y3.1),(vI y3.2.1),(vI y3.2.2.1),(vI y3.2.2.2)],[.arr true 4 [(af.enc c)],.mapo true (wb2.1.map (dr (aR .u64) (ep eI))),.arr false 4 [[.ptr (.O 0) 0 0,.sl (wb2.2.1.map Event.enc),.sl (wb2.2.2.map eI),.mp 1]],.arr false 1 [[.fn 39 [.ptr (.O 2) 0 0] []],[.fn 40 [.ptr (.O 2) 0 0] []],[.fn 41 [.ptr (.O 2) 0 0] []]]]))],[],[],[]⟩),rV 8 [(27,vT)]]) (ao 20) [wK 1 [2] [6] 0] qV (bm 31 [(2,.ptr (.L 2) 0 0),(17,.mf 3),(18,(vI 3)),(19,(vI 0))] [(2,[vF,(vI 0),(vI 0),(vI 0)])] [.arr true 4 [(af.enc c)],.mapo true (wb2.1.map (dr (aR .u64) (ep eI))),.arr false 4 [[.ptr (.O 0) 0 0,.sl (wb2.2.1.map Event.enc),.sl (wb2.2.2.map eI),.mp 1]],.arr false 1 [[.fn 39 [.ptr (.O 2) 0 0] []],[.fn 40 [.ptr (.O 2) 0 0] []],[.fn 41 [.ptr (.O 2) 0 0] []]]] 0) K
  = ((sc 39 [.ptr (.O 2) 0 0] [.arr true 4 [(af.enc c)],.mapo true (wb2.1.map (dr (aR .u64) (ep eI))),.arr false 4 [[.ptr (.O 0) 0 0,.sl (wb2.2.1.map Event.enc),.sl (wb2.2.2.map eI),.mp 1]],.arr false 1 [[.fn 39 [.ptr (.O 2) 0 0] []],[.fn 40 [.ptr (.O 2) 0 0] []],[.fn 41 [.ptr (.O 2) 0 0] []]]] (fun r' o'=>r'=.agg [.v (.bool y3.1),(vI y3.2.1),(vI y3.2.2.1),(vI y3.2.2.2)]∧o'=[.arr true 4 [(af.enc c)],.mapo true (wb2.1.map (dr (aR .u64) (ep eI))),.arr false 4 [[.ptr (.O 0) 0 0,.sl (wb2.2.1.map Event.enc),.sl (wb2.2.2.map eI),.mp 1]],.arr false 1 [[.fn 39 [.ptr (.O 2) 0 0] []],[.fn 40 [.ptr (.O 2) 0 0] []],[.fn 41 [.ptr (.O 2) 0 0] []]]]))∧(IC (!y3.1) true)∧K .ret (bm 31 [(2,.ptr (.L 2) 0 0)] [(2,[.v (.bool y3.1),(vI y3.2.1),(vI y3.2.2.1),(vI y3.2.2.2)])] [] 0)):=by kernel_rfl
theorem jn (c:af) (wb2:(List (Int×(List Int)))×(List Event)×(List Int)) (y3:(Bool×Int×Int×Int)) (K:Ex→St→Prop):oR pc sc lp cd (nA jZ [(7,⟨[],[],[],[],[],[(24,(.agg [.v (.bool y3.1),(vI y3.2.1),(vI y3.2.2.1),(vI y3.2.2.2)],[.arr true 4 [(af.enc c)],.mapo true (wb2.1.map (dr (aR .u64) (ep eI))),.arr false 4 [[.ptr (.O 0) 0 0,.sl (wb2.2.1.map Event.enc),.sl (wb2.2.2.map eI),.mp 1]],.arr false 1 [[.fn 39 [.ptr (.O 2) 0 0] []],[.fn 40 [.ptr (.O 2) 0 0] []],[.fn 41 [.ptr (.O 2) 0 0] []]]]))],[],[],[]⟩),rV 8 [(27,vF)]]) (ao 20) [wK 0 [2,17,18,19] [6] 4] qV (bm 31 [(2,.ptr (.L 2) 0 0),(17,.mf 3),(18,(vI 3)),(19,(vI 0))] [(2,[vF,(vI 0),(vI 0),(vI 0)])] [.arr true 4 [(af.enc c)],.mapo true (wb2.1.map (dr (aR .u64) (ep eI))),.arr false 4 [[.ptr (.O 0) 0 0,.sl (wb2.2.1.map Event.enc),.sl (wb2.2.2.map eI),.mp 1]],.arr false 1 [[.fn 39 [.ptr (.O 2) 0 0] []],[.fn 40 [.ptr (.O 2) 0 0] []],[.fn 41 [.ptr (.O 2) 0 0] []]]] 0) K
  = ((sc 39 [.ptr (.O 2) 0 0] [.arr true 4 [(af.enc c)],.mapo true (wb2.1.map (dr (aR .u64) (ep eI))),.arr false 4 [[.ptr (.O 0) 0 0,.sl (wb2.2.1.map Event.enc),.sl (wb2.2.2.map eI),.mp 1]],.arr false 1 [[.fn 39 [.ptr (.O 2) 0 0] []],[.fn 40 [.ptr (.O 2) 0 0] []],[.fn 41 [.ptr (.O 2) 0 0] []]]] (fun r' o'=>r'=.agg [.v (.bool y3.1),(vI y3.2.1),(vI y3.2.2.1),(vI y3.2.2.2)]∧o'=[.arr true 4 [(af.enc c)],.mapo true (wb2.1.map (dr (aR .u64) (ep eI))),.arr false 4 [[.ptr (.O 0) 0 0,.sl (wb2.2.1.map Event.enc),.sl (wb2.2.2.map eI),.mp 1]],.arr false 1 [[.fn 39 [.ptr (.O 2) 0 0] []],[.fn 40 [.ptr (.O 2) 0 0] []],[.fn 41 [.ptr (.O 2) 0 0] []]]]))∧(IC (!y3.1) false)∧K .nrm (bm 31 [(2,.ptr (.L 2) 0 0),(17,.mf 3),(18,(vI 3)),(19,(vI 1))] [(2,[vF,(vI 0),(vI 0),(vI 0)])] [.arr true 4 [(af.enc c)],.mapo true (wb2.1.map (dr (aR .u64) (ep eI))),.arr false 4 [[.ptr (.O 0) 0 0,.sl (wb2.2.1.map Event.enc),.sl (wb2.2.2.map eI),.mp 1]],.arr false 1 [[.fn 39 [.ptr (.O 2) 0 0] []],[.fn 40 [.ptr (.O 2) 0 0] []],[.fn 41 [.ptr (.O 2) 0 0] []]]] 0)):=by kernel_rfl
theorem jo (c:af) (wb2:(List (Int×(List Int)))×(List Event)×(List Int)) (y5:(Bool×Int×Int×Int)) (K:Ex→St→Prop):oR pc sc lp cd (nA jZ [(7,⟨[],[],[],[],[],[(24,(.agg [.v (.bool y5.1),(vI y5.2.1),(vI y5.2.2.1),(vI y5.2.2.2)],[.arr true 4 [(af.enc c)],.mapo true (wb2.1.map (dr (aR .u64) (ep eI))),.arr false 4 [[.ptr (.O 0) 0 0,.sl (wb2.2.1.map Event.enc),.sl (wb2.2.2.map eI),.mp 1]],.arr false 1 [[.fn 39 [.ptr (.O 2) 0 0] []],[.fn 40 [.ptr (.O 2) 0 0] []],[.fn 41 [.ptr (.O 2) 0 0] []]]]))],[],[],[]⟩),rV 8 [(27,vT)]]) (ao 20) [wK 1 [2] [6] 0] qV (bm 31 [(2,.ptr (.L 2) 0 0),(17,.mf 3),(18,(vI 3)),(19,(vI 1))] [(2,[vF,(vI 0),(vI 0),(vI 0)])] [.arr true 4 [(af.enc c)],.mapo true (wb2.1.map (dr (aR .u64) (ep eI))),.arr false 4 [[.ptr (.O 0) 0 0,.sl (wb2.2.1.map Event.enc),.sl (wb2.2.2.map eI),.mp 1]],.arr false 1 [[.fn 39 [.ptr (.O 2) 0 0] []],[.fn 40 [.ptr (.O 2) 0 0] []],[.fn 41 [.ptr (.O 2) 0 0] []]]] 0) K
  = ((sc 40 [.ptr (.O 2) 0 0] [.arr true 4 [(af.enc c)],.mapo true (wb2.1.map (dr (aR .u64) (ep eI))),.arr false 4 [[.ptr (.O 0) 0 0,.sl (wb2.2.1.map Event.enc),.sl (wb2.2.2.map eI),.mp 1]],.arr false 1 [[.fn 39 [.ptr (.O 2) 0 0] []],[.fn 40 [.ptr (.O 2) 0 0] []],[.fn 41 [.ptr (.O 2) 0 0] []]]] (fun r' o'=>r'=.agg [.v (.bool y5.1),(vI y5.2.1),(vI y5.2.2.1),(vI y5.2.2.2)]∧o'=[.arr true 4 [(af.enc c)],.mapo true (wb2.1.map (dr (aR .u64) (ep eI))),.arr false 4 [[.ptr (.O 0) 0 0,.sl (wb2.2.1.map Event.enc),.sl (wb2.2.2.map eI),.mp 1]],.arr false 1 [[.fn 39 [.ptr (.O 2) 0 0] []],[.fn 40 [.ptr (.O 2) 0 0] []],[.fn 41 [.ptr (.O 2) 0 0] []]]]))∧(IC (!y5.1) true)∧K .ret (bm 31 [(2,.ptr (.L 2) 0 0)] [(2,[.v (.bool y5.1),(vI y5.2.1),(vI y5.2.2.1),(vI y5.2.2.2)])] [] 0)):=by kernel_rfl
theorem jp (c:af) (wb2:(List (Int×(List Int)))×(List Event)×(List Int)) (y3:(Bool×Int×Int×Int)) (K:Ex→St→Prop):oR pc sc lp cd (nA jZ [(7,⟨[],[],[],[],[],[(24,(.agg [.v (.bool y3.1),(vI y3.2.1),(vI y3.2.2.1),(vI y3.2.2.2)],[.arr true 4 [(af.enc c)],.mapo true (wb2.1.map (dr (aR .u64) (ep eI))),.arr false 4 [[.ptr (.O 0) 0 0,.sl (wb2.2.1.map Event.enc),.sl (wb2.2.2.map eI),.mp 1]],.arr false 1 [[.fn 39 [.ptr (.O 2) 0 0] []],[.fn 40 [.ptr (.O 2) 0 0] []],[.fn 41 [.ptr (.O 2) 0 0] []]]]))],[],[],[]⟩),rV 8 [(27,vF)]]) (ao 20) [wK 0 [2,17,18,19] [6] 4] qV (bm 31 [(2,.ptr (.L 2) 0 0),(17,.mf 3),(18,(vI 3)),(19,(vI 0))] [(2,[vF,(vI 0),(vI 0),(vI 0)])] [.arr true 4 [(af.enc c)],.mapo true (wb2.1.map (dr (aR .u64) (ep eI))),.arr false 4 [[.ptr (.O 0) 0 0,.sl (wb2.2.1.map Event.enc),.sl (wb2.2.2.map eI),.mp 1]],.arr false 1 [[.fn 39 [.ptr (.O 2) 0 0] []],[.fn 40 [.ptr (.O 2) 0 0] []],[.fn 41 [.ptr (.O 2) 0 0] []]]] 0) K
  = ((sc 39 [.ptr (.O 2) 0 0] [.arr true 4 [(af.enc c)],.mapo true (wb2.1.map (dr (aR .u64) (ep eI))),.arr false 4 [[.ptr (.O 0) 0 0,.sl (wb2.2.1.map Event.enc),.sl (wb2.2.2.map eI),.mp 1]],.arr false 1 [[.fn 39 [.ptr (.O 2) 0 0] []],[.fn 40 [.ptr (.O 2) 0 0] []],[.fn 41 [.ptr (.O 2) 0 0] []]]] (fun r' o'=>r'=.agg [.v (.bool y3.1),(vI y3.2.1),(vI y3.2.2.1),(vI y3.2.2.2)]∧o'=[.arr true 4 [(af.enc c)],.mapo true (wb2.1.map (dr (aR .u64) (ep eI))),.arr false 4 [[.ptr (.O 0) 0 0,.sl (wb2.2.1.map Event.enc),.sl (wb2.2.2.map eI),.mp 1]],.arr false 1 [[.fn 39 [.ptr (.O 2) 0 0] []],[.fn 40 [.ptr (.O 2) 0 0] []],[.fn 41 [.ptr (.O 2) 0 0] []]]]))∧(IC (!y3.1) false)∧K .nrm (bm 31 [(2,.ptr (.L 2) 0 0),(17,.mf 3),(18,(vI 3)),(19,(vI 1))] [(2,[vF,(vI 0),(vI 0),(vI 0)])] [.arr true 4 [(af.enc c)],.mapo true (wb2.1.map (dr (aR .u64) (ep eI))),.arr false 4 [[.ptr (.O 0) 0 0,.sl (wb2.2.1.map Event.enc),.sl (wb2.2.2.map eI),.mp 1]],.arr false 1 [[.fn 39 [.ptr (.O 2) 0 0] []],[.fn 40 [.ptr (.O 2) 0 0] []],[.fn 41 [.ptr (.O 2) 0 0] []]]] 0)):=by kernel_rfl
theorem jq (c:af) (wb2:(List (Int×(List Int)))×(List Event)×(List Int)) (y5:(Bool×Int×Int×Int)) (K:Ex→St→Prop):oR pc sc lp cd (nA jZ [(7,⟨[],[],[],[],[],[(24,(.agg [.v (.bool y5.1),(vI y5.2.1),(vI y5.2.2.1),(vI y5.2.2.2)],[.arr true 4 [(af.enc c)],.mapo true (wb2.1.map (dr (aR .u64) (ep eI))),.arr false 4 [[.ptr (.O 0) 0 0,.sl (wb2.2.1.map Event.enc),.sl (wb2.2.2.map eI),.mp 1]],.arr false 1 [[.fn 39 [.ptr (.O 2) 0 0] []],[.fn 40 [.ptr (.O 2) 0 0] []],[.fn 41 [.ptr (.O 2) 0 0] []]]]))],[],[],[]⟩),rV 8 [(27,vF)]]) (ao 20) [wK 0 [2,17,18,19] [6] 4] qV (bm 31 [(2,.ptr (.L 2) 0 0),(17,.mf 3),(18,(vI 3)),(19,(vI 1))] [(2,[vF,(vI 0),(vI 0),(vI 0)])] [.arr true 4 [(af.enc c)],.mapo true (wb2.1.map (dr (aR .u64) (ep eI))),.arr false 4 [[.ptr (.O 0) 0 0,.sl (wb2.2.1.map Event.enc),.sl (wb2.2.2.map eI),.mp 1]],.arr false 1 [[.fn 39 [.ptr (.O 2) 0 0] []],[.fn 40 [.ptr (.O 2) 0 0] []],[.fn 41 [.ptr (.O 2) 0 0] []]]] 0) K
  = ((sc 40 [.ptr (.O 2) 0 0] [.arr true 4 [(af.enc c)],.mapo true (wb2.1.map (dr (aR .u64) (ep eI))),.arr false 4 [[.ptr (.O 0) 0 0,.sl (wb2.2.1.map Event.enc),.sl (wb2.2.2.map eI),.mp 1]],.arr false 1 [[.fn 39 [.ptr (.O 2) 0 0] []],[.fn 40 [.ptr (.O 2) 0 0] []],[.fn 41 [.ptr (.O 2) 0 0] []]]] (fun r' o'=>r'=.agg [.v (.bool y5.1),(vI y5.2.1),(vI y5.2.2.1),(vI y5.2.2.2)]∧o'=[.arr true 4 [(af.enc c)],.mapo true (wb2.1.map (dr (aR .u64) (ep eI))),.arr false 4 [[.ptr (.O 0) 0 0,.sl (wb2.2.1.map Event.enc),.sl (wb2.2.2.map eI),.mp 1]],.arr false 1 [[.fn 39 [.ptr (.O 2) 0 0] []],[.fn 40 [.ptr (.O 2) 0 0] []],[.fn 41 [.ptr (.O 2) 0 0] []]]]))∧(IC (!y5.1) false)∧K .nrm (bm 31 [(2,.ptr (.L 2) 0 0),(17,.mf 3),(18,(vI 3)),(19,(vI 2))] [(2,[vF,(vI 0),(vI 0),(vI 0)])] [.arr true 4 [(af.enc c)],.mapo true (wb2.1.map (dr (aR .u64) (ep eI))),.arr false 4 [[.ptr (.O 0) 0 0,.sl (wb2.2.1.map Event.enc),.sl (wb2.2.2.map eI),.mp 1]],.arr false 1 [[.fn 39 [.ptr (.O 2) 0 0] []],[.fn 40 [.ptr (.O 2) 0 0] []],[.fn 41 [.ptr (.O 2) 0 0] []]]] 0)):=by kernel_rfl
theorem jr (c:af) (wb2:(List (Int×(List Int)))×(List Event)×(List Int)) (y7:(Bool×Int×Int×Int)) (K:Ex→St→Prop):oR pc sc lp cd (nA jZ [(7,⟨[],[],[],[],[],[(24,(.agg [.v (.bool y7.1),(vI y7.2.1),(vI y7.2.2.1),(vI y7.2.2.2)],[.arr true 4 [(af.enc c)],.mapo true (wb2.1.map (dr (aR .u64) (ep eI))),.arr false 4 [[.ptr (.O 0) 0 0,.sl (wb2.2.1.map Event.enc),.sl (wb2.2.2.map eI),.mp 1]],.arr false 1 [[.fn 39 [.ptr (.O 2) 0 0] []],[.fn 40 [.ptr (.O 2) 0 0] []],[.fn 41 [.ptr (.O 2) 0 0] []]]]))],[],[],[]⟩),rV 8 [(27,vT)]]) (ao 20) [wK 1 [2] [6] 0] qV (bm 31 [(2,.ptr (.L 2) 0 0),(17,.mf 3),(18,(vI 3)),(19,(vI 2))] [(2,[vF,(vI 0),(vI 0),(vI 0)])] [.arr true 4 [(af.enc c)],.mapo true (wb2.1.map (dr (aR .u64) (ep eI))),.arr false 4 [[.ptr (.O 0) 0 0,.sl (wb2.2.1.map Event.enc),.sl (wb2.2.2.map eI),.mp 1]],.arr false 1 [[.fn 39 [.ptr (.O 2) 0 0] []],[.fn 40 [.ptr (.O 2) 0 0] []],[.fn 41 [.ptr (.O 2) 0 0] []]]] 0) K
  = ((sc 41 [.ptr (.O 2) 0 0] [.arr true 4 [(af.enc c)],.mapo true (wb2.1.map (dr (aR .u64) (ep eI))),.arr false 4 [[.ptr (.O 0) 0 0,.sl (wb2.2.1.map Event.enc),.sl (wb2.2.2.map eI),.mp 1]],.arr false 1 [[.fn 39 [.ptr (.O 2) 0 0] []],[.fn 40 [.ptr (.O 2) 0 0] []],[.fn 41 [.ptr (.O 2) 0 0] []]]] (fun r' o'=>r'=.agg [.v (.bool y7.1),(vI y7.2.1),(vI y7.2.2.1),(vI y7.2.2.2)]∧o'=[.arr true 4 [(af.enc c)],.mapo true (wb2.1.map (dr (aR .u64) (ep eI))),.arr false 4 [[.ptr (.O 0) 0 0,.sl (wb2.2.1.map Event.enc),.sl (wb2.2.2.map eI),.mp 1]],.arr false 1 [[.fn 39 [.ptr (.O 2) 0 0] []],[.fn 40 [.ptr (.O 2) 0 0] []],[.fn 41 [.ptr (.O 2) 0 0] []]]]))∧(IC (!y7.1) true)∧K .ret (bm 31 [(2,.ptr (.L 2) 0 0)] [(2,[.v (.bool y7.1),(vI y7.2.1),(vI y7.2.2.1),(vI y7.2.2.2)])] [] 0)):=by kernel_rfl
theorem jt (c:af) (wb2:(List (Int×(List Int)))×(List Event)×(List Int)) (y3:(Bool×Int×Int×Int)) (K:Ex→St→Prop):oR pc sc lp cd (nA jZ [(7,⟨[],[],[],[],[],[(24,(.agg [.v (.bool y3.1),(vI y3.2.1),(vI y3.2.2.1),(vI y3.2.2.2)],[.arr true 4 [(af.enc c)],.mapo true (wb2.1.map (dr (aR .u64) (ep eI))),.arr false 4 [[.ptr (.O 0) 0 0,.sl (wb2.2.1.map Event.enc),.sl (wb2.2.2.map eI),.mp 1]],.arr false 1 [[.fn 39 [.ptr (.O 2) 0 0] []],[.fn 40 [.ptr (.O 2) 0 0] []],[.fn 41 [.ptr (.O 2) 0 0] []]]]))],[],[],[]⟩),rV 8 [(27,vF)]]) (ao 20) [wK 0 [2,17,18,19] [6] 4] qV (bm 31 [(2,.ptr (.L 2) 0 0),(17,.mf 3),(18,(vI 3)),(19,(vI 0))] [(2,[vF,(vI 0),(vI 0),(vI 0)])] [.arr true 4 [(af.enc c)],.mapo true (wb2.1.map (dr (aR .u64) (ep eI))),.arr false 4 [[.ptr (.O 0) 0 0,.sl (wb2.2.1.map Event.enc),.sl (wb2.2.2.map eI),.mp 1]],.arr false 1 [[.fn 39 [.ptr (.O 2) 0 0] []],[.fn 40 [.ptr (.O 2) 0 0] []],[.fn 41 [.ptr (.O 2) 0 0] []]]] 0) K
  = ((sc 39 [.ptr (.O 2) 0 0] [.arr true 4 [(af.enc c)],.mapo true (wb2.1.map (dr (aR .u64) (ep eI))),.arr false 4 [[.ptr (.O 0) 0 0,.sl (wb2.2.1.map Event.enc),.sl (wb2.2.2.map eI),.mp 1]],.arr false 1 [[.fn 39 [.ptr (.O 2) 0 0] []],[.fn 40 [.ptr (.O 2) 0 0] []],[.fn 41 [.ptr (.O 2) 0 0] []]]] (fun r' o'=>r'=.agg [.v (.bool y3.1),(vI y3.2.1),(vI y3.2.2.1),(vI y3.2.2.2)]∧o'=[.arr true 4 [(af.enc c)],.mapo true (wb2.1.map (dr (aR .u64) (ep eI))),.arr false 4 [[.ptr (.O 0) 0 0,.sl (wb2.2.1.map Event.enc),.sl (wb2.2.2.map eI),.mp 1]],.arr false 1 [[.fn 39 [.ptr (.O 2) 0 0] []],[.fn 40 [.ptr (.O 2) 0 0] []],[.fn 41 [.ptr (.O 2) 0 0] []]]]))∧(IC (!y3.1) false)∧K .nrm (bm 31 [(2,.ptr (.L 2) 0 0),(17,.mf 3),(18,(vI 3)),(19,(vI 1))] [(2,[vF,(vI 0),(vI 0),(vI 0)])] [.arr true 4 [(af.enc c)],.mapo true (wb2.1.map (dr (aR .u64) (ep eI))),.arr false 4 [[.ptr (.O 0) 0 0,.sl (wb2.2.1.map Event.enc),.sl (wb2.2.2.map eI),.mp 1]],.arr false 1 [[.fn 39 [.ptr (.O 2) 0 0] []],[.fn 40 [.ptr (.O 2) 0 0] []],[.fn 41 [.ptr (.O 2) 0 0] []]]] 0)):=by kernel_rfl
theorem ju (c:af) (wb2:(List (Int×(List Int)))×(List Event)×(List Int)) (y5:(Bool×Int×Int×Int)) (K:Ex→St→Prop):oR pc sc lp cd (nA jZ [(7,⟨[],[],[],[],[],[(24,(.agg [.v (.bool y5.1),(vI y5.2.1),(vI y5.2.2.1),(vI y5.2.2.2)],[.arr true 4 [(af.enc c)],.mapo true (wb2.1.map (dr (aR .u64) (ep eI))),.arr false 4 [[.ptr (.O 0) 0 0,.sl (wb2.2.1.map Event.enc),.sl (wb2.2.2.map eI),.mp 1]],.arr false 1 [[.fn 39 [.ptr (.O 2) 0 0] []],[.fn 40 [.ptr (.O 2) 0 0] []],[.fn 41 [.ptr (.O 2) 0 0] []]]]))],[],[],[]⟩),rV 8 [(27,vF)]]) (ao 20) [wK 0 [2,17,18,19] [6] 4] qV (bm 31 [(2,.ptr (.L 2) 0 0),(17,.mf 3),(18,(vI 3)),(19,(vI 1))] [(2,[vF,(vI 0),(vI 0),(vI 0)])] [.arr true 4 [(af.enc c)],.mapo true (wb2.1.map (dr (aR .u64) (ep eI))),.arr false 4 [[.ptr (.O 0) 0 0,.sl (wb2.2.1.map Event.enc),.sl (wb2.2.2.map eI),.mp 1]],.arr false 1 [[.fn 39 [.ptr (.O 2) 0 0] []],[.fn 40 [.ptr (.O 2) 0 0] []],[.fn 41 [.ptr (.O 2) 0 0] []]]] 0) K
  = ((sc 40 [.ptr (.O 2) 0 0] [.arr true 4 [(af.enc c)],.mapo true (wb2.1.map (dr (aR .u64) (ep eI))),.arr false 4 [[.ptr (.O 0) 0 0,.sl (wb2.2.1.map Event.enc),.sl (wb2.2.2.map eI),.mp 1]],.arr false 1 [[.fn 39 [.ptr (.O 2) 0 0] []],[.fn 40 [.ptr (.O 2) 0 0] []],[.fn 41 [.ptr (.O 2) 0 0] []]]] (fun r' o'=>r'=.agg [.v (.bool y5.1),(vI y5.2.1),(vI y5.2.2.1),(vI y5.2.2.2)]∧o'=[.arr true 4 [(af.enc c)],.mapo true (wb2.1.map (dr (aR .u64) (ep eI))),.arr false 4 [[.ptr (.O 0) 0 0,.sl (wb2.2.1.map Event.enc),.sl (wb2.2.2.map eI),.mp 1]],.arr false 1 [[.fn 39 [.ptr (.O 2) 0 0] []],[.fn 40 [.ptr (.O 2) 0 0] []],[.fn 41 [.ptr (.O 2) 0 0] []]]]))∧(IC (!y5.1) false)∧K .nrm (bm 31 [(2,.ptr (.L 2) 0 0),(17,.mf 3),(18,(vI 3)),(19,(vI 2))] [(2,[vF,(vI 0),(vI 0),(vI 0)])] [.arr true 4 [(af.enc c)],.mapo true (wb2.1.map (dr (aR .u64) (ep eI))),.arr false 4 [[.ptr (.O 0) 0 0,.sl (wb2.2.1.map Event.enc),.sl (wb2.2.2.map eI),.mp 1]],.arr false 1 [[.fn 39 [.ptr (.O 2) 0 0] []],[.fn 40 [.ptr (.O 2) 0 0] []],[.fn 41 [.ptr (.O 2) 0 0] []]]] 0)):=by kernel_rfl
theorem jw (c:af) (wb2:(List (Int×(List Int)))×(List Event)×(List Int)) (y7:(Bool×Int×Int×Int)) (K:Ex→St→Prop):oR pc sc lp cd (nA jZ [(7,⟨[],[],[],[],[],[(24,(.agg [.v (.bool y7.1),(vI y7.2.1),(vI y7.2.2.1),(vI y7.2.2.2)],[.arr true 4 [(af.enc c)],.mapo true (wb2.1.map (dr (aR .u64) (ep eI))),.arr false 4 [[.ptr (.O 0) 0 0,.sl (wb2.2.1.map Event.enc),.sl (wb2.2.2.map eI),.mp 1]],.arr false 1 [[.fn 39 [.ptr (.O 2) 0 0] []],[.fn 40 [.ptr (.O 2) 0 0] []],[.fn 41 [.ptr (.O 2) 0 0] []]]]))],[],[],[]⟩),rV 8 [(27,vF)]]) (ao 20) [wK 0 [2,17,18,19] [6] 4] qV (bm 31 [(2,.ptr (.L 2) 0 0),(17,.mf 3),(18,(vI 3)),(19,(vI 2))] [(2,[vF,(vI 0),(vI 0),(vI 0)])] [.arr true 4 [(af.enc c)],.mapo true (wb2.1.map (dr (aR .u64) (ep eI))),.arr false 4 [[.ptr (.O 0) 0 0,.sl (wb2.2.1.map Event.enc),.sl (wb2.2.2.map eI),.mp 1]],.arr false 1 [[.fn 39 [.ptr (.O 2) 0 0] []],[.fn 40 [.ptr (.O 2) 0 0] []],[.fn 41 [.ptr (.O 2) 0 0] []]]] 0) K
  = ((sc 41 [.ptr (.O 2) 0 0] [.arr true 4 [(af.enc c)],.mapo true (wb2.1.map (dr (aR .u64) (ep eI))),.arr false 4 [[.ptr (.O 0) 0 0,.sl (wb2.2.1.map Event.enc),.sl (wb2.2.2.map eI),.mp 1]],.arr false 1 [[.fn 39 [.ptr (.O 2) 0 0] []],[.fn 40 [.ptr (.O 2) 0 0] []],[.fn 41 [.ptr (.O 2) 0 0] []]]] (fun r' o'=>r'=.agg [.v (.bool y7.1),(vI y7.2.1),(vI y7.2.2.1),(vI y7.2.2.2)]∧o'=[.arr true 4 [(af.enc c)],.mapo true (wb2.1.map (dr (aR .u64) (ep eI))),.arr false 4 [[.ptr (.O 0) 0 0,.sl (wb2.2.1.map Event.enc),.sl (wb2.2.2.map eI),.mp 1]],.arr false 1 [[.fn 39 [.ptr (.O 2) 0 0] []],[.fn 40 [.ptr (.O 2) 0 0] []],[.fn 41 [.ptr (.O 2) 0 0] []]]]))∧(IC (!y7.1) false)∧K .nrm (bm 31 [(2,.ptr (.L 2) 0 0),(17,.mf 3),(18,(vI 3)),(19,(vI 3))] [(2,[vF,(vI 0),(vI 0),(vI 0)])] [.arr true 4 [(af.enc c)],.mapo true (wb2.1.map (dr (aR .u64) (ep eI))),.arr false 4 [[.ptr (.O 0) 0 0,.sl (wb2.2.1.map Event.enc),.sl (wb2.2.2.map eI),.mp 1]],.arr false 1 [[.fn 39 [.ptr (.O 2) 0 0] []],[.fn 40 [.ptr (.O 2) 0 0] []],[.fn 41 [.ptr (.O 2) 0 0] []]]] 0)):=by kernel_rfl
theorem jx (c:af) (wb2:(List (Int×(List Int)))×(List Event)×(List Int)) (K:Ex→St→Prop):oR pc sc lp cd (nA jZ []) (ao 20) [wK 2 [2] [] 0] qV (bm 31 [(2,.ptr (.L 2) 0 0),(17,.mf 3),(18,(vI 3)),(19,(vI 3))] [(2,[vF,(vI 0),(vI 0),(vI 0)])] [.arr true 4 [(af.enc c)],.mapo true (wb2.1.map (dr (aR .u64) (ep eI))),.arr false 4 [[.ptr (.O 0) 0 0,.sl (wb2.2.1.map Event.enc),.sl (wb2.2.2.map eI),.mp 1]],.arr false 1 [[.fn 39 [.ptr (.O 2) 0 0] []],[.fn 40 [.ptr (.O 2) 0 0] []],[.fn 41 [.ptr (.O 2) 0 0] []]]] 0) K
  = (K (.ex 0) (bm 31 [(2,.ptr (.L 2) 0 0)] [(2,[vF,(vI 0),(vI 0),(vI 0)])] [] 0)):=by kernel_rfl
theorem j_ (n:Nat) (c:af) (r:bi) (h:f7 n c=some r):az Tryz.prog 20 [(bT af.enc c)] (eY ((bT bi.enc r))):=by
 unfold f7 at h
 obtain ⟨y1,gy1,h⟩:=ac h
 rcases y1 with wa2 | wb2
 ·
  obtain ⟨y3,gy3,h⟩:=ac h
  obtain rfl:=aS h
  exact kP (nA jZ [(1,⟨[],[],[],[],[],[(7,(.nilp,[.arr true 4 [(af.enc c)]]))],[],[],[]⟩),bh 3 [] [(10,(bT bi.enc y3))]]) wW (fun z=>(aI (oQ n c.First c.Harts c.From c.Order (.inl wa2) gy1) (aI (gU n 1 (-1) (-1) y3 gy3) z))) (by kernel_rfl)
 ·
  obtain ⟨y3,gy3,h⟩:=ac h
  have c196_:=fun (R:Prop) (z:R)=>(aI (oQ n c.First c.Harts c.From c.Order (.inr wb2) gy1) z)
  rcases au h with ⟨h4,h⟩ | ⟨h4,h⟩
  ·
   obtain rfl:=aS h
   exact kP ⟨jZ,[(1,⟨[],[],[],[],[],[(7,(.ptr (.O 2) 0 0,[.arr true 4 [(af.enc c)],.mapo true (wb2.1.map (dr (aR .u64) (ep eI))),.arr false 4 [[.ptr (.O 0) 0 0,.sl (wb2.2.1.map Event.enc),.sl (wb2.2.2.map eI),.mp 1]]]))],[],[],[]⟩)],[],[(5,(⟨[2,17,18,19],[],4,[],[],[]⟩,l0,.ret,bm 31 [(2,.ptr (.L 2) 0 0)] [(2,[.v (.bool y3.1),(vI y3.2.1),(vI y3.2.2.1),(vI y3.2.2.2)])] [] 0))],[]⟩ wW (fun z=>(c196_ _ (aI ((cD.round (cfg:=cfg) (Cd xV (Eq.mpr (jm pP sP lP dP c wb2 y3 _) ⟨dz n c.First c.Harts c.From c.Order wb2.1 wb2.2.1 wb2.2.2 y3 gy3,cB h4,⟨rfl,rfl⟩⟩) ⟨rfl,rfl⟩)):lP (ao 20) qV (bm 31 [(2,.ptr (.L 2) 0 0),(17,.mf 3),(18,(vI 3)),(19,(vI 0))] [(2,[vF,(vI 0),(vI 0),(vI 0)])] [.arr true 4 [(af.enc c)],.mapo true (wb2.1.map (dr (aR .u64) (ep eI))),.arr false 4 [[.ptr (.O 0) 0 0,.sl (wb2.2.1.map Event.enc),.sl (wb2.2.2.map eI),.mp 1]],.arr false 1 [[.fn 39 [.ptr (.O 2) 0 0] []],[.fn 40 [.ptr (.O 2) 0 0] []],[.fn 41 [.ptr (.O 2) 0 0] []]]] 0) (fun e' S'=>e'=.ret∧S'=bm 31 [(2,.ptr (.L 2) 0 0)] [(2,[.v (.bool y3.1),(vI y3.2.1),(vI y3.2.2.1),(vI y3.2.2.2)])] [] 0)) z))) (by kernel_rfl)
  obtain ⟨y5,gy5,h⟩:=ac h
  rcases au h with ⟨h6,h⟩ | ⟨h6,h⟩
  ·
   obtain rfl:=aS h
   exact kP ⟨jZ,[(1,⟨[],[],[],[],[],[(7,(.ptr (.O 2) 0 0,[.arr true 4 [(af.enc c)],.mapo true (wb2.1.map (dr (aR .u64) (ep eI))),.arr false 4 [[.ptr (.O 0) 0 0,.sl (wb2.2.1.map Event.enc),.sl (wb2.2.2.map eI),.mp 1]]]))],[],[],[]⟩)],[],[(5,(⟨[2,17,18,19],[],4,[],[],[]⟩,l0,.ret,bm 31 [(2,.ptr (.L 2) 0 0)] [(2,[.v (.bool y5.1),(vI y5.2.1),(vI y5.2.2.1),(vI y5.2.2.2)])] [] 0))],[]⟩ wW (fun z=>(c196_ _ (aI ((cD.round (cfg:=cfg) (Cd xV (Eq.mpr (jn pP sP lP dP c wb2 y3 _) ⟨dz n c.First c.Harts c.From c.Order wb2.1 wb2.2.1 wb2.2.2 y3 gy3,cB h4,⟨rfl,rfl⟩⟩) (cD.round (cfg:=cfg) (Cd xV (Eq.mpr (jo pP sP lP dP c wb2 y5 _) ⟨fb n c.First c.Harts c.From c.Order wb2.1 wb2.2.1 wb2.2.2 y5 gy5,cB h6,⟨rfl,rfl⟩⟩) ⟨rfl,rfl⟩)))):lP (ao 20) qV (bm 31 [(2,.ptr (.L 2) 0 0),(17,.mf 3),(18,(vI 3)),(19,(vI 0))] [(2,[vF,(vI 0),(vI 0),(vI 0)])] [.arr true 4 [(af.enc c)],.mapo true (wb2.1.map (dr (aR .u64) (ep eI))),.arr false 4 [[.ptr (.O 0) 0 0,.sl (wb2.2.1.map Event.enc),.sl (wb2.2.2.map eI),.mp 1]],.arr false 1 [[.fn 39 [.ptr (.O 2) 0 0] []],[.fn 40 [.ptr (.O 2) 0 0] []],[.fn 41 [.ptr (.O 2) 0 0] []]]] 0) (fun e' S'=>e'=.ret∧S'=bm 31 [(2,.ptr (.L 2) 0 0)] [(2,[.v (.bool y5.1),(vI y5.2.1),(vI y5.2.2.1),(vI y5.2.2.2)])] [] 0)) z))) (by kernel_rfl)
  obtain ⟨y7,gy7,h⟩:=ac h
  rcases au h with ⟨h8,h⟩ | ⟨h8,h⟩
  ·
   obtain rfl:=aS h
   exact kP ⟨jZ,[(1,⟨[],[],[],[],[],[(7,(.ptr (.O 2) 0 0,[.arr true 4 [(af.enc c)],.mapo true (wb2.1.map (dr (aR .u64) (ep eI))),.arr false 4 [[.ptr (.O 0) 0 0,.sl (wb2.2.1.map Event.enc),.sl (wb2.2.2.map eI),.mp 1]]]))],[],[],[]⟩)],[],[(5,(⟨[2,17,18,19],[],4,[],[],[]⟩,l0,.ret,bm 31 [(2,.ptr (.L 2) 0 0)] [(2,[.v (.bool y7.1),(vI y7.2.1),(vI y7.2.2.1),(vI y7.2.2.2)])] [] 0))],[]⟩ wW (fun z=>(c196_ _ (aI ((cD.round (cfg:=cfg) (Cd xV (Eq.mpr (jp pP sP lP dP c wb2 y3 _) ⟨dz n c.First c.Harts c.From c.Order wb2.1 wb2.2.1 wb2.2.2 y3 gy3,cB h4,⟨rfl,rfl⟩⟩) (cD.round (cfg:=cfg) (Cd xV (Eq.mpr (jq pP sP lP dP c wb2 y5 _) ⟨fb n c.First c.Harts c.From c.Order wb2.1 wb2.2.1 wb2.2.2 y5 gy5,cB h6,⟨rfl,rfl⟩⟩) (cD.round (cfg:=cfg) (Cd xV (Eq.mpr (jr pP sP lP dP c wb2 y7 _) ⟨iW n c.First c.Harts c.From c.Order wb2.1 wb2.2.1 wb2.2.2 y7 gy7,cB h8,⟨rfl,rfl⟩⟩) ⟨rfl,rfl⟩)))))):lP (ao 20) qV (bm 31 [(2,.ptr (.L 2) 0 0),(17,.mf 3),(18,(vI 3)),(19,(vI 0))] [(2,[vF,(vI 0),(vI 0),(vI 0)])] [.arr true 4 [(af.enc c)],.mapo true (wb2.1.map (dr (aR .u64) (ep eI))),.arr false 4 [[.ptr (.O 0) 0 0,.sl (wb2.2.1.map Event.enc),.sl (wb2.2.2.map eI),.mp 1]],.arr false 1 [[.fn 39 [.ptr (.O 2) 0 0] []],[.fn 40 [.ptr (.O 2) 0 0] []],[.fn 41 [.ptr (.O 2) 0 0] []]]] 0) (fun e' S'=>e'=.ret∧S'=bm 31 [(2,.ptr (.L 2) 0 0)] [(2,[.v (.bool y7.1),(vI y7.2.1),(vI y7.2.2.1),(vI y7.2.2.2)])] [] 0)) z))) (by kernel_rfl)
  obtain ⟨y9,gy9,h⟩:=ac h
  obtain rfl:=aS h
  exact kP ⟨jZ,[(1,⟨[],[],[],[],[],[(7,(.ptr (.O 2) 0 0,[.arr true 4 [(af.enc c)],.mapo true (wb2.1.map (dr (aR .u64) (ep eI))),.arr false 4 [[.ptr (.O 0) 0 0,.sl (wb2.2.1.map Event.enc),.sl (wb2.2.2.map eI),.mp 1]]]))],[],[],[]⟩),bh 11 [] [(30,(bT bi.enc y9))]],[],[(5,(⟨[2,17,18,19],[],4,[],[],[]⟩,l0,(.ex 0),bm 31 [(2,.ptr (.L 2) 0 0)] [(2,[vF,(vI 0),(vI 0),(vI 0)])] [] 0))],[]⟩ wW (fun z=>(c196_ _ (aI ((cD.round (cfg:=cfg) (Cd xV (Eq.mpr (jt pP sP lP dP c wb2 y3 _) ⟨dz n c.First c.Harts c.From c.Order wb2.1 wb2.2.1 wb2.2.2 y3 gy3,cB h4,⟨rfl,rfl⟩⟩) (cD.round (cfg:=cfg) (Cd xV (Eq.mpr (ju pP sP lP dP c wb2 y5 _) ⟨fb n c.First c.Harts c.From c.Order wb2.1 wb2.2.1 wb2.2.2 y5 gy5,cB h6,⟨rfl,rfl⟩⟩) (cD.round (cfg:=cfg) (Cd xV (Eq.mpr (jw pP sP lP dP c wb2 y7 _) ⟨iW n c.First c.Harts c.From c.Order wb2.1 wb2.2.1 wb2.2.2 y7 gy7,cB h8,⟨rfl,rfl⟩⟩) (cD.round (cfg:=cfg) (Cd xV (Eq.mpr (jx pP sP lP dP c wb2 _) ⟨rfl,rfl⟩) ⟨rfl,rfl⟩)))))))):lP (ao 20) qV (bm 31 [(2,.ptr (.L 2) 0 0),(17,.mf 3),(18,(vI 3)),(19,(vI 0))] [(2,[vF,(vI 0),(vI 0),(vI 0)])] [.arr true 4 [(af.enc c)],.mapo true (wb2.1.map (dr (aR .u64) (ep eI))),.arr false 4 [[.ptr (.O 0) 0 0,.sl (wb2.2.1.map Event.enc),.sl (wb2.2.2.map eI),.mp 1]],.arr false 1 [[.fn 39 [.ptr (.O 2) 0 0] []],[.fn 40 [.ptr (.O 2) 0 0] []],[.fn 41 [.ptr (.O 2) 0 0] []]]] 0) (fun e' S'=>e'=(.ex 0)∧S'=bm 31 [(2,.ptr (.L 2) 0 0)] [(2,[vF,(vI 0),(vI 0),(vI 0)])] [] 0)) (aI (iU n y9 gy9) z)))) (by kernel_rfl)

def Ry:List Nat:=[2,3,4,5,6,7,8,11,13,14,16,29,30,31,32,36,37,38,39,40,41,42,45,47,48,51,52,53,54,55,56,57,58,59,60,64,65,66,67,69,71,72,73,74,75,76,77,78,79,80,81,82,83,84,85,86,87,88,92,93,94,95,96,97,98,99,100,101,102,103,105,106,107,110,114,125,126,127,128,129,130,132,133,134,135,136,137,138,139,140,141,163]
noncomputable def Lu:A.qY:={ P:=Tryz.prog,pure:=fun f=>!(fe Ry f),pol:=fun f=>{ esc:=match f with | 20=>[1] | 23=>[2] | 37=>[23] | 60=>[1] | 61=>[1] | 64=>[1] | 82=>[24] | 84=>[7] | 98=>[12] | 109=>[8] | _=>[],ms:=match f with | 11=>[56] | 29=>[7,10,15,16,17,43,44,45] | 36=>[38] | 64=>[54] | 66=>[13] | 82=>[32] | 135=>[6,11] | _=>[],bx:=match f with | 3=>[3,12] | 4=>[1,6,8,12] | 5=>[3,5,7] | 6=>[3,9] | 8=>[2] | 9=>[1] | 10=>[1] | 11=>[1,3] | 13=>[1,2,3] | 14=>[3,7] | 15=>[1] | 16=>[1] | 17=>[1] | 18=>[1] | 20=>[2,6] | 21=>[1,2,3] | 22=>[1] | 24=>[2,5] | 25=>[1,3] | 26=>[1] | 27=>[2,3] | 28=>[1] | 29=>[2] | 31=>[1,2] | 32=>[3] | 36=>[1,6] | 37=>[6] | 38=>[6] | 39=>[2,4] | 40=>[2,4] | 41=>[2,4] | 42=>[0] | 43=>[6] | 44=>[3,7,10] | 45=>[3,8,13] | 46=>[1] | 47=>[5,8] | 54=>[6] | 55=>[3,7] | 56=>[2] | 57=>[4,9,10,13,15,17] | 58=>[1,2] | 59=>[1,2] | 61=>[5] | 62=>[1] | 63=>[1] | 64=>[6] | 68=>[2,3] | 69=>[1] | 71=>[3,7,8] | 72=>[3] | 74=>[1,2] | 75=>[4] | 76=>[7] | 78=>[7,9] | 79=>[8] | 80=>[1,2] | 82=>[7] | 85=>[2,3] | 87=>[1,4,5] | 90=>[1] | 94=>[0] | 100=>[2,3,5,6] | 104=>[2] | 111=>[2] | 131=>[1,2] | 135=>[1] | _=>[],st:=Ry } }
set_option maxRecDepth 1000000 in
set_option maxHeartbeats 0 in
theorem Fi:A.JI Lu 2000 25 [.agg [vF,(vI 2),(vI 0),(vI 2)]] (.v (.string ⟨#[111,114,100,101,114,32,48,32,50]⟩))=(AV.v (.string ⟨#[111,114,100,101,114,32,48,32,50]⟩)=AV.v (.string ⟨#[111,114,100,101,114,32,48,32,50]⟩)):=by kernel_rfl
theorem Hj:Lu.P.follows .mixedOrders=true:=by kernel_rfl
set_option maxRecDepth 1000000 in
theorem wX (n:Nat) (j:bi) (r:ByteArray) (h:qe n j=some r):az Tryz.prog 25 [.agg (bi.enc j)] (eY (.v (.string r))):=by
  unfold qe at h
  split at h
  · rename_i hb
    have e:=bi.beq_eq hb
    subst e
    have e:=Option.some.inj h
    subst e
    exact az.ofN (.none rfl rfl) (cfg:=Lu) (n:=2000) (BD GE) Hj (Eq.mpr Fi rfl)
  cases h

def Lv:List (Nat×PT):=[]
theorem J3:aA (ao 7) Lv (al Tryz.prog 7)=true:=by kernel_rfl
theorem p_ (n:Nat) (r:Bool) (h:ml n=some r):az Tryz.prog 7 [] (eY (.v (.bool r))):=by
 unfold ml at h
 obtain ⟨y1,gy1,h⟩:=ac h
 obtain ⟨y2,gy2,h⟩:=ac h
 have c197_:=fun (R:Prop) (z:R)=>(aI (ny n false y1 gy1) (aI (j_ n y1 y2 gy2) z))
 rcases aG h with ⟨h3,h⟩ | ⟨h3,h⟩
 ·
  obtain rfl:=aS h
  exact kP (nA Lv [(1,⟨[],[4],[],[(4,vF)],[(1,(bT af.enc y1)),(2,(bT bi.enc y2))],[],[],[],[]⟩)]) J3 (fun z=>(c197_ _ (aI ((mG y2 (bi.mk true 0 (-1) (-1))).trans (congrArg (fun b=>some (Value.bool b)) h3):nN Tryz.prog .eql 48 [(.bool y2.OK),(.int .i64 y2.Why),(.int .i64 y2.A_),(.int .i64 y2.B)] [(.bool true),(.int .i64 0),(.int .i64 (-1)),(.int .i64 (-1))]=some (.bool false)) (aI (rfl:AV.v (.bool false)=AV.v (.bool false)) z)))) (by kernel_rfl)
 obtain ⟨y4,gy4,h⟩:=ac h
 obtain ⟨y5,gy5,h⟩:=ac h
 obtain ⟨y6,gy6,h⟩:=ac h
 obtain rfl:=aS h
 exact kP (nA Lv [(1,⟨[],[4],[],[(4,vT)],[(1,(bT af.enc y1)),(2,(bT bi.enc y2)),(6,(bT af.enc y4)),(7,(bT bi.enc y5)),(8,.v (.string y6))],[],[],[],[]⟩)]) J3 (fun z=>(c197_ _ (aI ((mG y2 (bi.mk true 0 (-1) (-1))).trans (congrArg (fun b=>some (Value.bool b)) h3):nN Tryz.prog .eql 48 [(.bool y2.OK),(.int .i64 y2.Why),(.int .i64 y2.A_),(.int .i64 y2.B)] [(.bool true),(.int .i64 0),(.int .i64 (-1)),(.int .i64 (-1))]=some (.bool true)) (aI (rfl:AV.v (.bool true)=AV.v (.bool true)) (aI (ny n true y4 gy4) (aI (j_ n y4 y5 gy5) (aI (wX n y5 y6 gy6) z))))))) (by kernel_rfl)

def Ee:List (Nat×PT):=[]
theorem Da:aA (ao 56) Ee (al Tryz.prog 56)=true:=by kernel_rfl
theorem rZ (n:Nat) (d:Deps) (most:Int) (r:Bool) (h:jE n d most=some r):az Tryz.prog 56 [(bT Deps.enc d),(vI most)] (eY (.v (.bool r))):=by
 unfold jE at h
 rcases aG h with ⟨h1,h⟩ | ⟨h1,h⟩
 ·
  obtain rfl:=aS h
  exact kP (nA Ee [rV 1 [(7,(vI (d.Addr.length:Int))),(10,vF)]]) Da (fun z=>(aL eI d.Addr (aB h1 z))) (by kernel_rfl)
 have c198_:=fun (R:Prop) (z:R)=>(aL eI d.Addr (aB h1 (aL eI d.Data z)))
 rcases aG h with ⟨h2,h⟩ | ⟨h2,h⟩
 ·
  obtain rfl:=aS h
  exact kP (nA Ee [rV 1 [(7,(vI (d.Addr.length:Int))),(10,vT),(13,(vI (d.Data.length:Int))),(17,vF)]]) Da (fun z=>(c198_ _ (aB h2 z))) (by kernel_rfl)
 obtain rfl:=aS h
 exact kP (nA Ee [rV 1 [(7,(vI (d.Addr.length:Int))),(10,vT),(13,(vI (d.Data.length:Int))),(17,vT),(20,(vI (d.Way.length:Int)))]]) Da (fun z=>(c198_ _ (aB h2 (aL eI d.Way z)))) (by kernel_rfl)

def uh:List (Nat×PT):=[]
theorem Db:aA (ao 30) uh (al Tryz.prog 30)=true:=by kernel_rfl
noncomputable def NV:Code:=sub (al Tryz.prog 30) [1,1,0,1,0,0]
theorem Lw:aA (ao 30) uh NV=true:=by kernel_rfl
def I4 (l:(List Event)) (sa:Int):St:=bm 23 [(0,.sl (l.map Event.enc)),(5,(vI sa))] [] [] 0
def NW (l:(List Event)) (tt:Unit):St:=bm 23 [] [] [] 0
def NX (l:(List Event)) (tt:Unit):St:=bm 23 [(4,vF)] [] [] 0
def Lx (l:(List Event)) (t0:(Unit⊕Unit)):Ex×St:=match t0 with | .inl tt=>(.ex 0,NW l tt) | .inr tt=>(.ret,NX l tt)
theorem NY (n:Nat) (l:(List Event)):∀ sa r,fp n l sa=some r→aW Tryz.prog NV (I4 l sa) (rk (I4 l) (Lx l) r):=by
 intro sa r h
 unfold fp at h
 rcases aG h with ⟨ha1,h⟩ | ⟨ha1,h⟩
 ·
  exact kQ h (nA uh [rV 4 [(12,(vI (l.length:Int))),(13,vF)]]) [wK 2 [] [] 0] Lw (co rfl j8) (fun z=>(aL Event.enc l (aB ha1 z))) (by kernel_rfl)
 obtain ⟨xa2,gxa2,h⟩:=ac h
 obtain ⟨ya3,gya3,h⟩:=ac h
 have c199_:=fun (R:Prop) (z:R)=>(aL Event.enc l (aB ha1 (aM Event.enc gxa2 (aI (rZ n xa2.Deps 60 ya3 gya3) z))))
 rcases aG h with ⟨ha4,h⟩ | ⟨ha4,h⟩
 ·
  exact kQ h (nA uh [rV 4 [(12,(vI (l.length:Int))),(13,vT)],(6,⟨[],[],[(18,(Event.enc xa2))],[(22,vF)],[(21,.v (.bool ya3))],[],[],[],[]⟩)]) [wK 0 [0,5] [] 0] Lw cS (fun z=>(c199_ _ (aB ha4 z))) (by kernel_rfl)
 exact kQ h (nA uh [rV 4 [(12,(vI (l.length:Int))),(13,vT)],(6,⟨[],[],[(18,(Event.enc xa2))],[(22,vT)],[(21,.v (.bool ya3))],[],[],[],[]⟩)]) [wK 1 [4] [] 0] Lw (co rfl fT) (fun z=>(c199_ _ (aB ha4 z))) (by kernel_rfl)

theorem pK (n:Nat) (l:(List Event)) (most:Int) (r:Bool) (h:fI n l most=some r):az Tryz.prog 30 [.sl (l.map Event.enc),(vI most)] (eY (.v (.bool r))):=by
 unfold fI at h
 rcases au h with ⟨h1,h⟩ | ⟨h1,h⟩
 ·
  obtain rfl:=aS h
  exact kP (nA uh [rV 1 [(7,(vI (l.length:Int))),(9,vT)]]) Db (fun z=>(aL Event.enc l (aB h1 z))) (by kernel_rfl)
 obtain ⟨t2,gt2,h⟩:=ac h
 have c200_:=fun (R:Prop) (z:R)=>(aL Event.enc l (aB h1 z))
 rcases t2 with w3 | w3
 ·
  obtain rfl:=aS h
  exact kP ⟨uh,[rV 1 [(7,(vI (l.length:Int))),(9,vF)]],[],[(4,(⟨[0,5],[],0,[],[],[]⟩,l0,(.ex 0),NW l w3))],[]⟩ Db (fun z=>(c200_ _ (aI (eA (pl:=ao 30) (I4 l) (Lx l) (NY n l) n _ (.inl w3) gt2) z))) (by kernel_rfl)
 ·
  obtain rfl:=aS h
  exact kP ⟨uh,[rV 1 [(7,(vI (l.length:Int))),(9,vF)]],[],[(4,(⟨[0,5],[],0,[],[],[]⟩,l0,.ret,NX l w3))],[]⟩ Db (fun z=>(c200_ _ (aI (eA (pl:=ao 30) (I4 l) (Lx l) (NY n l) n _ (.inr w3) gt2) z))) (by kernel_rfl)

def uP:List (Nat×PT):=[]
theorem zb:aA (ao 8) uP (al Tryz.prog 8)=true:=by kernel_rfl
noncomputable def NZ:Code:=sub (al Tryz.prog 8) [1,1,0,1,0,0]
theorem I5:aA (ao 8) uP NZ=true:=by kernel_rfl
def I6 (c:af) (most:Int) (sa:Int×Int):St:=bm 66 [(1,(vI most)),(2,.ptr (.L 2) 0 0),(5,(vI sa.1)),(6,(vI sa.2))] [(2,(af.enc c))] [] 0
def Fj (c:af) (most:Int) (tt:Int):St:=bm 66 [(1,(vI most)),(2,.ptr (.L 2) 0 0),(5,(vI tt))] [(2,(af.enc c))] [] 0
def N0 (c:af) (most:Int) (tt:Unit):St:=bm 66 [(4,vF)] [] [] 0
def Ly (c:af) (most:Int) (t0:(Int⊕Unit)):Ex×St:=match t0 with | .inl tt=>(.ex 0,Fj c most tt) | .inr tt=>(.ret,N0 c most tt)
theorem N1 (n:Nat) (c:af) (most:Int):∀ sa r,gv n c most sa=some r→aW Tryz.prog NZ (I6 c most sa) (rk (I6 c most) (Ly c most) r):=by
 intro sa r h
 unfold gv at h
 rcases aG h with ⟨ha1,h⟩ | ⟨ha1,h⟩
 ·
  exact kQ h (nA uP [rV 3 [(10,(vI (c.Harts.length:Int))),(12,vF)]]) [wK 2 [1,2,5] [] 0] I5 (co rfl j8) (fun z=>(aL (et Event.enc) c.Harts (aB ha1 z))) (by kernel_rfl)
 have c201_:=fun (R:Prop) (z:R)=>(aL (et Event.enc) c.Harts (aB ha1 z))
 rcases aG h with ⟨ha2,h⟩ | ⟨ha2,h⟩
 ·
  exact kQ h (nA uP [rV 3 [(10,(vI (c.Harts.length:Int))),(12,vT),(15,vF)]]) [wK 2 [1,2,5] [] 0] I5 (co rfl j8) (fun z=>(c201_ _ (aB ha2 z))) (by kernel_rfl)
 obtain ⟨xa3,gxa3,h⟩:=ac h
 obtain ⟨ya4,gya4,h⟩:=ac h
 have d0_:CR (c.Harts.map (et Event.enc)) sa.2=some [.sl (xa3.map Event.enc)]:=nh (et Event.enc) gxa3
 have c202_:=fun (R:Prop) (z:R)=>(aB ha2 (aI d0_ (aL Event.enc xa3 (aI d0_ (aI (pK n xa3 most ya4 gya4) z)))))
 rcases aG h with ⟨ha5,h⟩ | ⟨ha5,h⟩
 ·
  exact kQ h (nA uP [rV 3 [(10,(vI (c.Harts.length:Int))),(12,vT),(15,vT)],(5,⟨[],[],[(22,[.sl (xa3.map Event.enc)])],[(24,(vI (xa3.length:Int)))],[],[],[],[],[]⟩),(6,⟨[],[],[(29,[.sl (xa3.map Event.enc)])],[(33,vF)],[(32,.v (.bool ya4))],[],[],[],[]⟩)]) [wK 0 [1,2,5,6] [] 0] I5 cS (fun z=>(c201_ _ (c202_ _ (aB ha5 z)))) (by kernel_rfl)
 exact kQ h (nA uP [rV 3 [(10,(vI (c.Harts.length:Int))),(12,vT),(15,vT)],(5,⟨[],[],[(22,[.sl (xa3.map Event.enc)])],[(24,(vI (xa3.length:Int)))],[],[],[],[],[]⟩),(6,⟨[],[],[(29,[.sl (xa3.map Event.enc)])],[(33,vT)],[(32,.v (.bool ya4))],[],[],[],[]⟩)]) [wK 1 [4] [2] 0] I5 (co rfl fT) (fun z=>(c201_ _ (c202_ _ (aB ha5 z)))) (by kernel_rfl)

theorem r4 (n:Nat) (c:af) (most:Int) (r:Bool) (h:gN n c most=some r):az Tryz.prog 8 [(bT af.enc c),(vI most)] (eY (.v (.bool r))):=by
 unfold gN at h
 obtain ⟨t1,gt1,h⟩:=ac h
 rcases t1 with w2 | w2
 ·
  have c203_:=fun (R:Prop) (z:R)=>(aI (eA (pl:=ao 8) (I6 c most) (Ly c most) (N1 n c most) n _ (.inl w2) gt1) (aL (et Event.enc) c.Harts z))
  rcases aG h with ⟨h3,h⟩ | ⟨h3,h⟩
  ·
   obtain rfl:=aS h
   exact kP ⟨uP,[rV 8 [(36,(vI (c.Harts.length:Int))),(38,vF)]],[],[(3,(⟨[1,2,5,6],[],0,[],[],[]⟩,l0,(.ex 0),Fj c most w2))],[]⟩ zb (fun z=>(c203_ _ (aB h3 z))) (by kernel_rfl)
  rcases aG h with ⟨h4,h⟩ | ⟨h4,h⟩
  ·
   obtain rfl:=aS h
   exact kP ⟨uP,[rV 8 [(36,(vI (c.Harts.length:Int))),(38,vT),(43,vF)]],[],[(3,(⟨[1,2,5,6],[],0,[],[],[]⟩,l0,(.ex 0),Fj c most w2))],[]⟩ zb (fun z=>(c203_ _ (aB h3 (aB h4 z)))) (by kernel_rfl)
  have c204_:=fun (R:Prop) (z:R)=>(aB h3 (aB h4 (aL Cell.enc c.First z)))
  rcases aG h with ⟨h5,h⟩ | ⟨h5,h⟩
  ·
   obtain rfl:=aS h
   exact kP ⟨uP,[rV 8 [(36,(vI (c.Harts.length:Int))),(38,vT),(43,vT),(46,(vI (c.First.length:Int))),(50,vF)]],[],[(3,(⟨[1,2,5,6],[],0,[],[],[]⟩,l0,(.ex 0),Fj c most w2))],[]⟩ zb (fun z=>(c203_ _ (c204_ _ (aB h5 z)))) (by kernel_rfl)
  have c205_:=fun (R:Prop) (z:R)=>(aB h5 (aL eI c.From z))
  rcases aG h with ⟨h6,h⟩ | ⟨h6,h⟩
  ·
   obtain rfl:=aS h
   exact kP ⟨uP,[rV 8 [(36,(vI (c.Harts.length:Int))),(38,vT),(43,vT),(46,(vI (c.First.length:Int))),(50,vT),(53,(vI (c.From.length:Int))),(58,vF)]],[],[(3,(⟨[1,2,5,6],[],0,[],[],[]⟩,l0,(.ex 0),Fj c most w2))],[]⟩ zb (fun z=>(c203_ _ (c204_ _ (c205_ _ (aB h6 z))))) (by kernel_rfl)
  obtain rfl:=aS h
  exact kP ⟨uP,[rV 8 [(36,(vI (c.Harts.length:Int))),(38,vT),(43,vT),(46,(vI (c.First.length:Int))),(50,vT),(53,(vI (c.From.length:Int))),(58,vT),(61,(vI (c.Order.length:Int)))]],[],[(3,(⟨[1,2,5,6],[],0,[],[],[]⟩,l0,(.ex 0),Fj c most w2))],[]⟩ zb (fun z=>(c203_ _ (c204_ _ (c205_ _ (aB h6 (aL eI c.Order z)))))) (by kernel_rfl)
 ·
  obtain rfl:=aS h
  exact kP ⟨uP,[],[],[(3,(⟨[1,2,5,6],[],0,[],[],[]⟩,l0,.ret,N0 c most w2))],[]⟩ zb (fun z=>(aI (eA (pl:=ao 8) (I6 c most) (Ly c most) (N1 n c most) n _ (.inr w2) gt1) z)) (by kernel_rfl)

def N2:List (Nat×PT):=[]
theorem N3:aA (ao 9) N2 (al Tryz.prog 9)=true:=by kernel_rfl
theorem Ar (n:Nat) (c:af) (r:Bool) (h:nK n c=some r):az Tryz.prog 9 [(bT af.enc c)] (eY (.v (.bool r))):=by
 unfold nK at h
 obtain ⟨y1,gy1,h⟩:=ac h
 obtain rfl:=aS h
 exact kP (nA N2 [bh 1 [] [(4,(bT bi.enc y1))]]) N3 (fun z=>(aI (j_ n c y1 gy1) z)) (by kernel_rfl)

def r5:List (Nat×PT):=[(4,(eO [0,1,2,3,4,5,6,7,8,9,10,11,12,13,14,15,16,17,18,19,20,21,22,23,24]))]
theorem Hk:aA (ao 53) r5 (al Tryz.prog 53)=true:=by kernel_rfl
noncomputable def N4:Code:=sub (al Tryz.prog 53) [1,0,1,0,0]
theorem Hl:aA (ao 53) r5 N4=true:=by kernel_rfl
def I7 (l:(List Cell)) (sa:Int):St:=bm 35 [(0,.sl (l.map Cell.enc)),(3,(vI sa))] [] [] 0
def N5 (l:(List Cell)) (tt:Unit):St:=bm 35 [] [] [] 0
def N6 (l:(List Cell)) (tt:Unit):St:=bm 35 [(2,vF)] [] [] 0
def Lz (l:(List Cell)) (t0:(Unit⊕Unit)):Ex×St:=match t0 with | .inl tt=>(.ex 0,N5 l tt) | .inr tt=>(.ret,N6 l tt)
theorem N7 (n:Nat) (l:(List Cell)):∀ sa r,ko n l sa=some r→aW Tryz.prog N4 (I7 l sa) (rk (I7 l) (Lz l) r):=by
 intro sa r h
 unfold ko at h
 rcases aG h with ⟨ha1,h⟩ | ⟨ha1,h⟩
 ·
  exact kQ h (nA r5 [rV 2 [(6,(vI (l.length:Int))),(7,vF)]]) [wK 2 [] [] 0] Hl (co rfl j8) (fun z=>(aL Cell.enc l (aB ha1 z))) (by kernel_rfl)
 obtain ⟨xa2,gxa2,h⟩:=ac h
 have c206_:=fun (R:Prop) (z:R)=>(aL Cell.enc l (aB ha1 (aM Cell.enc gxa2 z)))
 let e207_:LR:=[rV 2 [(6,(vI (l.length:Int))),(7,vT)]]
 rcases au h with ⟨ha3,h⟩ | ⟨ha3,h⟩
 ·
  exact kQ h (nA r5 (e207_++[(4,⟨[],[],[(12,(Cell.enc xa2))],[(17,vT)],[],[],[],[],[]⟩)])) [wK 1 [2] [] 0] Hl (co rfl fT) (fun z=>(c206_ _ (aB ha3 z))) (by kernel_rfl)
 rcases aG h with ⟨ha4,h⟩ | ⟨ha4,h⟩
 ·
  exact kQ h (nA r5 (e207_++[(4,⟨[],[],[(12,(Cell.enc xa2))],[(17,vF),(20,vF)],[],[],[],[],[]⟩)])) [wK 0 [0,3] [] 0] Hl cS (fun z=>(c206_ _ (aB ha3 (aB ha4 z)))) (by kernel_rfl)
 obtain ⟨xa5,gxa5,h⟩:=ac h
 have c208_:=fun (R:Prop) (z:R)=>(aB ha3 (aB ha4 (aM Cell.enc gxa5 (aM Cell.enc gxa2 z))))
 rcases aG h with ⟨ha6,h⟩ | ⟨ha6,h⟩
 ·
  exact kQ h (nA r5 (e207_++[(4,⟨[],[],[(12,(Cell.enc xa2)),(24,(Cell.enc xa5)),(29,(Cell.enc xa2))],[(17,vF),(20,vT),(34,vF)],[],[],[],[],[]⟩)])) [wK 0 [0,3] [] 0] Hl cS (fun z=>(c206_ _ (c208_ _ (aB ha6 z)))) (by kernel_rfl)
 exact kQ h (nA r5 (e207_++[(4,⟨[],[],[(12,(Cell.enc xa2)),(24,(Cell.enc xa5)),(29,(Cell.enc xa2))],[(17,vF),(20,vT),(34,vT)],[],[],[],[],[]⟩)])) [wK 1 [2] [] 0] Hl (co rfl fT) (fun z=>(c206_ _ (c208_ _ (aB ha6 z)))) (by kernel_rfl)

theorem xW (n:Nat) (l:(List Cell)) (r:Bool) (h:jb n l=some r):az Tryz.prog 53 [.sl (l.map Cell.enc)] (eY (.v (.bool r))):=by
 unfold jb at h
 obtain ⟨t1,gt1,h⟩:=ac h
 rcases t1 with w2 | w2
 ·
  obtain rfl:=aS h
  exact kP ⟨r5,[],[],[(2,(⟨[0,3],[],0,[],[],[]⟩,l0,(.ex 0),N5 l w2))],[]⟩ Hk (fun z=>(aI (eA (pl:=ao 53) (I7 l) (Lz l) (N7 n l) n _ (.inl w2) gt1) z)) (by kernel_rfl)
 ·
  obtain rfl:=aS h
  exact kP ⟨r5,[],[],[(2,(⟨[0,3],[],0,[],[],[]⟩,l0,.ret,N6 l w2))],[]⟩ Hk (fun z=>(aI (eA (pl:=ao 53) (I7 l) (Lz l) (N7 n l) n _ (.inr w2) gt1) z)) (by kernel_rfl)

def Ef:List (Nat×PT):=[]
theorem Dc:aA (ao 17) Ef (al Tryz.prog 17)=true:=by kernel_rfl
theorem fV (n:Nat) (e:Event) (r:Bool) (h:fP n e=some r):az Tryz.prog 17 [(bT Event.enc e)] (eY (.v (.bool r))):=by
 unfold fP at h
 rcases au h with ⟨h1,h⟩ | ⟨h1,h⟩
 ·
  obtain rfl:=aS h
  exact kP (nA Ef [rV 1 [(6,vT)]]) Dc (fun z=>(aB h1 z)) (by kernel_rfl)
 rcases au h with ⟨h2,h⟩ | ⟨h2,h⟩
 ·
  obtain rfl:=aS h
  exact kP (nA Ef [rV 1 [(6,vF),(11,vT)]]) Dc (fun z=>(aB h1 (aB h2 z))) (by kernel_rfl)
 obtain rfl:=aS h
 exact kP (nA Ef [rV 1 [(6,vF),(11,vF)]]) Dc (fun z=>(aB h1 (aB h2 z))) (by kernel_rfl)

def Eg:List (Nat×PT):=[]
theorem Dd:aA (ao 18) Eg (al Tryz.prog 18)=true:=by kernel_rfl
theorem eu (n:Nat) (e:Event) (r:Bool) (h:eg n e=some r):az Tryz.prog 18 [(bT Event.enc e)] (eY (.v (.bool r))):=by
 unfold eg at h
 rcases au h with ⟨h1,h⟩ | ⟨h1,h⟩
 ·
  obtain rfl:=aS h
  exact kP (nA Eg [rV 1 [(6,vT)]]) Dd (fun z=>(aB h1 z)) (by kernel_rfl)
 rcases au h with ⟨h2,h⟩ | ⟨h2,h⟩
 ·
  obtain rfl:=aS h
  exact kP (nA Eg [rV 1 [(6,vF),(11,vT)]]) Dd (fun z=>(aB h1 (aB h2 z))) (by kernel_rfl)
 obtain rfl:=aS h
 exact kP (nA Eg [rV 1 [(6,vF),(11,vF)]]) Dd (fun z=>(aB h1 (aB h2 z))) (by kernel_rfl)

def Hm:List (Nat×PT):=[]
theorem Hn:aA (ao 16) Hm (al Tryz.prog 16)=true:=by kernel_rfl
theorem iX (n:Nat) (e:Event) (r:Bool) (h:fq n e=some r):az Tryz.prog 16 [(bT Event.enc e)] (eY (.v (.bool r))):=by
 unfold fq at h
 obtain ⟨y1,gy1,h⟩:=ac h
 have c209_:=fun (R:Prop) (z:R)=>(aI (fV n e y1 gy1) z)
 rcases au h with ⟨h2,h⟩ | ⟨h2,h⟩
 ·
  obtain rfl:=aS h
  exact kP (nA Hm [bh 1 [(5,vT)] [(4,.v (.bool y1))]]) Hn (fun z=>(c209_ _ (aB h2 z))) (by kernel_rfl)
 obtain ⟨y3,gy3,h⟩:=ac h
 obtain rfl:=aS h
 exact kP (nA Hm [bh 1 [(5,vF)] [(4,.v (.bool y1)),(7,.v (.bool y3))]]) Hn (fun z=>(c209_ _ (aB h2 (aI (eu n e y3 gy3) z)))) (by kernel_rfl)

def r6:List (Nat×PT):=[(4,(eO [0,1,2,3,4,5,6,7,8,9,10,11,12,13,14,15,16,17,18,19,20]))]
theorem Ho:aA (ao 99) r6 (al Tryz.prog 99)=true:=by kernel_rfl
noncomputable def N8:Code:=sub (al Tryz.prog 99) [1,0,1,0,0]
theorem Hp:aA (ao 99) r6 N8=true:=by kernel_rfl
def I8 (l:(List Int)) (sa:Int):St:=bm 31 [(0,.sl (l.map eI)),(3,(vI sa))] [] [] 0
def N9 (l:(List Int)) (tt:Unit):St:=bm 31 [] [] [] 0
def N_ (l:(List Int)) (tt:Unit):St:=bm 31 [(2,vF)] [] [] 0
def LA (l:(List Int)) (t0:(Unit⊕Unit)):Ex×St:=match t0 with | .inl tt=>(.ex 0,N9 l tt) | .inr tt=>(.ret,N_ l tt)
theorem Oa (n:Nat) (l:(List Int)):∀ sa r,dO n l sa=some r→aW Tryz.prog N8 (I8 l sa) (rk (I8 l) (LA l) r):=by
 intro sa r h
 unfold dO at h
 rcases aG h with ⟨ha1,h⟩ | ⟨ha1,h⟩
 ·
  exact kQ h (nA r6 [rV 2 [(6,(vI (l.length:Int))),(7,vF)]]) [wK 2 [] [] 0] Hp (co rfl j8) (fun z=>(aL eI l (aB ha1 z))) (by kernel_rfl)
 obtain ⟨xa2,gxa2,h⟩:=ac h
 have c210_:=fun (R:Prop) (z:R)=>(aL eI l (aB ha1 (aM eI gxa2 z)))
 let e211_:LR:=[rV 2 [(6,(vI (l.length:Int))),(7,vT)]]
 rcases au h with ⟨ha3,h⟩ | ⟨ha3,h⟩
 ·
  exact kQ h (nA r6 (e211_++[(4,⟨[],[],[(12,[(vI xa2)])],[(15,vT)],[],[],[],[],[]⟩)])) [wK 1 [2] [] 0] Hp (co rfl fT) (fun z=>(c210_ _ (aB ha3 z))) (by kernel_rfl)
 rcases aG h with ⟨ha4,h⟩ | ⟨ha4,h⟩
 ·
  exact kQ h (nA r6 (e211_++[(4,⟨[],[],[(12,[(vI xa2)])],[(15,vF),(18,vF)],[],[],[],[],[]⟩)])) [wK 0 [0,3] [] 0] Hp cS (fun z=>(c210_ _ (aB ha3 (aB ha4 z)))) (by kernel_rfl)
 obtain ⟨xa5,gxa5,h⟩:=ac h
 have c212_:=fun (R:Prop) (z:R)=>(aB ha3 (aB ha4 (aM eI gxa5 (aM eI gxa2 z))))
 rcases aG h with ⟨ha6,h⟩ | ⟨ha6,h⟩
 ·
  exact kQ h (nA r6 (e211_++[(4,⟨[],[],[(12,[(vI xa2)]),(22,[(vI xa5)]),(26,[(vI xa2)])],[(15,vF),(18,vT),(30,vF)],[],[],[],[],[]⟩)])) [wK 0 [0,3] [] 0] Hp cS (fun z=>(c210_ _ (c212_ _ (aB ha6 z)))) (by kernel_rfl)
 exact kQ h (nA r6 (e211_++[(4,⟨[],[],[(12,[(vI xa2)]),(22,[(vI xa5)]),(26,[(vI xa2)])],[(15,vF),(18,vT),(30,vT)],[],[],[],[],[]⟩)])) [wK 1 [2] [] 0] Hp (co rfl fT) (fun z=>(c210_ _ (c212_ _ (aB ha6 z)))) (by kernel_rfl)

theorem wY (n:Nat) (l:(List Int)) (r:Bool) (h:kH n l=some r):az Tryz.prog 99 [.sl (l.map eI)] (eY (.v (.bool r))):=by
 unfold kH at h
 obtain ⟨t1,gt1,h⟩:=ac h
 rcases t1 with w2 | w2
 ·
  obtain rfl:=aS h
  exact kP ⟨r6,[],[],[(2,(⟨[0,3],[],0,[],[],[]⟩,l0,(.ex 0),N9 l w2))],[]⟩ Ho (fun z=>(aI (eA (pl:=ao 99) (I8 l) (LA l) (Oa n l) n _ (.inl w2) gt1) z)) (by kernel_rfl)
 ·
  obtain rfl:=aS h
  exact kP ⟨r6,[],[],[(2,(⟨[0,3],[],0,[],[],[]⟩,l0,.ret,N_ l w2))],[]⟩ Ho (fun z=>(aI (eA (pl:=ao 99) (I8 l) (LA l) (Oa n l) n _ (.inr w2) gt1) z)) (by kernel_rfl)

def Eh:List (Nat×PT):=[]
theorem De:aA (ao 86) Eh (al Tryz.prog 86)=true:=by kernel_rfl
theorem l_ (n:Nat) (l:(List Int)) (at_:Int) (r:Bool) (h:jc n l at_=some r):az Tryz.prog 86 [.sl (l.map eI),(vI at_)] (eY (.v (.bool r))):=by
 unfold jc at h
 obtain ⟨y1,gy1,h⟩:=ac h
 have c213_:=fun (R:Prop) (z:R)=>(aI (wY n l y1 gy1) z)
 rcases aG h with ⟨h2,h⟩ | ⟨h2,h⟩
 ·
  obtain rfl:=aS h
  exact kP (nA Eh [bh 1 [(7,vF)] [(6,.v (.bool y1))]]) De (fun z=>(c213_ _ (aB h2 z))) (by kernel_rfl)
 have c214_:=fun (R:Prop) (z:R)=>(aB h2 (aL eI l z))
 rcases au h with ⟨h3,h⟩ | ⟨h3,h⟩
 ·
  obtain rfl:=aS h
  exact kP (nA Eh [bh 1 [(7,vT),(9,(vI (l.length:Int))),(11,vT)] [(6,.v (.bool y1))]]) De (fun z=>(c213_ _ (c214_ _ (aB h3 z)))) (by kernel_rfl)
 obtain ⟨x4,gx4,h⟩:=ac h
 obtain rfl:=aS h
 exact kP (nA Eh [(1,⟨[],[],[(16,[(vI x4)])],[(7,vT),(9,(vI (l.length:Int))),(11,vF),(14,(vI (l.length:Int)))],[(6,.v (.bool y1))],[],[],[],[]⟩)]) De (fun z=>(c213_ _ (c214_ _ (aB h3 (aL eI l (aM eI gx4 z)))))) (by kernel_rfl)

def bv:List (Nat×PT):=[]
theorem cC:aA (ao 69) bv (al Tryz.prog 69)=true:=by kernel_rfl
noncomputable def Oc:Code:=sub (al Tryz.prog 69) [1,1,1,1]
noncomputable def LB:Code:=sub (al Tryz.prog 69) [1,1,1,0,1,1,1]
noncomputable def LC:Code:=sub LB [1]
noncomputable def Od:Code:=sub LC [1]
theorem Oe:aA (ao 69) bv Oc=true:=by kernel_rfl
def Qi (sa:Bool):St:=bm 216 [(4,.v (.bool sa))] [] [] 0
def hT (tt:Int):St:=bm 216 [(2,(vI tt))] [] [] 0
def Qj (tt:Int):Ex×St:=(.ret,hT tt)
theorem iw (n:Nat):∀ sa t,ay n sa=some t→aW Tryz.prog Oc (Qi sa) (pk (Qj) t):=by
 intro sa t h
 unfold ay at h
 rcases au h with ⟨ha1,h⟩ | ⟨ha1,h⟩
 ·
  exact kQ h (nA bv [rV 9 [(215,vT)]]) [wK 1 [2] [] 0] Oe (ki rfl) (fun z=>(aB ha1 z)) (by kernel_rfl)
 exact kQ h (nA bv [rV 9 [(215,vF)]]) [wK 1 [2] [] 0] Oe (ki rfl) (fun z=>(aB ha1 z)) (by kernel_rfl)

theorem Fl:aA (ao 69) bv Od=true:=by kernel_rfl
def Qk (e:Event) (sd:Bool):St:=bm 216 [(1,.ptr (.L 1) 0 0),(4,.v (.bool sd))] [(1,(Event.enc e))] [] 0
def As (e:Event) (tt:Bool):St:=bm 216 [(4,.v (.bool tt))] [] [] 0
def Ql (e:Event) (tt:Bool):Ex×St:=(.nrm,As e tt)
theorem BV (n:Nat) (e:Event):∀ sd t,bH n e sd=some t→aW Tryz.prog Od (Qk e sd) (pk (Ql e) t):=by
 intro sd t h
 unfold bH at h
 rcases aG h with ⟨hd1,h⟩ | ⟨hd1,h⟩
 ·
  exact kQ h (nA bv [rV 8 [(179,vF)]]) [wK 0 [4] [1] 0] Fl (ki rfl) (fun z=>(aB hd1 z)) (by kernel_rfl)
 obtain ⟨yd2,gyd2,h⟩:=ac h
 have c215_:=fun (R:Prop) (z:R)=>(aB hd1 (aI (l_ n e.Deps.Addr e.At yd2 gyd2) z))
 rcases aG h with ⟨hd3,h⟩ | ⟨hd3,h⟩
 ·
  exact kQ h (nA bv [bh 8 [(179,vT),(187,vF)] [(185,.v (.bool yd2))]]) [wK 0 [4] [1] 0] Fl (ki rfl) (fun z=>(c215_ _ (aB hd3 z))) (by kernel_rfl)
 obtain ⟨yd4,gyd4,h⟩:=ac h
 have c216_:=fun (R:Prop) (z:R)=>(aB hd3 (aI (l_ n e.Deps.Data e.At yd4 gyd4) z))
 rcases aG h with ⟨hd5,h⟩ | ⟨hd5,h⟩
 ·
  exact kQ h (nA bv [bh 8 [(179,vT),(187,vT),(195,vF)] [(185,.v (.bool yd2)),(193,.v (.bool yd4))]]) [wK 0 [4] [1] 0] Fl (ki rfl) (fun z=>(c215_ _ (c216_ _ (aB hd5 z)))) (by kernel_rfl)
 obtain ⟨yd6,gyd6,h⟩:=ac h
 have c217_:=fun (R:Prop) (z:R)=>(aB hd5 (aI (l_ n e.Deps.Way e.At yd6 gyd6) z))
 rcases aG h with ⟨hd7,h⟩ | ⟨hd7,h⟩
 ·
  exact kQ h (nA bv [bh 8 [(179,vT),(187,vT),(195,vT),(203,vF)] [(185,.v (.bool yd2)),(193,.v (.bool yd4)),(201,.v (.bool yd6))]]) [wK 0 [4] [1] 0] Fl (ki rfl) (fun z=>(c215_ _ (c216_ _ (c217_ _ (aB hd7 z))))) (by kernel_rfl)
 obtain ⟨yd8,gyd8,h⟩:=ac h
 have c218_:=fun (R:Prop) (z:R)=>(aB hd7 (aI (eu n e yd8 gyd8) z))
 rcases au h with ⟨hd9,h⟩ | ⟨hd9,h⟩
 ·
  exact kQ h (nA bv [bh 8 [(179,vT),(187,vT),(195,vT),(203,vT),(206,vT)] [(185,.v (.bool yd2)),(193,.v (.bool yd4)),(201,.v (.bool yd6)),(205,.v (.bool yd8))]]) [wK 0 [4] [1] 0] Fl (ki rfl) (fun z=>(c215_ _ (c216_ _ (c217_ _ (c218_ _ (aB hd9 z)))))) (by kernel_rfl)
 exact kQ h (nA bv [bh 8 [(179,vT),(187,vT),(195,vT),(203,vT),(206,vF),(210,(vI (e.Deps.Data.length:Int)))] [(185,.v (.bool yd2)),(193,.v (.bool yd4)),(201,.v (.bool yd6)),(205,.v (.bool yd8))]]) [wK 0 [4] [1] 0] Fl (ki rfl) (fun z=>(c215_ _ (c216_ _ (c217_ _ (c218_ _ (aB hd9 (aL eI e.Deps.Data z))))))) (by kernel_rfl)

theorem BW:aA (ao 69) bv LC=true:=by kernel_rfl
def Qm (e:Event) (sb:Bool):St:=bm 216 [(1,.ptr (.L 1) 0 0),(4,.v (.bool sb))] [(1,(Event.enc e))] [] 0
def Df (e:Event) (tt:Bool):St:=bm 216 [(4,.v (.bool tt))] [] [] 0
def Qn (e:Event) (tt:Bool):Ex×St:=(.nrm,Df e tt)
theorem Fo (n:Nat) (e:Event):∀ sb t,ci n e sb=some t→aW Tryz.prog LC (Qm e sb) (pk (Qn e) t):=by
 intro sb t h
 unfold ci at h
 rcases aG h with ⟨hb1,h⟩ | ⟨hb1,h⟩
 ·
  obtain ⟨tb2,gtb2,h⟩:=ac h
  exact kQ h ⟨bv,[rV 7 [(151,vF)]],[],[],[(8,(⟨[1,4],[],0,[],[],[]⟩,l0,.nrm,As e tb2))]⟩ [wK 0 [4] [] 0] BW (ki rfl) (fun z=>(aB hb1 (aI (BV n e _ tb2 gtb2) z))) (by kernel_rfl)
 rcases aG h with ⟨hb2,h⟩ | ⟨hb2,h⟩
 ·
  have c221_:=fun (R:Prop) (z:R)=>(aB hb1 (aB hb2 z))
  rcases au h with ⟨hb3,h⟩ | ⟨hb3,h⟩
  ·
   obtain ⟨tb4,gtb4,h⟩:=ac h
   exact kQ h ⟨bv,[rV 7 [(151,vT),(155,vF),(171,vT)]],[],[],[(8,(⟨[1,4],[],0,[],[],[]⟩,l0,.nrm,As e tb4))]⟩ [wK 0 [4] [] 0] BW (ki rfl) (fun z=>(c221_ _ (aB hb3 (aI (BV n e _ tb4 gtb4) z)))) (by kernel_rfl)
  obtain ⟨tb4,gtb4,h⟩:=ac h
  exact kQ h ⟨bv,[rV 7 [(151,vT),(155,vF),(171,vF)]],[],[],[(8,(⟨[1,4],[],0,[],[],[]⟩,l0,.nrm,As e tb4))]⟩ [wK 0 [4] [] 0] BW (ki rfl) (fun z=>(c221_ _ (aB hb3 (aI (BV n e _ tb4 gtb4) z)))) (by kernel_rfl)
 have c219_:=fun (R:Prop) (z:R)=>(aB hb1 (aB hb2 z))
 rcases aG h with ⟨hb3,h⟩ | ⟨hb3,h⟩
 ·
  rcases au h with ⟨hb4,h⟩ | ⟨hb4,h⟩
  ·
   obtain ⟨tb5,gtb5,h⟩:=ac h
   exact kQ h ⟨bv,[rV 7 [(151,vT),(155,vT),(160,vF),(171,vT)]],[],[],[(8,(⟨[1,4],[],0,[],[],[]⟩,l0,.nrm,As e tb5))]⟩ [wK 0 [4] [] 0] BW (ki rfl) (fun z=>(c219_ _ (aB hb3 (aB hb4 (aI (BV n e _ tb5 gtb5) z))))) (by kernel_rfl)
  obtain ⟨tb5,gtb5,h⟩:=ac h
  exact kQ h ⟨bv,[rV 7 [(151,vT),(155,vT),(160,vF),(171,vF)]],[],[],[(8,(⟨[1,4],[],0,[],[],[]⟩,l0,.nrm,As e tb5))]⟩ [wK 0 [4] [] 0] BW (ki rfl) (fun z=>(c219_ _ (aB hb3 (aB hb4 (aI (BV n e _ tb5 gtb5) z))))) (by kernel_rfl)
 rcases au h with ⟨hb4,h⟩ | ⟨hb4,h⟩
 ·
  obtain ⟨tb5,gtb5,h⟩:=ac h
  exact kQ h ⟨bv,[rV 7 [(151,vT),(155,vT),(160,vT),(167,vT)]],[],[],[(8,(⟨[1,4],[],0,[],[],[]⟩,l0,.nrm,As e tb5))]⟩ [wK 0 [4] [] 0] BW (ki rfl) (fun z=>(c219_ _ (aB hb3 (aB hb4 (aI (BV n e _ tb5 gtb5) z))))) (by kernel_rfl)
 have c220_:=fun (R:Prop) (z:R)=>(aB hb3 (aB hb4 z))
 rcases au h with ⟨hb5,h⟩ | ⟨hb5,h⟩
 ·
  obtain ⟨tb6,gtb6,h⟩:=ac h
  exact kQ h ⟨bv,[rV 7 [(151,vT),(155,vT),(160,vT),(167,vF),(171,vT)]],[],[],[(8,(⟨[1,4],[],0,[],[],[]⟩,l0,.nrm,As e tb6))]⟩ [wK 0 [4] [] 0] BW (ki rfl) (fun z=>(c219_ _ (c220_ _ (aB hb5 (aI (BV n e _ tb6 gtb6) z))))) (by kernel_rfl)
 obtain ⟨tb6,gtb6,h⟩:=ac h
 exact kQ h ⟨bv,[rV 7 [(151,vT),(155,vT),(160,vT),(167,vF),(171,vF)]],[],[],[(8,(⟨[1,4],[],0,[],[],[]⟩,l0,.nrm,As e tb6))]⟩ [wK 0 [4] [] 0] BW (ki rfl) (fun z=>(c219_ _ (c220_ _ (aB hb5 (aI (BV n e _ tb6 gtb6) z))))) (by kernel_rfl)

theorem Fp:aA (ao 69) bv LB=true:=by kernel_rfl
def Qo (e:Event) (sa:Bool):St:=bm 216 [(1,.ptr (.L 1) 0 0),(4,.v (.bool sa))] [(1,(Event.enc e))] [] 0
def o6 (e:Event) (tt:Bool):St:=bm 216 [(4,.v (.bool tt))] [] [] 0
def Qp (e:Event) (tt:Bool):Ex×St:=(.nrm,o6 e tt)
theorem pL (n:Nat) (e:Event):∀ sa t,aZ n e sa=some t→aW Tryz.prog LB (Qo e sa) (pk (Qp e) t):=by
 intro sa t h
 unfold aZ at h
 rcases aG h with ⟨ha1,h⟩ | ⟨ha1,h⟩
 ·
  obtain ⟨ta2,gta2,h⟩:=ac h
  exact kQ h ⟨bv,[rV 6 [(130,vF)]],[],[],[(7,(⟨[1,4],[],0,[],[],[]⟩,l0,.nrm,Df e ta2))]⟩ [wK 0 [4] [] 0] Fp (ki rfl) (fun z=>(aB ha1 (aI (Fo n e _ ta2 gta2) z))) (by kernel_rfl)
 rcases aG h with ⟨ha2,h⟩ | ⟨ha2,h⟩
 ·
  have c223_:=fun (R:Prop) (z:R)=>(aB ha1 (aB ha2 z))
  rcases au h with ⟨ha3,h⟩ | ⟨ha3,h⟩
  ·
   obtain ⟨ta4,gta4,h⟩:=ac h
   exact kQ h ⟨bv,[rV 6 [(130,vT),(134,vF),(143,vT)]],[],[],[(7,(⟨[1,4],[],0,[],[],[]⟩,l0,.nrm,Df e ta4))]⟩ [wK 0 [4] [] 0] Fp (ki rfl) (fun z=>(c223_ _ (aB ha3 (aI (Fo n e _ ta4 gta4) z)))) (by kernel_rfl)
  obtain ⟨ta4,gta4,h⟩:=ac h
  exact kQ h ⟨bv,[rV 6 [(130,vT),(134,vF),(143,vF)]],[],[],[(7,(⟨[1,4],[],0,[],[],[]⟩,l0,.nrm,Df e ta4))]⟩ [wK 0 [4] [] 0] Fp (ki rfl) (fun z=>(c223_ _ (aB ha3 (aI (Fo n e _ ta4 gta4) z)))) (by kernel_rfl)
 have c222_:=fun (R:Prop) (z:R)=>(aB ha1 (aB ha2 z))
 rcases au h with ⟨ha3,h⟩ | ⟨ha3,h⟩
 ·
  obtain ⟨ta4,gta4,h⟩:=ac h
  exact kQ h ⟨bv,[rV 6 [(130,vT),(134,vT),(139,vT)]],[],[],[(7,(⟨[1,4],[],0,[],[],[]⟩,l0,.nrm,Df e ta4))]⟩ [wK 0 [4] [] 0] Fp (ki rfl) (fun z=>(c222_ _ (aB ha3 (aI (Fo n e _ ta4 gta4) z)))) (by kernel_rfl)
 rcases au h with ⟨ha4,h⟩ | ⟨ha4,h⟩
 ·
  obtain ⟨ta5,gta5,h⟩:=ac h
  exact kQ h ⟨bv,[rV 6 [(130,vT),(134,vT),(139,vF),(143,vT)]],[],[],[(7,(⟨[1,4],[],0,[],[],[]⟩,l0,.nrm,Df e ta5))]⟩ [wK 0 [4] [] 0] Fp (ki rfl) (fun z=>(c222_ _ (aB ha3 (aB ha4 (aI (Fo n e _ ta5 gta5) z))))) (by kernel_rfl)
 obtain ⟨ta5,gta5,h⟩:=ac h
 exact kQ h ⟨bv,[rV 6 [(130,vT),(134,vT),(139,vF),(143,vF)]],[],[],[(7,(⟨[1,4],[],0,[],[],[]⟩,l0,.nrm,Df e ta5))]⟩ [wK 0 [4] [] 0] Fp (ki rfl) (fun z=>(c222_ _ (aB ha3 (aB ha4 (aI (Fo n e _ ta5 gta5) z))))) (by kernel_rfl)

theorem wZ (n:Nat) (e:Event) (r:Int) (h:eP n e=some r):az Tryz.prog 69 [(bT Event.enc e)] (eY ((vI r))):=by
 unfold eP at h
 have c224_:=fun (R:Prop) (z:R)=>(aL eI e.Deps.Addr (aL eI e.Deps.Data (aL eI e.Deps.Way z)))
 let e225_:LR:=[rV 1 [(8,(vI (e.Deps.Addr.length:Int))),(12,(vI (e.Deps.Data.length:Int))),(17,(vI (e.Deps.Way.length:Int)))]]
 rcases aG h with ⟨h1,h⟩ | ⟨h1,h⟩
 ·
  rcases au h with ⟨h2,h⟩ | ⟨h2,h⟩
  ·
   obtain ⟨t3,gt3,h⟩:=ac h
   obtain rfl:=aS h
   exact kP ⟨bv,(e225_++[rV 2 [(22,vF)],rV 3 [(34,vT)]]),[],[],[(9,(⟨[4],[1],0,[],[],[]⟩,l0,.ret,hT t3))]⟩ cC (fun z=>(c224_ _ (aB h1 (aB h2 (aI (iw n _ t3 gt3) z))))) (by kernel_rfl)
  obtain ⟨t3,gt3,h⟩:=ac h
  obtain ⟨t4,gt4,h⟩:=ac h
  obtain rfl:=aS h
  exact kP ⟨bv,(e225_++[rV 2 [(22,vF)],rV 3 [(34,vF)]]),[],[],[(6,(⟨[1,4],[],0,[],[],[]⟩,l0,.nrm,o6 e t3)),(9,(⟨[4],[],0,[],[],[]⟩,l0,.ret,hT t4))]⟩ cC (fun z=>(c224_ _ (aB h1 (aB h2 (aI (pL n e _ t3 gt3) (aI (iw n _ t4 gt4) z)))))) (by kernel_rfl)
 rcases aG h with ⟨h2,h⟩ | ⟨h2,h⟩
 ·
  have c241_:=fun (R:Prop) (z:R)=>(aB h1 (aB h2 z))
  rcases au h with ⟨h3,h⟩ | ⟨h3,h⟩
  ·
   obtain ⟨t4,gt4,h⟩:=ac h
   obtain rfl:=aS h
   exact kP ⟨bv,(e225_++[rV 2 [(22,vT),(27,vF)],rV 3 [(34,vT)]]),[],[],[(9,(⟨[4],[1],0,[],[],[]⟩,l0,.ret,hT t4))]⟩ cC (fun z=>(c224_ _ (c241_ _ (aB h3 (aI (iw n _ t4 gt4) z))))) (by kernel_rfl)
  obtain ⟨t4,gt4,h⟩:=ac h
  obtain ⟨t5,gt5,h⟩:=ac h
  obtain rfl:=aS h
  exact kP ⟨bv,(e225_++[rV 2 [(22,vT),(27,vF)],rV 3 [(34,vF)]]),[],[],[(6,(⟨[1,4],[],0,[],[],[]⟩,l0,.nrm,o6 e t4)),(9,(⟨[4],[],0,[],[],[]⟩,l0,.ret,hT t5))]⟩ cC (fun z=>(c224_ _ (c241_ _ (aB h3 (aI (pL n e _ t4 gt4) (aI (iw n _ t5 gt5) z)))))) (by kernel_rfl)
 have c226_:=fun (R:Prop) (z:R)=>(aB h1 (aB h2 z))
 let e227_:LR:=[rV 2 [(22,vT),(27,vT)]]
 rcases au h with ⟨h3,h⟩ | ⟨h3,h⟩
 ·
  let e228_:LR:=[rV 3 [(34,vT)]]
  rcases aG h with ⟨h4,h⟩ | ⟨h4,h⟩
  ·
   obtain ⟨t5,gt5,h⟩:=ac h
   obtain rfl:=aS h
   exact kP ⟨bv,(e225_++(e227_++(e228_++[rV 4 [(36,vF)]]))),[],[],[(9,(⟨[4],[1],0,[],[],[]⟩,l0,.ret,hT t5))]⟩ cC (fun z=>(c224_ _ (c226_ _ (aB h3 (aB h4 (aI (iw n _ t5 gt5) z)))))) (by kernel_rfl)
  have c229_:=fun (R:Prop) (z:R)=>(aB h3 (aB h4 z))
  rcases aG h with ⟨h5,h⟩ | ⟨h5,h⟩
  ·
   obtain ⟨t6,gt6,h⟩:=ac h
   obtain rfl:=aS h
   exact kP ⟨bv,(e225_++(e227_++(e228_++[rV 4 [(36,vT),(41,vF)]]))),[],[],[(9,(⟨[4],[1],0,[],[],[]⟩,l0,.ret,hT t6))]⟩ cC (fun z=>(c224_ _ (c226_ _ (c229_ _ (aB h5 (aI (iw n _ t6 gt6) z)))))) (by kernel_rfl)
  rcases aG h with ⟨h6,h⟩ | ⟨h6,h⟩
  ·
   obtain ⟨t7,gt7,h⟩:=ac h
   obtain rfl:=aS h
   exact kP ⟨bv,(e225_++(e227_++(e228_++[rV 4 [(36,vT),(41,vT),(46,vF)]]))),[],[],[(9,(⟨[4],[1],0,[],[],[]⟩,l0,.ret,hT t7))]⟩ cC (fun z=>(c224_ _ (c226_ _ (c229_ _ (aB h5 (aB h6 (aI (iw n _ t7 gt7) z))))))) (by kernel_rfl)
  have c230_:=fun (R:Prop) (z:R)=>(aB h5 (aB h6 z))
  rcases aG h with ⟨h7,h⟩ | ⟨h7,h⟩
  ·
   obtain ⟨t8,gt8,h⟩:=ac h
   obtain rfl:=aS h
   exact kP ⟨bv,(e225_++(e227_++(e228_++[rV 4 [(36,vT),(41,vT),(46,vT),(51,vF)]]))),[],[],[(9,(⟨[4],[1],0,[],[],[]⟩,l0,.ret,hT t8))]⟩ cC (fun z=>(c224_ _ (c226_ _ (c229_ _ (c230_ _ (aB h7 (aI (iw n _ t8 gt8) z))))))) (by kernel_rfl)
  rcases aG h with ⟨h8,h⟩ | ⟨h8,h⟩
  ·
   obtain ⟨t9,gt9,h⟩:=ac h
   obtain rfl:=aS h
   exact kP ⟨bv,(e225_++(e227_++(e228_++[rV 4 [(36,vT),(41,vT),(46,vT),(51,vT),(56,vF)]]))),[],[],[(9,(⟨[4],[1],0,[],[],[]⟩,l0,.ret,hT t9))]⟩ cC (fun z=>(c224_ _ (c226_ _ (c229_ _ (c230_ _ (aB h7 (aB h8 (aI (iw n _ t9 gt9) z)))))))) (by kernel_rfl)
  have c231_:=fun (R:Prop) (z:R)=>(aB h7 (aB h8 z))
  rcases aG h with ⟨h9,h⟩ | ⟨h9,h⟩
  ·
   obtain ⟨t10,gt10,h⟩:=ac h
   obtain rfl:=aS h
   exact kP ⟨bv,(e225_++(e227_++(e228_++[rV 4 [(36,vT),(41,vT),(46,vT),(51,vT),(56,vT),(61,vF)]]))),[],[],[(9,(⟨[4],[1],0,[],[],[]⟩,l0,.ret,hT t10))]⟩ cC (fun z=>(c224_ _ (c226_ _ (c229_ _ (c230_ _ (c231_ _ (aB h9 (aI (iw n _ t10 gt10) z)))))))) (by kernel_rfl)
  rcases aG h with ⟨h10,h⟩ | ⟨h10,h⟩
  ·
   obtain ⟨t11,gt11,h⟩:=ac h
   obtain rfl:=aS h
   exact kP ⟨bv,(e225_++(e227_++(e228_++[rV 4 [(36,vT),(41,vT),(46,vT),(51,vT),(56,vT),(61,vT),(66,vF)]]))),[],[],[(9,(⟨[4],[1],0,[],[],[]⟩,l0,.ret,hT t11))]⟩ cC (fun z=>(c224_ _ (c226_ _ (c229_ _ (c230_ _ (c231_ _ (aB h9 (aB h10 (aI (iw n _ t11 gt11) z))))))))) (by kernel_rfl)
  have c232_:=fun (R:Prop) (z:R)=>(aB h9 (aB h10 z))
  rcases aG h with ⟨h11,h⟩ | ⟨h11,h⟩
  ·
   obtain ⟨t12,gt12,h⟩:=ac h
   obtain rfl:=aS h
   exact kP ⟨bv,(e225_++(e227_++(e228_++[rV 4 [(36,vT),(41,vT),(46,vT),(51,vT),(56,vT),(61,vT),(66,vT),(70,vF)]]))),[],[],[(9,(⟨[4],[1],0,[],[],[]⟩,l0,.ret,hT t12))]⟩ cC (fun z=>(c224_ _ (c226_ _ (c229_ _ (c230_ _ (c231_ _ (c232_ _ (aB h11 (aI (iw n _ t12 gt12) z))))))))) (by kernel_rfl)
  rcases aG h with ⟨h12,h⟩ | ⟨h12,h⟩
  ·
   obtain ⟨t13,gt13,h⟩:=ac h
   obtain rfl:=aS h
   exact kP ⟨bv,(e225_++(e227_++(e228_++[rV 4 [(36,vT),(41,vT),(46,vT),(51,vT),(56,vT),(61,vT),(66,vT),(70,vT),(75,vF)]]))),[],[],[(9,(⟨[4],[1],0,[],[],[]⟩,l0,.ret,hT t13))]⟩ cC (fun z=>(c224_ _ (c226_ _ (c229_ _ (c230_ _ (c231_ _ (c232_ _ (aB h11 (aB h12 (aI (iw n _ t13 gt13) z)))))))))) (by kernel_rfl)
  have c233_:=fun (R:Prop) (z:R)=>(aB h11 (aB h12 z))
  rcases aG h with ⟨h13,h⟩ | ⟨h13,h⟩
  ·
   obtain ⟨t14,gt14,h⟩:=ac h
   obtain rfl:=aS h
   exact kP ⟨bv,(e225_++(e227_++(e228_++[rV 4 [(36,vT),(41,vT),(46,vT),(51,vT),(56,vT),(61,vT),(66,vT),(70,vT),(75,vT),(80,vF)]]))),[],[],[(9,(⟨[4],[1],0,[],[],[]⟩,l0,.ret,hT t14))]⟩ cC (fun z=>(c224_ _ (c226_ _ (c229_ _ (c230_ _ (c231_ _ (c232_ _ (c233_ _ (aB h13 (aI (iw n _ t14 gt14) z)))))))))) (by kernel_rfl)
  rcases au h with ⟨h14,h⟩ | ⟨h14,h⟩
  ·
   obtain ⟨t15,gt15,h⟩:=ac h
   obtain rfl:=aS h
   exact kP ⟨bv,(e225_++(e227_++(e228_++[rV 4 [(36,vT),(41,vT),(46,vT),(51,vT),(56,vT),(61,vT),(66,vT),(70,vT),(75,vT),(80,vT),(85,vT)]]))),[],[],[(9,(⟨[4],[1],0,[],[],[]⟩,l0,.ret,hT t15))]⟩ cC (fun z=>(c224_ _ (c226_ _ (c229_ _ (c230_ _ (c231_ _ (c232_ _ (c233_ _ (aB h13 (aB h14 (aI (iw n _ t15 gt15) z))))))))))) (by kernel_rfl)
  obtain ⟨t15,gt15,h⟩:=ac h
  obtain rfl:=aS h
  exact kP ⟨bv,(e225_++(e227_++(e228_++[rV 4 [(36,vT),(41,vT),(46,vT),(51,vT),(56,vT),(61,vT),(66,vT),(70,vT),(75,vT),(80,vT),(85,vF)]]))),[],[],[(9,(⟨[4],[1],0,[],[],[]⟩,l0,.ret,hT t15))]⟩ cC (fun z=>(c224_ _ (c226_ _ (c229_ _ (c230_ _ (c231_ _ (c232_ _ (c233_ _ (aB h13 (aB h14 (aI (iw n _ t15 gt15) z))))))))))) (by kernel_rfl)
 let e234_:LR:=[rV 3 [(34,vF)]]
 rcases aG h with ⟨h4,h⟩ | ⟨h4,h⟩
 ·
  obtain ⟨t5,gt5,h⟩:=ac h
  obtain ⟨t6,gt6,h⟩:=ac h
  obtain rfl:=aS h
  exact kP ⟨bv,(e225_++(e227_++(e234_++[rV 5 [(91,vF)]]))),[],[],[(6,(⟨[1,4],[],0,[],[],[]⟩,l0,.nrm,o6 e t5)),(9,(⟨[4],[],0,[],[],[]⟩,l0,.ret,hT t6))]⟩ cC (fun z=>(c224_ _ (c226_ _ (aB h3 (aB h4 (aI (pL n e _ t5 gt5) (aI (iw n _ t6 gt6) z))))))) (by kernel_rfl)
 obtain ⟨y5,gy5,h⟩:=ac h
 have c235_:=fun (R:Prop) (z:R)=>(aB h3 (aB h4 (aI (iX n e y5 gy5) z)))
 rcases aG h with ⟨h6,h⟩ | ⟨h6,h⟩
 ·
  obtain ⟨t7,gt7,h⟩:=ac h
  obtain ⟨t8,gt8,h⟩:=ac h
  obtain rfl:=aS h
  exact kP ⟨bv,(e225_++(e227_++(e234_++[bh 5 [(91,vT),(95,vF)] [(93,.v (.bool y5))]]))),[],[],[(6,(⟨[1,4],[],0,[],[],[]⟩,l0,.nrm,o6 e t7)),(9,(⟨[4],[],0,[],[],[]⟩,l0,.ret,hT t8))]⟩ cC (fun z=>(c224_ _ (c226_ _ (c235_ _ (aB h6 (aI (pL n e _ t7 gt7) (aI (iw n _ t8 gt8) z))))))) (by kernel_rfl)
 rcases aG h with ⟨h7,h⟩ | ⟨h7,h⟩
 ·
  obtain ⟨t8,gt8,h⟩:=ac h
  obtain ⟨t9,gt9,h⟩:=ac h
  obtain rfl:=aS h
  exact kP ⟨bv,(e225_++(e227_++(e234_++[bh 5 [(91,vT),(95,vT),(101,vF)] [(93,.v (.bool y5))]]))),[],[],[(6,(⟨[1,4],[],0,[],[],[]⟩,l0,.nrm,o6 e t8)),(9,(⟨[4],[],0,[],[],[]⟩,l0,.ret,hT t9))]⟩ cC (fun z=>(c224_ _ (c226_ _ (c235_ _ (aB h6 (aB h7 (aI (pL n e _ t8 gt8) (aI (iw n _ t9 gt9) z)))))))) (by kernel_rfl)
 obtain ⟨y8,gy8,h⟩:=ac h
 have c236_:=fun (R:Prop) (z:R)=>(aB h6 (aB h7 (aI (fV n e y8 gy8) z)))
 rcases au h with ⟨h9,h⟩ | ⟨h9,h⟩
 ·
  obtain ⟨y10,gy10,h⟩:=ac h
  have c237_:=fun (R:Prop) (z:R)=>(aB h9 (aI (eu n e y10 gy10) z))
  rcases au h with ⟨h11,h⟩ | ⟨h11,h⟩
  ·
   rcases au h with ⟨h12,h⟩ | ⟨h12,h⟩
   ·
    obtain ⟨t13,gt13,h⟩:=ac h
    obtain ⟨t14,gt14,h⟩:=ac h
    obtain rfl:=aS h
    exact kP ⟨bv,(e225_++(e227_++(e234_++[bh 5 [(91,vT),(95,vT),(101,vT),(104,vT),(113,vT),(124,vT)] [(93,.v (.bool y5)),(103,.v (.bool y8)),(112,.v (.bool y10))]]))),[],[],[(6,(⟨[1,4],[],0,[],[],[]⟩,l0,.nrm,o6 e t13)),(9,(⟨[4],[],0,[],[],[]⟩,l0,.ret,hT t14))]⟩ cC (fun z=>(c224_ _ (c226_ _ (c235_ _ (c236_ _ (c237_ _ (aB h11 (aB h12 (aI (pL n e _ t13 gt13) (aI (iw n _ t14 gt14) z)))))))))) (by kernel_rfl)
   obtain ⟨t13,gt13,h⟩:=ac h
   obtain ⟨t14,gt14,h⟩:=ac h
   obtain rfl:=aS h
   exact kP ⟨bv,(e225_++(e227_++(e234_++[bh 5 [(91,vT),(95,vT),(101,vT),(104,vT),(113,vT),(124,vF)] [(93,.v (.bool y5)),(103,.v (.bool y8)),(112,.v (.bool y10))]]))),[],[],[(6,(⟨[1,4],[],0,[],[],[]⟩,l0,.nrm,o6 e t13)),(9,(⟨[4],[],0,[],[],[]⟩,l0,.ret,hT t14))]⟩ cC (fun z=>(c224_ _ (c226_ _ (c235_ _ (c236_ _ (c237_ _ (aB h11 (aB h12 (aI (pL n e _ t13 gt13) (aI (iw n _ t14 gt14) z)))))))))) (by kernel_rfl)
  rcases aG h with ⟨h12,h⟩ | ⟨h12,h⟩
  ·
   obtain ⟨t13,gt13,h⟩:=ac h
   obtain ⟨t14,gt14,h⟩:=ac h
   obtain rfl:=aS h
   exact kP ⟨bv,(e225_++(e227_++(e234_++[bh 5 [(91,vT),(95,vT),(101,vT),(104,vT),(113,vF),(119,vF)] [(93,.v (.bool y5)),(103,.v (.bool y8)),(112,.v (.bool y10))]]))),[],[],[(6,(⟨[1,4],[],0,[],[],[]⟩,l0,.nrm,o6 e t13)),(9,(⟨[4],[],0,[],[],[]⟩,l0,.ret,hT t14))]⟩ cC (fun z=>(c224_ _ (c226_ _ (c235_ _ (c236_ _ (c237_ _ (aB h11 (aB h12 (aI (pL n e _ t13 gt13) (aI (iw n _ t14 gt14) z)))))))))) (by kernel_rfl)
  have c238_:=fun (R:Prop) (z:R)=>(aB h11 (aB h12 z))
  rcases au h with ⟨h13,h⟩ | ⟨h13,h⟩
  ·
   obtain ⟨t14,gt14,h⟩:=ac h
   obtain ⟨t15,gt15,h⟩:=ac h
   obtain rfl:=aS h
   exact kP ⟨bv,(e225_++(e227_++(e234_++[bh 5 [(91,vT),(95,vT),(101,vT),(104,vT),(113,vF),(119,vT),(124,vT)] [(93,.v (.bool y5)),(103,.v (.bool y8)),(112,.v (.bool y10))]]))),[],[],[(6,(⟨[1,4],[],0,[],[],[]⟩,l0,.nrm,o6 e t14)),(9,(⟨[4],[],0,[],[],[]⟩,l0,.ret,hT t15))]⟩ cC (fun z=>(c224_ _ (c226_ _ (c235_ _ (c236_ _ (c237_ _ (c238_ _ (aB h13 (aI (pL n e _ t14 gt14) (aI (iw n _ t15 gt15) z)))))))))) (by kernel_rfl)
  obtain ⟨t14,gt14,h⟩:=ac h
  obtain ⟨t15,gt15,h⟩:=ac h
  obtain rfl:=aS h
  exact kP ⟨bv,(e225_++(e227_++(e234_++[bh 5 [(91,vT),(95,vT),(101,vT),(104,vT),(113,vF),(119,vT),(124,vF)] [(93,.v (.bool y5)),(103,.v (.bool y8)),(112,.v (.bool y10))]]))),[],[],[(6,(⟨[1,4],[],0,[],[],[]⟩,l0,.nrm,o6 e t14)),(9,(⟨[4],[],0,[],[],[]⟩,l0,.ret,hT t15))]⟩ cC (fun z=>(c224_ _ (c226_ _ (c235_ _ (c236_ _ (c237_ _ (c238_ _ (aB h13 (aI (pL n e _ t14 gt14) (aI (iw n _ t15 gt15) z)))))))))) (by kernel_rfl)
 rcases aG h with ⟨h10,h⟩ | ⟨h10,h⟩
 ·
  obtain ⟨t11,gt11,h⟩:=ac h
  obtain ⟨t12,gt12,h⟩:=ac h
  obtain rfl:=aS h
  exact kP ⟨bv,(e225_++(e227_++(e234_++[bh 5 [(91,vT),(95,vT),(101,vT),(104,vF),(110,vF)] [(93,.v (.bool y5)),(103,.v (.bool y8))]]))),[],[],[(6,(⟨[1,4],[],0,[],[],[]⟩,l0,.nrm,o6 e t11)),(9,(⟨[4],[],0,[],[],[]⟩,l0,.ret,hT t12))]⟩ cC (fun z=>(c224_ _ (c226_ _ (c235_ _ (c236_ _ (aB h9 (aB h10 (aI (pL n e _ t11 gt11) (aI (iw n _ t12 gt12) z))))))))) (by kernel_rfl)
 obtain ⟨y11,gy11,h⟩:=ac h
 have c239_:=fun (R:Prop) (z:R)=>(aB h9 (aB h10 (aI (eu n e y11 gy11) z)))
 rcases au h with ⟨h12,h⟩ | ⟨h12,h⟩
 ·
  rcases au h with ⟨h13,h⟩ | ⟨h13,h⟩
  ·
   obtain ⟨t14,gt14,h⟩:=ac h
   obtain ⟨t15,gt15,h⟩:=ac h
   obtain rfl:=aS h
   exact kP ⟨bv,(e225_++(e227_++(e234_++[bh 5 [(91,vT),(95,vT),(101,vT),(104,vF),(110,vT),(113,vT),(124,vT)] [(93,.v (.bool y5)),(103,.v (.bool y8)),(112,.v (.bool y11))]]))),[],[],[(6,(⟨[1,4],[],0,[],[],[]⟩,l0,.nrm,o6 e t14)),(9,(⟨[4],[],0,[],[],[]⟩,l0,.ret,hT t15))]⟩ cC (fun z=>(c224_ _ (c226_ _ (c235_ _ (c236_ _ (c239_ _ (aB h12 (aB h13 (aI (pL n e _ t14 gt14) (aI (iw n _ t15 gt15) z)))))))))) (by kernel_rfl)
  obtain ⟨t14,gt14,h⟩:=ac h
  obtain ⟨t15,gt15,h⟩:=ac h
  obtain rfl:=aS h
  exact kP ⟨bv,(e225_++(e227_++(e234_++[bh 5 [(91,vT),(95,vT),(101,vT),(104,vF),(110,vT),(113,vT),(124,vF)] [(93,.v (.bool y5)),(103,.v (.bool y8)),(112,.v (.bool y11))]]))),[],[],[(6,(⟨[1,4],[],0,[],[],[]⟩,l0,.nrm,o6 e t14)),(9,(⟨[4],[],0,[],[],[]⟩,l0,.ret,hT t15))]⟩ cC (fun z=>(c224_ _ (c226_ _ (c235_ _ (c236_ _ (c239_ _ (aB h12 (aB h13 (aI (pL n e _ t14 gt14) (aI (iw n _ t15 gt15) z)))))))))) (by kernel_rfl)
 rcases aG h with ⟨h13,h⟩ | ⟨h13,h⟩
 ·
  obtain ⟨t14,gt14,h⟩:=ac h
  obtain ⟨t15,gt15,h⟩:=ac h
  obtain rfl:=aS h
  exact kP ⟨bv,(e225_++(e227_++(e234_++[bh 5 [(91,vT),(95,vT),(101,vT),(104,vF),(110,vT),(113,vF),(119,vF)] [(93,.v (.bool y5)),(103,.v (.bool y8)),(112,.v (.bool y11))]]))),[],[],[(6,(⟨[1,4],[],0,[],[],[]⟩,l0,.nrm,o6 e t14)),(9,(⟨[4],[],0,[],[],[]⟩,l0,.ret,hT t15))]⟩ cC (fun z=>(c224_ _ (c226_ _ (c235_ _ (c236_ _ (c239_ _ (aB h12 (aB h13 (aI (pL n e _ t14 gt14) (aI (iw n _ t15 gt15) z)))))))))) (by kernel_rfl)
 have c240_:=fun (R:Prop) (z:R)=>(aB h12 (aB h13 z))
 rcases au h with ⟨h14,h⟩ | ⟨h14,h⟩
 ·
  obtain ⟨t15,gt15,h⟩:=ac h
  obtain ⟨t16,gt16,h⟩:=ac h
  obtain rfl:=aS h
  exact kP ⟨bv,(e225_++(e227_++(e234_++[bh 5 [(91,vT),(95,vT),(101,vT),(104,vF),(110,vT),(113,vF),(119,vT),(124,vT)] [(93,.v (.bool y5)),(103,.v (.bool y8)),(112,.v (.bool y11))]]))),[],[],[(6,(⟨[1,4],[],0,[],[],[]⟩,l0,.nrm,o6 e t15)),(9,(⟨[4],[],0,[],[],[]⟩,l0,.ret,hT t16))]⟩ cC (fun z=>(c224_ _ (c226_ _ (c235_ _ (c236_ _ (c239_ _ (c240_ _ (aB h14 (aI (pL n e _ t15 gt15) (aI (iw n _ t16 gt16) z)))))))))) (by kernel_rfl)
 obtain ⟨t15,gt15,h⟩:=ac h
 obtain ⟨t16,gt16,h⟩:=ac h
 obtain rfl:=aS h
 exact kP ⟨bv,(e225_++(e227_++(e234_++[bh 5 [(91,vT),(95,vT),(101,vT),(104,vF),(110,vT),(113,vF),(119,vT),(124,vF)] [(93,.v (.bool y5)),(103,.v (.bool y8)),(112,.v (.bool y11))]]))),[],[],[(6,(⟨[1,4],[],0,[],[],[]⟩,l0,.nrm,o6 e t15)),(9,(⟨[4],[],0,[],[],[]⟩,l0,.ret,hT t16))]⟩ cC (fun z=>(c224_ _ (c226_ _ (c235_ _ (c236_ _ (c239_ _ (c240_ _ (aB h14 (aI (pL n e _ t15 gt15) (aI (iw n _ t16 gt16) z)))))))))) (by kernel_rfl)

def i7:List (Nat×PT):=[(8,(eO [0,1,2,3,4,5,6,7,8,9,10,11,12,13,14,15,16,17]))]
theorem Hq:aA (ao 54) i7 (al Tryz.prog 54)=true:=by kernel_rfl
noncomputable def LD:Code:=sub (al Tryz.prog 54) [1,0,1,0,0]
noncomputable def Og:Code:=sub LD [1,0,0,1,1,1,1,1,0,0]
theorem I9:aA (ao 54) i7 Og=true:=by kernel_rfl
def I_ (hart:Int) (l:(List Event)) (xa2:Event) (xa8:Event) (sb:Int×Bool×Int×Int):St:=bm 76 [(0,(vI hart)),(1,.sl (l.map Event.enc)),(5,(vI sb.2.2.1)),(7,(vI sb.2.2.2)),(22,.ptr (.L 6) 0 0),(23,(vI xa2.Hart)),(24,(vI hart)),(25,.v (.bool (xa2.Hart != hart))),(28,.ptr (.L 6) 0 1),(29,(vI xa2.At)),(30,(vI sb.1)),(31,.v (.bool sb.2.1)),(44,.sl (l.map Event.enc)),(45,.ptr (.L 6) 0 10),(46,(vI xa2.Pair)),(47,.fptr (Event.enc xa8) 0),(48,.fptr (Event.enc xa8) 3),(49,(vU xa8.Addr)),(50,.ptr (.L 6) 0 3),(51,(vU xa2.Addr)),(52,.v (.bool (xa8.Addr != xa2.Addr)))] [(6,(Event.enc xa2))] [] 0
def Oh (hart:Int) (l:(List Event)) (xa2:Event) (xa8:Event) (tt:Int×Bool×Int):St:=bm 76 [(0,(vI hart)),(1,.sl (l.map Event.enc)),(5,(vI tt.2.2)),(22,.ptr (.L 6) 0 0),(23,(vI xa2.Hart)),(24,(vI hart)),(25,.v (.bool (xa2.Hart != hart))),(28,.ptr (.L 6) 0 1),(29,(vI xa2.At)),(30,(vI tt.1)),(31,.v (.bool tt.2.1)),(44,.sl (l.map Event.enc)),(45,.ptr (.L 6) 0 10),(46,(vI xa2.Pair)),(47,.fptr (Event.enc xa8) 0),(48,.fptr (Event.enc xa8) 3),(49,(vU xa8.Addr)),(50,.ptr (.L 6) 0 3),(51,(vU xa2.Addr)),(52,.v (.bool (xa8.Addr != xa2.Addr)))] [(6,(Event.enc xa2))] [] 0
def Oi (hart:Int) (l:(List Event)) (xa2:Event) (xa8:Event) (tt:Unit):St:=bm 76 [(4,(vI 4))] [] [] 0
def LF (hart:Int) (l:(List Event)) (xa2:Event) (xa8:Event) (t0:((Int×Bool×Int)⊕Unit)):Ex×St:=match t0 with | .inl tt=>(.ex 2,Oh hart l xa2 xa8 tt) | .inr tt=>(.ret,Oi hart l xa2 xa8 tt)
theorem Oj (n:Nat) (hart:Int) (l:(List Event)) (xa2:Event) (xa8:Event):∀ sb r,kI n hart l xa2 xa8 sb=some r→aW Tryz.prog Og (I_ hart l xa2 xa8 sb) (rk (I_ hart l xa2 xa8) (LF hart l xa2 xa8) r):=by
 intro sb r h
 unfold kI at h
 rcases aG h with ⟨hb1,h⟩ | ⟨hb1,h⟩
 ·
  exact kQ h (nA i7 [rV 11 [(59,vF)]]) [wK 4 [0,1,5,22,23,24,25,28,29,30,31,44,45,46,47,48,49,50,51,52] [] 0] I9 (co rfl j8) (fun z=>(aB hb1 z)) (by kernel_rfl)
 obtain ⟨xb2,gxb2,h⟩:=ac h
 have c242_:=fun (R:Prop) (z:R)=>(aB hb1 (aM Event.enc gxb2 z))
 let e243_:LR:=[rV 11 [(59,vT)]]
 rcases au h with ⟨hb3,h⟩ | ⟨hb3,h⟩
 ·
  exact kQ h (nA i7 (e243_++[(13,⟨[],[],[(64,(Event.enc xb2))],[(68,vT)],[],[],[],[],[]⟩)])) [wK 1 [4] [6] 0] I9 (co rfl fT) (fun z=>(c242_ _ (aB hb3 z))) (by kernel_rfl)
 have c244_:=fun (R:Prop) (z:R)=>(aB hb3 (aM Event.enc gxb2 z))
 rcases au h with ⟨hb4,h⟩ | ⟨hb4,h⟩
 ·
  exact kQ h (nA i7 (e243_++[(13,⟨[],[],[(64,(Event.enc xb2)),(71,(Event.enc xb2))],[(68,vF),(75,vT)],[],[],[],[],[]⟩)])) [wK 1 [4] [6] 0] I9 (co rfl fT) (fun z=>(c242_ _ (c244_ _ (aB hb4 z)))) (by kernel_rfl)
 exact kQ h (nA i7 (e243_++[(13,⟨[],[],[(64,(Event.enc xb2)),(71,(Event.enc xb2))],[(68,vF),(75,vF)],[],[],[],[],[]⟩)])) [wK 0 [0,1,5,7,22,23,24,25,28,29,30,31,44,45,46,47,48,49,50,51,52] [] 0] I9 cS (fun z=>(c242_ _ (c244_ _ (aB hb4 z)))) (by kernel_rfl)

theorem Au:aA (ao 54) i7 LD=true:=by kernel_rfl
def Ja (hart:Int) (l:(List Event)) (sa:Int):St:=bm 76 [(0,(vI hart)),(1,.sl (l.map Event.enc)),(5,(vI sa))] [] [] 0
def Ol (hart:Int) (l:(List Event)) (tt:Unit):St:=bm 76 [] [] [] 0
def Om (hart:Int) (l:(List Event)) (tt:Unit):St:=bm 76 [(4,(vI 4))] [] [] 0
def LG (hart:Int) (l:(List Event)) (t0:(Unit⊕Unit)):Ex×St:=match t0 with | .inl tt=>(.ex 0,Ol hart l tt) | .inr tt=>(.ret,Om hart l tt)
theorem On (n:Nat) (hart:Int) (l:(List Event)):∀ sa r,kJ n hart l sa=some r→aW Tryz.prog LD (Ja hart l sa) (rk (Ja hart l) (LG hart l) r):=by
 intro sa r h
 unfold kJ at h
 rcases aG h with ⟨ha1,h⟩ | ⟨ha1,h⟩
 ·
  exact kQ h (nA i7 [rV 2 [(10,(vI (l.length:Int))),(11,vF)]]) [wK 2 [] [] 0] Au (co rfl j8) (fun z=>(aL Event.enc l (aB ha1 z))) (by kernel_rfl)
 obtain ⟨xa2,gxa2,h⟩:=ac h
 obtain ⟨ya3,gya3,h⟩:=ac h
 have c245_:=fun (R:Prop) (z:R)=>(aL Event.enc l (aB ha1 (aM Event.enc gxa2 (aI (wZ n xa2 ya3 gya3) z))))
 let e246_:LR:=[rV 2 [(10,(vI (l.length:Int))),(11,vT)],rR 4 [(16,(Event.enc xa2))]]
 rcases au h with ⟨ha4,h⟩ | ⟨ha4,h⟩
 ·
  exact kQ h (nA i7 (e246_++[bh 5 [(21,vT)] [(19,(vI ya3))]])) [wK 1 [4] [6] 0] Au (co rfl fT) (fun z=>(c245_ _ (aB ha4 z))) (by kernel_rfl)
 rcases au h with ⟨ha5,h⟩ | ⟨ha5,h⟩
 ·
  exact kQ h (nA i7 (e246_++[bh 5 [(21,vF),(27,vT)] [(19,(vI ya3))]])) [wK 1 [4] [6] 0] Au (co rfl fT) (fun z=>(c245_ _ (aB ha4 (aB ha5 z)))) (by kernel_rfl)
 have c247_:=fun (R:Prop) (z:R)=>(aB ha4 (aB ha5 z))
 rcases au h with ⟨ha6,h⟩ | ⟨ha6,h⟩
 ·
  exact kQ h (nA i7 (e246_++[bh 5 [(21,vF),(27,vF),(32,vT)] [(19,(vI ya3))]])) [wK 1 [4] [6] 0] Au (co rfl fT) (fun z=>(c245_ _ (c247_ _ (aB ha6 z)))) (by kernel_rfl)
 let e248_:LR:=[bh 5 [(21,vF),(27,vF),(32,vF)] [(19,(vI ya3))]]
 rcases au h with ⟨ha7,h⟩ | ⟨ha7,h⟩
 ·
  exact kQ h (nA i7 (e246_++(e248_++[rV 7 [(35,vT)]]))) [wK 0 [0,1,5] [6] 0] Au cS (fun z=>(c245_ _ (c247_ _ (aB ha6 (aB ha7 z))))) (by kernel_rfl)
 obtain ⟨xa8,gxa8,h⟩:=ac h
 have c249_:=fun (R:Prop) (z:R)=>(aB ha6 (aB ha7 (aM Event.enc gxa8 z)))
 let e250_:LR:=[rV 7 [(35,vF)]]
 rcases au h with ⟨ha9,h⟩ | ⟨ha9,h⟩
 ·
  exact kQ h (nA i7 (e246_++(e248_++(e250_++[(8,⟨[],[],[(39,(Event.enc xa8))],[(43,vT)],[],[],[],[],[]⟩)])))) [wK 1 [4] [6] 0] Au (co rfl fT) (fun z=>(c245_ _ (c247_ _ (c249_ _ (aB ha9 z))))) (by kernel_rfl)
 have c251_:=fun (R:Prop) (z:R)=>(aB ha9 (aM Event.enc gxa8 z))
 rcases au h with ⟨ha10,h⟩ | ⟨ha10,h⟩
 ·
  exact kQ h (nA i7 (e246_++(e248_++(e250_++[(8,⟨[],[],[(39,(Event.enc xa8)),(47,(Event.enc xa8))],[(43,vF),(53,vT)],[],[],[],[],[]⟩)])))) [wK 1 [4] [6] 0] Au (co rfl fT) (fun z=>(c245_ _ (c247_ _ (c249_ _ (c251_ _ (aB ha10 z)))))) (by kernel_rfl)
 obtain ⟨ta11,gta11,h⟩:=ac h
 rcases ta11 with wa12 | wa12
 ·
  exact kQ h ⟨i7,(e246_++(e248_++(e250_++[(8,⟨[],[],[(39,(Event.enc xa8)),(47,(Event.enc xa8))],[(43,vF),(53,vF)],[],[],[],[],[]⟩)]))),[],[(11,(⟨[0,1,5,7,22,23,24,25,28,29,30,31,44,45,46,47,48,49,50,51,52],[],0,[],[],[]⟩,l0,(.ex 2),Oh hart l xa2 xa8 wa12))],[]⟩ [wK 0 [0,1,5] [6] 0] Au cS (fun z=>(c245_ _ (c247_ _ (c249_ _ (c251_ _ (aB ha10 (aI (eA (pl:=ao 54) (I_ hart l xa2 xa8) (LF hart l xa2 xa8) (Oj n hart l xa2 xa8) n _ (.inl wa12) gta11) z))))))) (by kernel_rfl)
 ·
  exact kQ h ⟨i7,(e246_++(e248_++(e250_++[(8,⟨[],[],[(39,(Event.enc xa8)),(47,(Event.enc xa8))],[(43,vF),(53,vF)],[],[],[],[],[]⟩)]))),[],[(11,(⟨[0,1,5,7,22,23,24,25,28,29,30,31,44,45,46,47,48,49,50,51,52],[],0,[],[],[]⟩,l0,.ret,Oi hart l xa2 xa8 wa12))],[]⟩ [wK 1 [4] [] 0] Au (co rfl fT) (fun z=>(c245_ _ (c247_ _ (c249_ _ (c251_ _ (aB ha10 (aI (eA (pl:=ao 54) (I_ hart l xa2 xa8) (LF hart l xa2 xa8) (Oj n hart l xa2 xa8) n _ (.inr wa12) gta11) z))))))) (by kernel_rfl)

theorem BX (n:Nat) (hart:Int) (l:(List Event)) (r:Int) (h:lA n hart l=some r):az Tryz.prog 54 [(vI hart),.sl (l.map Event.enc)] (eY ((vI r))):=by
 unfold lA at h
 obtain ⟨t1,gt1,h⟩:=ac h
 rcases t1 with w2 | w2
 ·
  obtain rfl:=aS h
  exact kP ⟨i7,[],[],[(2,(⟨[0,1,5],[],0,[],[],[]⟩,l0,(.ex 0),Ol hart l w2))],[]⟩ Hq (fun z=>(aI (eA (pl:=ao 54) (Ja hart l) (LG hart l) (On n hart l) n _ (.inl w2) gt1) z)) (by kernel_rfl)
 ·
  obtain rfl:=aS h
  exact kP ⟨i7,[],[],[(2,(⟨[0,1,5],[],0,[],[],[]⟩,l0,.ret,Om hart l w2))],[]⟩ Hq (fun z=>(aI (eA (pl:=ao 54) (Ja hart l) (LG hart l) (On n hart l) n _ (.inr w2) gt1) z)) (by kernel_rfl)

def J4:List (Nat×PT):=[(1,(eO [0,1,2,3,4,5,6,7,8,9,10,11,12,13]))]
theorem LH:aA (ao 59) J4 (al Tryz.prog 59)=true:=by kernel_rfl
theorem Av (n:Nat) (d:Deps) (r:Deps) (h:nL n d=some r):az Tryz.prog 59 [(bT Deps.enc d)] (eY ((bT Deps.enc r))):=by
 unfold nL at h
 obtain ⟨h1,h⟩:=fj h
 obtain ⟨h2,h⟩:=fj h
 obtain ⟨h3,h⟩:=fj h
 obtain rfl:=aS h
 exact kP (nA J4 []) LH (fun z=>(aI (JS:di 1 (d.Addr.map eI)=true) (aI (H6:a5 (d.Addr.map eI)=true) (aI (u9 h1:Nat.ble ((d.Addr.map eI).length * 8) 140737488355328=true) (aI (JS:di 1 (d.Data.map eI)=true) (aI (H6:a5 (d.Data.map eI)=true) (aI (u9 h2:Nat.ble ((d.Data.map eI).length * 8) 140737488355328=true) (aI (JS:di 1 (d.Way.map eI)=true) (aI (H6:a5 (d.Way.map eI)=true) (aI (u9 h3:Nat.ble ((d.Way.map eI).length * 8) 140737488355328=true) z)))))))))) (by kernel_rfl)

def ui:List (Nat×PT):=[]
theorem LI:aA (ao 36) ui (al Tryz.prog 36)=true:=by kernel_rfl
noncomputable def LJ:Code:=sub (al Tryz.prog 36) [1,1,0,1,0,0]
noncomputable def Oo:Code:=sub LJ [1,0,0,1,0,0]
theorem Oq:aA (ao 36) ui Oo=true:=by kernel_rfl
def LK (c:af) (sb:(List Event)×Int×Int):St:=bm 41 [(1,.ptr (.L 1) 0 0),(3,.mf 0),(4,(vI sb.2.1)),(5,(vI sb.2.2))] [(1,(af.enc c))] [.arr true 14 (sb.1.map Event.enc)] 0
def Ot (c:af) (tt:(List Event)×Int):St:=bm 41 [(1,.ptr (.L 1) 0 0),(3,.mf 0),(4,(vI tt.2))] [(1,(af.enc c))] [.arr true 14 (tt.1.map Event.enc)] 0
def Ou (c:af) (tt:((List Event)×Int)):Ex×St:=(.ex 2,Ot c tt)
theorem Qq (n:Nat) (c:af):∀ sb r,lB n c sb=some r→aW Tryz.prog Oo (LK c sb) (rk (LK c) (Ou c) r):=by
 intro sb r h
 unfold lB at h
 obtain ⟨xb1,gxb1,h⟩:=ac h
 have c252_:=fun (R:Prop) (z:R)=>(aM (et Event.enc) gxb1 (aL Event.enc xb1 z))
 rcases aG h with ⟨hb2,h⟩ | ⟨hb2,h⟩
 ·
  exact kQ h (nA ui [(6,⟨[],[],[(18,[.sl (xb1.map Event.enc)])],[(20,(vI (xb1.length:Int))),(21,vF)],[],[],[],[],[]⟩)]) [wK 4 [1,3,4] [] 1] Oq (co rfl j8) (fun z=>(c252_ _ (aB hb2 z))) (by kernel_rfl)
 obtain ⟨xb3,gxb3,h⟩:=ac h
 obtain ⟨yb4,gyb4,h⟩:=ac h
 obtain ⟨hb5,h⟩:=fj h
 exact kQ h (nA ui [(6,⟨[],[],[(18,[.sl (xb1.map Event.enc)])],[(20,(vI (xb1.length:Int))),(21,vT)],[],[],[],[],[]⟩),rR 8 [(27,[.sl (xb1.map Event.enc)]),(30,(Event.enc xb3))],bh 9 [] [(34,(bT Deps.enc yb4))],(10,⟨[],[39],[],[],[],[],[(39,(0,(sb.1++([(Event.mk xb3.Hart xb3.At xb3.Kind xb3.Addr xb3.Load xb3.Store xb3.Aq xb3.Rl xb3.Pred xb3.Succ xb3.Pair yb4)]:List Event)).map Event.enc))],[],[]⟩)]) [wK 0 [1,3,4,5] [6] 1] Oq cS (fun z=>(c252_ _ (aB hb2 (aM (et Event.enc) gxb1 (aM Event.enc gxb3 (aI (Av n xb3.Deps yb4 gyb4) (aI (rfl:di 14 [[(vI xb3.Hart),(vI xb3.At),(vI xb3.Kind),(vU xb3.Addr),(vU xb3.Load),(vU xb3.Store),.v (.bool xb3.Aq),.v (.bool xb3.Rl),(vI xb3.Pred),(vI xb3.Succ),(vI xb3.Pair),.sl (yb4.Addr.map eI),.sl (yb4.Data.map eI),.sl (yb4.Way.map eI)]]=true) (aI (rfl:a5 [[(vI xb3.Hart),(vI xb3.At),(vI xb3.Kind),(vU xb3.Addr),(vU xb3.Load),(vU xb3.Store),.v (.bool xb3.Aq),.v (.bool xb3.Rl),(vI xb3.Pred),(vI xb3.Succ),(vI xb3.Pair),.sl (yb4.Addr.map eI),.sl (yb4.Data.map eI),.sl (yb4.Way.map eI)]]=true) (aI (mE hb5:Nat.ble (((sb.1.map Event.enc).length + 1) * 152) 140737488355328=true) (aI (pD Event.enc sb.1 ([(Event.mk xb3.Hart xb3.At xb3.Kind xb3.Addr xb3.Load xb3.Store xb3.Aq xb3.Rl xb3.Pred xb3.Succ xb3.Pair yb4)]:List Event)) z)))))))))) (by kernel_rfl)

theorem Ov:aA (ao 36) ui LJ=true:=by kernel_rfl
def LL (c:af) (sa:(List Event)×Int):St:=bm 41 [(1,.ptr (.L 1) 0 0),(3,.mf 0),(4,(vI sa.2))] [(1,(af.enc c))] [.arr true 14 (sa.1.map Event.enc)] 0
def Ow (c:af) (tt:(List Event)):St:=bm 41 [(3,.mf 0)] [] [.arr true 14 (tt.map Event.enc)] 0
def Ox (c:af) (tt:((List Event))):Ex×St:=(.ex 0,Ow c tt)
theorem Qr (n:Nat) (c:af):∀ sa r,lC n c sa=some r→aW Tryz.prog LJ (LL c sa) (rk (LL c) (Ox c) r):=by
 intro sa r h
 unfold lC at h
 rcases aG h with ⟨ha1,h⟩ | ⟨ha1,h⟩
 ·
  exact kQ h (nA ui [rV 3 [(10,(vI (c.Harts.length:Int))),(11,vF)]]) [wK 2 [3] [1] 1] Ov (co rfl j8) (fun z=>(aL (et Event.enc) c.Harts (aB ha1 z))) (by kernel_rfl)
 obtain ⟨ta2,gta2,h⟩:=ac h
 exact kQ h ⟨ui,[rV 3 [(10,(vI (c.Harts.length:Int))),(11,vT)]],[],[(6,(⟨[1,3,4,5],[],1,[],[],[]⟩,l0,(.ex 2),Ot c ta2))],[]⟩ [wK 0 [1,3,4] [] 1] Ov cS (fun z=>(aL (et Event.enc) c.Harts (aB ha1 (aI (eA (pl:=ao 36) (LK c) (Ou c) (Qq n c) n _ ta2 gta2) z)))) (by kernel_rfl)

theorem r7 (n:Nat) (c:af) (r:(List Event)) (h:jO n c=some r):az Tryz.prog 36 [(bT af.enc c)] (eY (.sl (r.map Event.enc))):=by
 unfold jO at h
 obtain ⟨t1,gt1,h⟩:=ac h
 obtain rfl:=aS h
 exact kP ⟨ui,[],[],[(3,(⟨[1,3,4],[],0,[(3,14)],[],[]⟩,l0,(.ex 0),Ow c t1))],[]⟩ LI (fun z=>(aI (eA (pl:=ao 36) (LL c) (Ox c) (Qr n c) n _ t1 gt1) z)) (by kernel_rfl)

def w7:List (Nat×PT):=[]
theorem Hr:aA (ao 70) w7 (al Tryz.prog 70)=true:=by kernel_rfl
noncomputable def Oy:Code:=sub (al Tryz.prog 70) [1,0,1,0,0]
theorem LM:aA (ao 70) w7 Oy=true:=by kernel_rfl
def Jb (l:(List Cell)) (addr:Int) (sa:Int):St:=bm 24 [(0,.sl (l.map Cell.enc)),(1,(vU addr)),(5,(vI sa))] [] [] 0
def Oz (l:(List Cell)) (addr:Int) (tt:Unit):St:=bm 24 [] [] [] 0
def OA (l:(List Cell)) (addr:Int) (tt:Int):St:=bm 24 [(4,(vU tt))] [] [] 0
def LN (l:(List Cell)) (addr:Int) (t0:(Unit⊕Int)):Ex×St:=match t0 with | .inl tt=>(.ex 0,Oz l addr tt) | .inr tt=>(.ret,OA l addr tt)
theorem OB (n:Nat) (l:(List Cell)) (addr:Int):∀ sa r,kp n l addr sa=some r→aW Tryz.prog Oy (Jb l addr sa) (rk (Jb l addr) (LN l addr) r):=by
 intro sa r h
 unfold kp at h
 rcases aG h with ⟨ha1,h⟩ | ⟨ha1,h⟩
 ·
  exact kQ h (nA w7 [rV 2 [(8,(vI (l.length:Int))),(9,vF)]]) [wK 2 [] [] 0] LM (co rfl j8) (fun z=>(aL Cell.enc l (aB ha1 z))) (by kernel_rfl)
 obtain ⟨xa2,gxa2,h⟩:=ac h
 have c253_:=fun (R:Prop) (z:R)=>(aL Cell.enc l (aB ha1 (aM Cell.enc gxa2 z)))
 rcases aG h with ⟨ha3,h⟩ | ⟨ha3,h⟩
 ·
  exact kQ h (nA w7 [rV 2 [(8,(vI (l.length:Int))),(9,vT)],(4,⟨[],[],[(14,(Cell.enc xa2))],[(18,vF)],[],[],[],[],[]⟩)]) [wK 0 [0,1,5] [] 0] LM cS (fun z=>(c253_ _ (aB ha3 z))) (by kernel_rfl)
 exact kQ h (nA w7 [rV 2 [(8,(vI (l.length:Int))),(9,vT)],(4,⟨[],[],[(14,(Cell.enc xa2))],[(18,vT)],[],[],[],[],[]⟩),rR 5 [(21,(Cell.enc xa2))]]) [wK 1 [4] [] 0] LM (co rfl fT) (fun z=>(c253_ _ (aB ha3 (aM Cell.enc gxa2 z)))) (by kernel_rfl)

theorem xX (n:Nat) (l:(List Cell)) (addr:Int) (r:Int) (h:kz n l addr=some r):az Tryz.prog 70 [.sl (l.map Cell.enc),(vU addr)] (eY ((vU r))):=by
 unfold kz at h
 obtain ⟨t1,gt1,h⟩:=ac h
 rcases t1 with w2 | w2
 ·
  obtain rfl:=aS h
  exact kP ⟨w7,[],[],[(2,(⟨[0,1,5],[],0,[],[],[]⟩,l0,(.ex 0),Oz l addr w2))],[]⟩ Hr (fun z=>(aI (eA (pl:=ao 70) (Jb l addr) (LN l addr) (OB n l addr) n _ (.inl w2) gt1) z)) (by kernel_rfl)
 ·
  obtain rfl:=aS h
  exact kP ⟨w7,[],[],[(2,(⟨[0,1,5],[],0,[],[],[]⟩,l0,.ret,OA l addr w2))],[]⟩ Hr (fun z=>(aI (eA (pl:=ao 70) (Jb l addr) (LN l addr) (OB n l addr) n _ (.inr w2) gt1) z)) (by kernel_rfl)

def r8:List (Nat×PT):=[(1,(eO [0,1,2,3,4,5,6,7,8,9,10,11])),(5,(eO [0,1,2,3,4,5,6,7,8])),(8,(eO [0,1,2,3,4,5,6,7,8,9,10,11,12,13,14,15,16,17,18,19,20,21,22,23,24,25]))]
theorem o7:aA (ao 55) r8 (al Tryz.prog 55)=true:=by kernel_rfl
theorem Aw (n:Nat) (c:af) (all:(List Event)) (n_:Int) (r:Bool) (h:dl n c all n_=some r):az Tryz.prog 55 [(bT af.enc c),.sl (all.map Event.enc),(vI n_)] (eY (.v (.bool r))):=by
 unfold dl at h
 obtain ⟨x1,gx1,h⟩:=ac h
 obtain ⟨x2,gx2,h⟩:=ac h
 obtain ⟨y3,gy3,h⟩:=ac h
 have c254_:=fun (R:Prop) (z:R)=>(aM Event.enc gx1 (aM eI gx2 (aI (fV n x1 y3 gy3) z)))
 let e255_:LR:=[rR 1 [(11,(Event.enc x1)),(16,[(vI x2)])]]
 rcases au h with ⟨h4,h⟩ | ⟨h4,h⟩
 ·
  obtain rfl:=aS h
  exact kP (nA r8 (e255_++[bh 2 [(18,vT)] [(20,.v (.bool y3))]])) o7 (fun z=>(c254_ _ (aB h4 z))) (by kernel_rfl)
 let e256_:LR:=[bh 2 [(18,vF)] [(20,.v (.bool y3))]]
 rcases au h with ⟨h5,h⟩ | ⟨h5,h⟩
 ·
  obtain ⟨y6,gy6,h⟩:=ac h
  obtain rfl:=aS h
  exact kP (nA r8 (e255_++(e256_++[rV 4 [(24,vT)],bh 5 [] [(33,(vU y6))]]))) o7 (fun z=>(c254_ _ (aB h4 (aB h5 (aI (xX n c.First x1.Addr y6 gy6) z))))) (by kernel_rfl)
 have c257_:=fun (R:Prop) (z:R)=>(aB h4 (aB h5 z))
 let e258_:LR:=[rV 4 [(24,vF)]]
 rcases au h with ⟨h6,h⟩ | ⟨h6,h⟩
 ·
  obtain rfl:=aS h
  exact kP (nA r8 (e255_++(e256_++(e258_++[rV 6 [(38,vT)]])))) o7 (fun z=>(c254_ _ (c257_ _ (aB h6 z)))) (by kernel_rfl)
 have c259_:=fun (R:Prop) (z:R)=>(aB h6 (aL Event.enc all z))
 rcases au h with ⟨h7,h⟩ | ⟨h7,h⟩
 ·
  obtain rfl:=aS h
  exact kP (nA r8 (e255_++(e256_++(e258_++[rV 6 [(38,vF),(41,(vI (all.length:Int))),(44,vT)]])))) o7 (fun z=>(c254_ _ (c257_ _ (c259_ _ (aB h7 z))))) (by kernel_rfl)
 rcases au h with ⟨h8,h⟩ | ⟨h8,h⟩
 ·
  obtain rfl:=aS h
  exact kP (nA r8 (e255_++(e256_++(e258_++[rV 6 [(35,vT),(38,vF),(41,(vI (all.length:Int))),(44,vF)]])))) o7 (fun z=>(c254_ _ (c257_ _ (c259_ _ (aB h7 (aB h8 z)))))) (by kernel_rfl)
 obtain ⟨x9,gx9,h⟩:=ac h
 obtain ⟨y10,gy10,h⟩:=ac h
 have c260_:=fun (R:Prop) (z:R)=>(aB h7 (aB h8 (aM Event.enc gx9 (aI (eu n x9 y10 gy10) z))))
 let e261_:LR:=[rV 6 [(35,vF),(38,vF),(41,(vI (all.length:Int))),(44,vF)]]
 rcases aG h with ⟨h11,h⟩ | ⟨h11,h⟩
 ·
  obtain rfl:=aS h
  exact kP (nA r8 (e255_++(e256_++(e258_++(e261_++[(8,⟨[],[],[(51,(Event.enc x9))],[(54,vF)],[(53,.v (.bool y10))],[],[],[],[]⟩)]))))) o7 (fun z=>(c254_ _ (c257_ _ (c259_ _ (c260_ _ (aB h11 z)))))) (by kernel_rfl)
 have c262_:=fun (R:Prop) (z:R)=>(aB h11 (aM Event.enc gx9 z))
 rcases aG h with ⟨h12,h⟩ | ⟨h12,h⟩
 ·
  obtain rfl:=aS h
  exact kP (nA r8 (e255_++(e256_++(e258_++(e261_++[(8,⟨[],[],[(51,(Event.enc x9)),(57,(Event.enc x9))],[(54,vT),(64,vF)],[(53,.v (.bool y10))],[],[],[],[]⟩)]))))) o7 (fun z=>(c254_ _ (c257_ _ (c259_ _ (c260_ _ (c262_ _ (aB h12 z))))))) (by kernel_rfl)
 obtain rfl:=aS h
 exact kP (nA r8 (e255_++(e256_++(e258_++(e261_++[(8,⟨[],[],[(51,(Event.enc x9)),(57,(Event.enc x9)),(67,(Event.enc x9))],[(54,vT),(64,vT)],[(53,.v (.bool y10))],[],[],[],[]⟩)]))))) o7 (fun z=>(c254_ _ (c257_ _ (c259_ _ (c260_ _ (c262_ _ (aB h12 (aM Event.enc gx9 z)))))))) (by kernel_rfl)

def fc:List (Nat×PT):=[]
theorem nn:aA (ao 28) fc (al Tryz.prog 28)=true:=by kernel_rfl
noncomputable def OC:Code:=sub (al Tryz.prog 28) [1,1,1,0,1,0,0]
noncomputable def OD:Code:=sub (al Tryz.prog 28) [1,1,1,1,1,1,1,0,1,0,0]
noncomputable def OE:Code:=sub (al Tryz.prog 28) [1,1,1,1,1,1,1,1,1,0,1,0,0]
theorem Jc:aA (ao 28) fc OC=true:=by kernel_rfl
def Jd (c:af) (sa:Int×Int):St:=bm 121 [(1,.ptr (.L 1) 0 0),(3,(vI sa.1)),(4,(vI sa.2))] [(1,(af.enc c))] [] 0
def Fq (c:af) (tt:Int):St:=bm 121 [(1,.ptr (.L 1) 0 0),(3,(vI tt))] [(1,(af.enc c))] [] 0
def OF (c:af) (tt:Unit):St:=bm 121 [(2,(vI 2))] [] [] 0
def LO (c:af) (t0:(Int⊕Unit)):Ex×St:=match t0 with | .inl tt=>(.ex 0,Fq c tt) | .inr tt=>(.ret,OF c tt)
theorem OG (n:Nat) (c:af):∀ sa r,iC n c sa=some r→aW Tryz.prog OC (Jd c sa) (rk (Jd c) (LO c) r):=by
 intro sa r h
 unfold iC at h
 rcases aG h with ⟨ha1,h⟩ | ⟨ha1,h⟩
 ·
  exact kQ h (nA fc [rV 5 [(30,(vI (c.Harts.length:Int))),(31,vF)]]) [wK 2 [1,3] [] 0] Jc (co rfl j8) (fun z=>(aL (et Event.enc) c.Harts (aB ha1 z))) (by kernel_rfl)
 obtain ⟨xa2,gxa2,h⟩:=ac h
 have c263_:=fun (R:Prop) (z:R)=>(aL (et Event.enc) c.Harts (aB ha1 (aM (et Event.enc) gxa2 (aL Event.enc xa2 z))))
 let e264_:LR:=[rV 5 [(30,(vI (c.Harts.length:Int))),(31,vT)],(7,⟨[],[],[(38,[.sl (xa2.map Event.enc)])],[(40,(vI (xa2.length:Int)))],[],[],[],[],[]⟩)]
 rcases au h with ⟨ha3,h⟩ | ⟨ha3,h⟩
 ·
  exact kQ h (nA fc (e264_++[rV 8 [(44,vT)]])) [wK 1 [2] [1] 0] Jc (co rfl fT) (fun z=>(c263_ _ (aB ha3 z))) (by kernel_rfl)
 obtain ⟨ya4,gya4,h⟩:=ac h
 have c265_:=fun (R:Prop) (z:R)=>(aB ha3 (aM (et Event.enc) gxa2 (aI (BX n sa.2 xa2 ya4 gya4) z)))
 rcases aG h with ⟨ha5,h⟩ | ⟨ha5,h⟩
 ·
  exact kQ h (nA fc (e264_++[(8,⟨[],[],[(49,[.sl (xa2.map Event.enc)])],[(44,vF),(53,vF)],[(51,(vI ya4))],[],[],[],[]⟩)])) [wK 0 [1,3,4] [] 0] Jc cS (fun z=>(c263_ _ (c265_ _ (aB ha5 z)))) (by kernel_rfl)
 exact kQ h (nA fc (e264_++[(8,⟨[],[],[(49,[.sl (xa2.map Event.enc)])],[(44,vF),(53,vT)],[(51,(vI ya4))],[],[],[],[]⟩)])) [wK 1 [2] [1] 0] Jc (co rfl fT) (fun z=>(c263_ _ (c265_ _ (aB ha5 z)))) (by kernel_rfl)

theorem Je:aA (ao 28) fc OD=true:=by kernel_rfl
def Jf (c:af) (w6:Int) (y7:(List Event)) (sa:Int×Int):St:=bm 121 [(1,.ptr (.L 1) 0 0),(3,(vI w6)),(5,.sl (y7.map Event.enc)),(6,(vI sa.1)),(7,(vI sa.2))] [(1,(af.enc c))] [] 0
def Jg (c:af) (w6:Int) (y7:(List Event)) (tt:Int):St:=bm 121 [(1,.ptr (.L 1) 0 0),(3,(vI w6)),(5,.sl (y7.map Event.enc)),(6,(vI tt))] [(1,(af.enc c))] [] 0
def OH (c:af) (w6:Int) (y7:(List Event)) (tt:Unit):St:=bm 121 [(2,(vI 2))] [] [] 0
def LQ (c:af) (w6:Int) (y7:(List Event)) (t0:(Int⊕Unit)):Ex×St:=match t0 with | .inl tt=>(.ex 2,Jg c w6 y7 tt) | .inr tt=>(.ret,OH c w6 y7 tt)
theorem OI (n:Nat) (c:af) (w6:Int) (y7:(List Event)):∀ sa r,iD n c w6 y7 sa=some r→aW Tryz.prog OD (Jf c w6 y7 sa) (rk (Jf c w6 y7) (LQ c w6 y7) r):=by
 intro sa r h
 unfold iD at h
 rcases aG h with ⟨ha1,h⟩ | ⟨ha1,h⟩
 ·
  exact kQ h (nA fc [rV 15 [(63,vF)]]) [wK 4 [1,3,5,6] [] 0] Je (co rfl j8) (fun z=>(aB ha1 z)) (by kernel_rfl)
 obtain ⟨ya2,gya2,h⟩:=ac h
 have c266_:=fun (R:Prop) (z:R)=>(aB ha1 (aI (Aw n c y7 sa.2 ya2 gya2) z))
 let e267_:LR:=[rV 15 [(63,vT)]]
 rcases au h with ⟨ha3,h⟩ | ⟨ha3,h⟩
 ·
  exact kQ h (nA fc (e267_++[bh 17 [(70,vT)] [(69,.v (.bool ya2))]])) [wK 1 [2] [1] 0] Je (co rfl fT) (fun z=>(c266_ _ (aB ha3 z))) (by kernel_rfl)
 obtain ⟨xa4,gxa4,h⟩:=ac h
 obtain ⟨ya5,gya5,h⟩:=ac h
 have c268_:=fun (R:Prop) (z:R)=>(aB ha3 (aM Event.enc gxa4 (aI (iX n xa4 ya5 gya5) z)))
 rcases au h with ⟨ha6,h⟩ | ⟨ha6,h⟩
 ·
  exact kQ h (nA fc (e267_++[bh 17 [(70,vF)] [(69,.v (.bool ya2))],(19,⟨[],[],[(73,(Event.enc xa4))],[(75,vT)],[(75,.v (.bool ya5))],[],[],[],[]⟩)])) [wK 0 [1,3,5,6,7] [] 0] Je cS (fun z=>(c266_ _ (c268_ _ (aB ha6 z)))) (by kernel_rfl)
 exact kQ h (nA fc (e267_++[bh 17 [(70,vF)] [(69,.v (.bool ya2))],(19,⟨[],[],[(73,(Event.enc xa4))],[(75,vF)],[(75,.v (.bool ya5))],[],[],[],[]⟩)])) [wK 0 [1,3,5,6,7] [] 0] Je cS (fun z=>(c266_ _ (c268_ _ (aB ha6 z)))) (by kernel_rfl)

theorem Fs:aA (ao 28) fc OE=true:=by kernel_rfl
def Jh (c:af) (w6:Int) (y7:(List Event)) (w10:Int) (sa:(List Bool)×Int):St:=bm 121 [(1,.ptr (.L 1) 0 0),(3,(vI w6)),(5,.sl (y7.map Event.enc)),(6,(vI w10)),(8,.mf 0),(9,(vI sa.2))] [(1,(af.enc c))] [.arr true 1 (sa.1.map ez)] 0
def LS (c:af) (w6:Int) (y7:(List Event)) (w10:Int) (tt:Unit):St:=bm 121 [(1,.ptr (.L 1) 0 0),(6,(vI w10))] [(1,(af.enc c))] [] 0
def OJ (c:af) (w6:Int) (y7:(List Event)) (w10:Int) (tt:Unit):St:=bm 121 [(2,(vI 2))] [] [] 0
def LU (c:af) (w6:Int) (y7:(List Event)) (w10:Int) (t0:(Unit⊕Unit)):Ex×St:=match t0 with | .inl tt=>(.ex 4,LS c w6 y7 w10 tt) | .inr tt=>(.ret,OJ c w6 y7 w10 tt)
theorem OL (n:Nat) (c:af) (w6:Int) (y7:(List Event)) (w10:Int):∀ sa r,iE n c w6 y7 w10 sa=some r→aW Tryz.prog OE (Jh c w6 y7 w10 sa) (rk (Jh c w6 y7 w10) (LU c w6 y7 w10) r):=by
 intro sa r h
 unfold iE at h
 rcases aG h with ⟨ha1,h⟩ | ⟨ha1,h⟩
 ·
  exact kQ h (nA fc [rV 23 [(83,(vI (c.Order.length:Int))),(84,vF)]]) [wK 6 [1,6] [] 0] Fs (co rfl j8) (fun z=>(aL eI c.Order (aB ha1 z))) (by kernel_rfl)
 obtain ⟨xa2,gxa2,h⟩:=ac h
 have c269_:=fun (R:Prop) (z:R)=>(aL eI c.Order (aB ha1 (aM eI gxa2 z)))
 let e270_:LR:=[rV 23 [(83,(vI (c.Order.length:Int))),(84,vT)],rR 25 [(90,[(vI xa2)])]]
 rcases au h with ⟨ha3,h⟩ | ⟨ha3,h⟩
 ·
  exact kQ h (nA fc (e270_++[rV 26 [(94,vT)]])) [wK 1 [2] [1] 0] Fs (co rfl fT) (fun z=>(c269_ _ (aB ha3 z))) (by kernel_rfl)
 rcases au h with ⟨ha4,h⟩ | ⟨ha4,h⟩
 ·
  exact kQ h (nA fc (e270_++[rV 26 [(94,vF),(99,vT)]])) [wK 1 [2] [1] 0] Fs (co rfl fT) (fun z=>(c269_ _ (aB ha3 (aB ha4 z)))) (by kernel_rfl)
 obtain ⟨xa5,gxa5,h⟩:=ac h
 have c271_:=fun (R:Prop) (z:R)=>(aB ha3 (aB ha4 (aM ez gxa5 (aN ez gxa5 z))))
 rcases au h with ⟨ha6,h⟩ | ⟨ha6,h⟩
 ·
  exact kQ h (nA fc (e270_++[(26,⟨[],[],[(102,[.v (.bool xa5)]),(103,[.v (.bool xa5)])],[(94,vF),(99,vF),(105,vT)],[],[],[],[],[]⟩)])) [wK 1 [2] [1] 0] Fs (co rfl fT) (fun z=>(c269_ _ (c271_ _ (aB ha6 z)))) (by kernel_rfl)
 obtain ⟨xa7,gxa7,h⟩:=ac h
 obtain ⟨ya8,gya8,h⟩:=ac h
 have c272_:=fun (R:Prop) (z:R)=>(aB ha6 (aM Event.enc gxa7 (aI (iX n xa7 ya8 gya8) z)))
 rcases au h with ⟨ha9,h⟩ | ⟨ha9,h⟩
 ·
  exact kQ h (nA fc (e270_++[(26,⟨[],[],[(102,[.v (.bool xa5)]),(103,[.v (.bool xa5)]),(108,(Event.enc xa7))],[(94,vF),(99,vF),(105,vF),(112,vT)],[(110,.v (.bool ya8))],[],[],[],[]⟩)])) [wK 1 [2] [1] 0] Fs (co rfl fT) (fun z=>(c269_ _ (c271_ _ (c272_ _ (aB ha9 z))))) (by kernel_rfl)
 exact kQ h (nA fc (e270_++[(26,⟨[],[],[(102,[.v (.bool xa5)]),(103,[.v (.bool xa5)]),(108,(Event.enc xa7))],[(94,vF),(99,vF),(105,vF),(112,vF)],[(110,.v (.bool ya8))],[],[],[],[]⟩),(28,⟨[],[],[(115,[.v (.bool xa5)]),(1000115,[.v (.bool xa5)])],[],[],[],[(1000115,(0,(sa.1.set (xa2).toNat true).map ez))],[],[]⟩)])) [wK 0 [1,3,5,6,8,9] [] 1] Fs cS (fun z=>(c269_ _ (c271_ _ (c272_ _ (aB ha9 (aM ez gxa5 (aN ez gxa5 (aI (fC ez sa.1 ((xa2).toNat) true) z)))))))) (by kernel_rfl)

theorem qa (n:Nat) (c:af) (r:Int) (h:fQ n c=some r):az Tryz.prog 28 [(bT af.enc c)] (eY ((vI r))):=by
 unfold fQ at h
 obtain ⟨y1,gy1,h⟩:=ac h
 have c273_:=fun (R:Prop) (z:R)=>(aI (xW n c.First y1 gy1) z)
 rcases au h with ⟨h2,h⟩ | ⟨h2,h⟩
 ·
  obtain rfl:=aS h
  exact kP (nA fc [bh 1 [(15,vT)] [(13,.v (.bool y1))]]) nn (fun z=>(c273_ _ (aB h2 z))) (by kernel_rfl)
 have c274_:=fun (R:Prop) (z:R)=>(aB h2 (aL (et Event.enc) c.Harts z))
 rcases au h with ⟨h3,h⟩ | ⟨h3,h⟩
 ·
  obtain rfl:=aS h
  exact kP (nA fc [bh 1 [(15,vF),(18,(vI (c.Harts.length:Int))),(21,vT)] [(13,.v (.bool y1))]]) nn (fun z=>(c273_ _ (c274_ _ (aB h3 z)))) (by kernel_rfl)
 have c275_:=fun (R:Prop) (z:R)=>(aB h3 (aL (et Event.enc) c.Harts z))
 rcases au h with ⟨h4,h⟩ | ⟨h4,h⟩
 ·
  obtain rfl:=aS h
  exact kP (nA fc [bh 1 [(15,vF),(18,(vI (c.Harts.length:Int))),(21,vF),(24,(vI (c.Harts.length:Int))),(26,vT)] [(13,.v (.bool y1))]]) nn (fun z=>(c273_ _ (c274_ _ (c275_ _ (aB h4 z))))) (by kernel_rfl)
 obtain ⟨t5,gt5,h⟩:=ac h
 let e276_:LR:=[bh 1 [(15,vF),(18,(vI (c.Harts.length:Int))),(21,vF),(24,(vI (c.Harts.length:Int))),(26,vF)] [(13,.v (.bool y1))]]
 rcases t5 with w6 | w6
 ·
  obtain ⟨y7,gy7,h⟩:=ac h
  have c277_:=fun (R:Prop) (z:R)=>(aB h4 (aI (eA (pl:=ao 28) (Jd c) (LO c) (OG n c) n _ (.inl w6) gt5) (aI (r7 n c y7 gy7) (aL eI c.From z))))
  let e278_:LR:=[bh 10 [] [(55,.sl (y7.map Event.enc))]]
  rcases au h with ⟨h8,h⟩ | ⟨h8,h⟩
  ·
   obtain rfl:=aS h
   exact kP ⟨fc,(e276_++(e278_++[rV 11 [(58,(vI (c.From.length:Int))),(60,vT)]])),[],[(5,(⟨[1,3,4],[],0,[],[],[]⟩,l0,(.ex 0),Fq c w6))],[]⟩ nn (fun z=>(c273_ _ (c274_ _ (c275_ _ (c277_ _ (aB h8 z)))))) (by kernel_rfl)
  obtain ⟨t9,gt9,h⟩:=ac h
  let e279_:LR:=[rV 11 [(58,(vI (c.From.length:Int))),(60,vF)]]
  rcases t9 with w10 | w10
  ·
   obtain ⟨h11,h⟩:=fj h
   obtain ⟨t12,gt12,h⟩:=ac h
   have c280_:=fun (R:Prop) (z:R)=>(aB h8 (aI (eA (pl:=ao 28) (Jf c w6 y7) (LQ c w6 y7) (OI n c w6 y7) n _ (.inl w10) gt9) (aI h11 (aI (ku ez _ false:List.replicate (w6).toNat [vF]=(List.replicate (w6).toNat false).map ez) z))))
   let e281_:LR:=[(21,⟨[],[79],[],[],[],[],[(79,(0,(List.replicate (w6).toNat false).map ez))],[],[]⟩)]
   rcases t12 with w13 | w13
   ·
    have c282_:=fun (R:Prop) (z:R)=>(aI (eA (pl:=ao 28) (Jh c w6 y7 w10) (LU c w6 y7 w10) (OL n c w6 y7 w10) n _ (.inl w13) gt12) (aL eI c.Order z))
    rcases au h with ⟨h14,h⟩ | ⟨h14,h⟩
    ·
     obtain rfl:=aS h
     exact kP ⟨fc,(e276_++(e278_++(e279_++(e281_++[rV 29 [(118,(vI (c.Order.length:Int))),(120,vT)]])))),[],[(5,(⟨[1,3,4],[],0,[],[],[]⟩,l0,(.ex 0),Fq c w6)),(15,(⟨[1,3,5,6,7],[],0,[],[],[]⟩,l0,(.ex 2),Jg c w6 y7 w10)),(23,(⟨[1,3,5,6,8,9],[],1,[],[],[]⟩,l0,(.ex 4),LS c w6 y7 w10 w13))],[]⟩ nn (fun z=>(c273_ _ (c274_ _ (c275_ _ (c277_ _ (c280_ _ (c282_ _ (aB h14 z)))))))) (by kernel_rfl)
    obtain rfl:=aS h
    exact kP ⟨fc,(e276_++(e278_++(e279_++(e281_++[rV 29 [(118,(vI (c.Order.length:Int))),(120,vF)]])))),[],[(5,(⟨[1,3,4],[],0,[],[],[]⟩,l0,(.ex 0),Fq c w6)),(15,(⟨[1,3,5,6,7],[],0,[],[],[]⟩,l0,(.ex 2),Jg c w6 y7 w10)),(23,(⟨[1,3,5,6,8,9],[],1,[],[],[]⟩,l0,(.ex 4),LS c w6 y7 w10 w13))],[]⟩ nn (fun z=>(c273_ _ (c274_ _ (c275_ _ (c277_ _ (c280_ _ (c282_ _ (aB h14 z)))))))) (by kernel_rfl)
   ·
    obtain rfl:=aS h
    exact kP ⟨fc,(e276_++(e278_++(e279_++(e281_++[])))),[],[(5,(⟨[1,3,4],[],0,[],[],[]⟩,l0,(.ex 0),Fq c w6)),(15,(⟨[1,3,5,6,7],[],0,[],[],[]⟩,l0,(.ex 2),Jg c w6 y7 w10)),(23,(⟨[1,3,5,6,8,9],[],1,[],[],[]⟩,l0,.ret,OJ c w6 y7 w10 w13))],[]⟩ nn (fun z=>(c273_ _ (c274_ _ (c275_ _ (c277_ _ (c280_ _ (aI (eA (pl:=ao 28) (Jh c w6 y7 w10) (LU c w6 y7 w10) (OL n c w6 y7 w10) n _ (.inr w13) gt12) z))))))) (by kernel_rfl)
  ·
   obtain rfl:=aS h
   exact kP ⟨fc,(e276_++(e278_++(e279_++[]))),[],[(5,(⟨[1,3,4],[],0,[],[],[]⟩,l0,(.ex 0),Fq c w6)),(15,(⟨[1,3,5,6,7],[],0,[],[],[]⟩,l0,.ret,OH c w6 y7 w10))],[]⟩ nn (fun z=>(c273_ _ (c274_ _ (c275_ _ (c277_ _ (aB h8 (aI (eA (pl:=ao 28) (Jf c w6 y7) (LQ c w6 y7) (OI n c w6 y7) n _ (.inr w10) gt9) z))))))) (by kernel_rfl)
 ·
  obtain rfl:=aS h
  exact kP ⟨fc,(e276_++[]),[],[(5,(⟨[1,3,4],[],0,[],[],[]⟩,l0,.ret,OF c w6))],[]⟩ nn (fun z=>(c273_ _ (c274_ _ (c275_ _ (aB h4 (aI (eA (pl:=ao 28) (Jd c) (LO c) (OG n c) n _ (.inr w6) gt5) z)))))) (by kernel_rfl)

def Hs:List (Nat×PT):=[]
theorem Ht:aA (ao 15) Hs (al Tryz.prog 15)=true:=by kernel_rfl
theorem BY (n:Nat) (c:af) (r:(List Event)) (h:q6 n c=some r):az Tryz.prog 15 [(bT af.enc c)] (eY (.sl (r.map Event.enc))):=by
 unfold q6 at h
 obtain ⟨y1,gy1,h⟩:=ac h
 have c283_:=fun (R:Prop) (z:R)=>(aI (qa n c y1 gy1) z)
 rcases au h with ⟨h2,h⟩ | ⟨h2,h⟩
 ·
  obtain rfl:=aS h
  exact kP (nA Hs [bh 1 [(5,vT)] [(4,(vI y1))]]) Ht (fun z=>(c283_ _ (aB h2 (aJ.nil:aJ .nilsl (.sl (([]:List Event).map Event.enc)))))) (by kernel_rfl)
 obtain ⟨y3,gy3,h⟩:=ac h
 obtain rfl:=aS h
 exact kP (nA Hs [bh 1 [(5,vF)] [(4,(vI y1))],bh 3 [] [(7,.sl (y3.map Event.enc))]]) Ht (fun z=>(c283_ _ (aB h2 (aI (r7 n c y3 gy3) z)))) (by kernel_rfl)

def r9:List (Nat×PT):=[]
theorem Hu:aA (ao 10) r9 (al Tryz.prog 10)=true:=by kernel_rfl
noncomputable def OM:Code:=sub (al Tryz.prog 10) [1,1,1,0,1,0,0]
noncomputable def ON:Code:=sub (al Tryz.prog 10) [1,1,1,1,0,1,0,0]
theorem OO:aA (ao 10) r9 OM=true:=by kernel_rfl
def LV (c:af) (sa:(List Int)×Int):St:=bm 38 [(1,.ptr (.L 1) 0 0),(3,.mf 0),(4,(vI sa.2))] [(1,(af.enc c))] [.arr true 1 (sa.1.map eI)] 0
def OP (c:af) (tt:(List Int)):St:=bm 38 [(1,.ptr (.L 1) 0 0),(3,.mf 0)] [(1,(af.enc c))] [.arr true 1 (tt.map eI)] 0
def OQ (c:af) (tt:((List Int))):Ex×St:=(.ex 0,OP c tt)
theorem Qs (n:Nat) (c:af):∀ sa r,jF n c sa=some r→aW Tryz.prog OM (LV c sa) (rk (LV c) (OQ c) r):=by
 intro sa r h
 unfold jF at h
 rcases aG h with ⟨ha1,h⟩ | ⟨ha1,h⟩
 ·
  exact kQ h (nA r9 [rV 5 [(15,(vI (sa.1.length:Int))),(16,vF)]]) [wK 2 [1,3] [] 1] OO (co rfl j8) (fun z=>(aL eI sa.1 (aB ha1 z))) (by kernel_rfl)
 obtain ⟨xa2,gxa2,h⟩:=ac h
 exact kQ h (nA r9 [rV 5 [(15,(vI (sa.1.length:Int))),(16,vT)],(7,⟨[],[],[(21,[(vI xa2)]),(1000021,[(vI xa2)])],[],[],[],[(1000021,(0,(sa.1.set (sa.2).toNat (-1)).map eI))],[],[]⟩)]) [wK 0 [1,3,4] [] 1] OO cS (fun z=>(aL eI sa.1 (aB ha1 (aM eI gxa2 (aN eI gxa2 (aI (fC eI sa.1 ((sa.2).toNat) (-1)) z)))))) (by kernel_rfl)

theorem OR:aA (ao 10) r9 ON=true:=by kernel_rfl
def LW (c:af) (sa:(List Int)×Int):St:=bm 38 [(1,.ptr (.L 1) 0 0),(3,.mf 0),(5,(vI sa.2))] [(1,(af.enc c))] [.arr true 1 (sa.1.map eI)] 0
def OS (c:af) (tt:(List Int)):St:=bm 38 [(3,.mf 0)] [] [.arr true 1 (tt.map eI)] 0
def OT (c:af) (tt:((List Int))):Ex×St:=(.ex 2,OS c tt)
theorem Qt (n:Nat) (c:af):∀ sa r,jG n c sa=some r→aW Tryz.prog ON (LW c sa) (rk (LW c) (OT c) r):=by
 intro sa r h
 unfold jG at h
 rcases aG h with ⟨ha1,h⟩ | ⟨ha1,h⟩
 ·
  exact kQ h (nA r9 [rV 9 [(25,(vI (c.Order.length:Int))),(26,vF)]]) [wK 4 [3] [1] 1] OR (co rfl j8) (fun z=>(aL eI c.Order (aB ha1 z))) (by kernel_rfl)
 obtain ⟨xa2,gxa2,h⟩:=ac h
 obtain ⟨xa3,gxa3,h⟩:=ac h
 exact kQ h (nA r9 [rV 9 [(25,(vI (c.Order.length:Int))),(26,vT)],(11,⟨[],[],[(33,[(vI xa2)]),(36,[(vI xa3)]),(1000036,[(vI xa3)])],[],[],[],[(1000036,(0,(sa.1.set (xa2).toNat sa.2).map eI))],[],[]⟩)]) [wK 0 [1,3,5] [] 1] OR cS (fun z=>(aL eI c.Order (aB ha1 (aM eI gxa2 (aM eI gxa3 (aN eI gxa3 (aI (fC eI sa.1 ((xa2).toNat) sa.2) z))))))) (by kernel_rfl)

theorem w8 (n:Nat) (c:af) (r:(List Int)) (h:kK n c=some r):az Tryz.prog 10 [(bT af.enc c)] (eY (.sl (r.map eI))):=by
 unfold kK at h
 obtain ⟨y1,gy1,h⟩:=ac h
 have c284_:=fun (R:Prop) (z:R)=>(aI (qa n c y1 gy1) z)
 rcases au h with ⟨h2,h⟩ | ⟨h2,h⟩
 ·
  obtain rfl:=aS h
  exact kP (nA r9 [bh 1 [(8,vT)] [(7,(vI y1))]]) Hu (fun z=>(c284_ _ (aB h2 (aJ.nil:aJ .nilsl (.sl (([]:List Int).map eI)))))) (by kernel_rfl)
 obtain ⟨h3,h⟩:=fj h
 obtain ⟨t4,gt4,h⟩:=ac h
 obtain ⟨t5,gt5,h⟩:=ac h
 obtain rfl:=aS h
 exact kP ⟨r9,[bh 1 [(8,vF)] [(7,(vI y1))],(3,⟨[],[12],[],[(11,(vI (c.From.length:Int)))],[],[],[(12,(0,(List.replicate ((c.From.length:Int)).toNat 0).map eI))],[],[]⟩)],[],[(5,(⟨[1,3,4],[],1,[],[],[]⟩,l0,(.ex 0),OP c t4)),(9,(⟨[1,3,5],[],1,[],[],[]⟩,l0,(.ex 2),OS c t5))],[]⟩ Hu (fun z=>(c284_ _ (aB h2 (aL eI c.From (aI h3 (aI (ku eI _ 0:List.replicate ((c.From.length:Int)).toNat [(vI 0)]=(List.replicate ((c.From.length:Int)).toNat 0).map eI) (aI (eA (pl:=ao 10) (LV c) (OQ c) (Qs n c) n _ t4 gt4) (aI (eA (pl:=ao 10) (LW c) (OT c) (Qt n c) n _ t5 gt5) z)))))))) (by kernel_rfl)

def Hv:List (Nat×PT):=[]
theorem Hw:aA (ao 19) Hv (al Tryz.prog 19)=true:=by kernel_rfl
theorem dW (n:Nat) (places:(List Int)) (n_:Int) (r:Int) (h:fZ n places n_=some r):az Tryz.prog 19 [.sl (places.map eI),(vI n_)] (eY ((vI r))):=by
 unfold fZ at h
 rcases au h with ⟨h1,h⟩ | ⟨h1,h⟩
 ·
  obtain rfl:=aS h
  exact kP (nA Hv [rV 1 [(6,vT)]]) Hw (fun z=>(aB h1 z)) (by kernel_rfl)
 obtain ⟨x2,gx2,h⟩:=ac h
 obtain rfl:=aS h
 exact kP (nA Hv [rV 1 [(6,vF)],rR 3 [(9,[(vI x2)])]]) Hw (fun z=>(aB h1 (aM eI gx2 z))) (by kernel_rfl)

end
end Go.Proofs.YtomahedcdcnnhaaGreatDoor
