/- What the functions compute, they compute: printed by a program, path by path. No conditions. -/
import Derived.Test.YtomahedcdcnnhaaGreatDoorP2
import Derived.KernelRfl
namespace Go.Proofs.YtomahedcdcnnhaaGreatDoor
open Go A
set_option linter.unusedVariables false
set_option maxRecDepth 100000
set_option maxHeartbeats 0
section
variable (pc:Nat→List AV→(AV→Prop)→Prop) (sc:Nat→List AV→List Ob→(AV→List Ob→Prop)→Prop) (lp:br→Code→St→(Ex→St→Prop)→Prop) (cd:wH)

def gU:List (Nat×PT):=[(12,(ew [0,1,2,3,4,5,6,7,8])),(16,(ew [0,1,2,3,4,5,6,7,8,9,10,11,12,13,14,15,16,17,18,19,20,21,22,23,24,25,26]))]
theorem Hn:ay (ak 41) gU (aj Tryz.prog 41)=true:=by kernel_rfl
noncomputable def Lp:Code:=sub (aj Tryz.prog 41) [1,0,1,0,0]
noncomputable def NT:Code:=sub Lp [1,1,0,0,1,1,1,1,1,1,0,0]
theorem Ho:ay (ak 41) gU NT=true:=by kernel_rfl
def xZ (oA:(List Cell)) (oB:(List (List Event))) (oC:(List Int)) (oD:(List Int)) (oE:(List (Int×(List Int)))) (oF:(List Event)) (oG:(List Int)) (xa2:Event) (sb:Int×Int×Int×Int×(List Int)×Int×Int):St:=bg 114 [(0,.ptr (.O 2) 0 0),(2,.ptr (.L 2) 0 0),(3,(vI sb.2.1)),(4,.ptr (.L 4) 0 0),(5,(vI sb.2.2.1)),(6,(vI sb.2.2.2.1)),(14,.sl (oF.map Event.enc)),(15,(vI (oF.length:Int))),(16,(vI sb.1)),(68,.sl (sb.2.2.2.2.1.map eI)),(69,(vI sb.2.2.2.2.2.1)),(70,(vI sb.2.2.2.2.2.2))] [(4,(Event.enc xa2)),(2,[vF,(vI 0),(vI 0),(vI 0)])] [.arr true 4 [[.sl (oA.map Cell.enc),.sl (oB.map (cY Event.enc)),.sl (oC.map eI),.sl (oD.map eI)]],.mapo true (oE.map (cH (aH .u64) (dm eI))),.arr false 4 [[.ptr (.O 0) 0 0,.sl (oF.map Event.enc),.sl (oG.map eI),.mp 1]],.arr false 1 [[.fn 39 [.ptr (.O 2) 0 0] []],[.fn 40 [.ptr (.O 2) 0 0] []],[.fn 41 [.ptr (.O 2) 0 0] []]]] 4
def Hp (oA:(List Cell)) (oB:(List (List Event))) (oC:(List Int)) (oD:(List Int)) (oE:(List (Int×(List Int)))) (oF:(List Event)) (oG:(List Int)) (xa2:Event) (tt:Int):St:=bg 114 [(0,.ptr (.O 2) 0 0),(2,.ptr (.L 2) 0 0),(14,.sl (oF.map Event.enc)),(15,(vI (oF.length:Int))),(16,(vI tt))] [(2,[vF,(vI 0),(vI 0),(vI 0)])] [.arr true 4 [[.sl (oA.map Cell.enc),.sl (oB.map (cY Event.enc)),.sl (oC.map eI),.sl (oD.map eI)]],.mapo true (oE.map (cH (aH .u64) (dm eI))),.arr false 4 [[.ptr (.O 0) 0 0,.sl (oF.map Event.enc),.sl (oG.map eI),.mp 1]],.arr false 1 [[.fn 39 [.ptr (.O 2) 0 0] []],[.fn 40 [.ptr (.O 2) 0 0] []],[.fn 41 [.ptr (.O 2) 0 0] []]]] 4
def Hq (oA:(List Cell)) (oB:(List (List Event))) (oC:(List Int)) (oD:(List Int)) (oE:(List (Int×(List Int)))) (oF:(List Event)) (oG:(List Int)) (xa2:Event) (tt:Bool×Int×Int×Int):St:=bg 114 [(2,.ptr (.L 2) 0 0)] [(2,[.v (.bool tt.1),(vI tt.2.1),(vI tt.2.2.1),(vI tt.2.2.2)])] [.arr true 4 [[.sl (oA.map Cell.enc),.sl (oB.map (cY Event.enc)),.sl (oC.map eI),.sl (oD.map eI)]],.mapo true (oE.map (cH (aH .u64) (dm eI))),.arr false 4 [[.ptr (.O 0) 0 0,.sl (oF.map Event.enc),.sl (oG.map eI),.mp 1]],.arr false 1 [[.fn 39 [.ptr (.O 2) 0 0] []],[.fn 40 [.ptr (.O 2) 0 0] []],[.fn 41 [.ptr (.O 2) 0 0] []]]] 4
def Au (oA:(List Cell)) (oB:(List (List Event))) (oC:(List Int)) (oD:(List Int)) (oE:(List (Int×(List Int)))) (oF:(List Event)) (oG:(List Int)) (xa2:Event) (t0:(Int⊕(Bool×Int×Int×Int))):Ex×St:=match t0 with | .inl tt=>(.ex 2,Hp oA oB oC oD oE oF oG xa2 tt) | .inr tt=>(.ret,Hq oA oB oC oD oE oF oG xa2 tt)
theorem BY (n:Nat) (oA:(List Cell)) (oB:(List (List Event))) (oC:(List Int)) (oD:(List Int)) (oE:(List (Int×(List Int)))) (oF:(List Event)) (oG:(List Int)) (xa2:Event):∀ sb r,bj n oA oB oC oD oE oF oG xa2 sb=some r→aV Tryz.prog NT (xZ oA oB oC oD oE oF oG xa2 sb) (rk (xZ oA oB oC oD oE oF oG xa2) (Au oA oB oC oD oE oF oG xa2) r):=by
 intro sb r h
 unfold bj at h
 rcases aD h with ⟨hb1,h⟩ | ⟨hb1,h⟩
 ·
  exact kQ h (nA gU [rV 13 [(71,vF)]]) [wK 4 [0,2,14,15,16] [4] 4] Ho (cG rfl kp) (fun z=>(aB hb1 z)) (by kernel_rfl)
 obtain ⟨xb2,gxb2,h⟩:=ab h
 obtain ⟨xb3,gxb3,h⟩:=ab h
 have c180_:=fun (R:Prop) (z:R)=>(aB hb1 (aM eI gxb2 (aM eI gxb3 z)))
 let e181_:LR:=[rV 13 [(71,vT)],rR 14 [(72,[(vI xb2)])],rR 15 [(79,[(vI xb3)])]]
 rcases aD h with ⟨hb4,h⟩ | ⟨hb4,h⟩
 ·
  exact kQ h (nA gU (e181_++[rV 16 [(84,vF)]])) [wK 0 [0,2,3,4,5,6,14,15,16,68,69,70] [] 4] Ho dx (fun z=>(c180_ _ (aB hb4 z))) (by kernel_rfl)
 obtain ⟨xb5,gxb5,h⟩:=ab h
 have c182_:=fun (R:Prop) (z:R)=>(aB hb4 (aM eI gxb5 z))
 rcases aD h with ⟨hb6,h⟩ | ⟨hb6,h⟩
 ·
  exact kQ h (nA gU (e181_++[(16,⟨[],[],[(91,[(vI xb5)])],[(84,vT),(95,vF)],[],[],[],[],[]⟩)])) [wK 0 [0,2,3,4,5,6,14,15,16,68,69,70] [] 4] Ho dx (fun z=>(c180_ _ (c182_ _ (aB hb6 z)))) (by kernel_rfl)
 obtain ⟨xb7,gxb7,h⟩:=ab h
 have c183_:=fun (R:Prop) (z:R)=>(aB hb6 (aM Event.enc gxb7 z))
 rcases aD h with ⟨hb8,h⟩ | ⟨hb8,h⟩
 ·
  exact kQ h (nA gU (e181_++[(16,⟨[],[],[(91,[(vI xb5)]),(101,(Event.enc xb7))],[(84,vT),(95,vT),(107,vF)],[],[],[],[],[]⟩)])) [wK 0 [0,2,3,4,5,6,14,15,16,68,69,70] [] 4] Ho dx (fun z=>(c180_ _ (c182_ _ (c183_ _ (aB hb8 z))))) (by kernel_rfl)
 obtain ⟨yb9,gyb9,h⟩:=ab h
 exact kQ h (nA gU (e181_++[(16,⟨[],[],[(91,[(vI xb5)]),(101,(Event.enc xb7))],[(84,vT),(95,vT),(107,vT)],[],[],[],[],[]⟩),bi 17 [] [(110,(bD bc.enc yb9))]])) [wK 1 [2] [4] 4] Ho (cG rfl gC) (fun z=>(c180_ _ (c182_ _ (c183_ _ (aB hb8 (aI (gT n 4 sb.2.2.1 xb2 yb9 gyb9) z)))))) (by kernel_rfl)

theorem w8:ay (ak 41) gU Lp=true:=by kernel_rfl
def I5 (oA:(List Cell)) (oB:(List (List Event))) (oC:(List Int)) (oD:(List Int)) (oE:(List (Int×(List Int)))) (oF:(List Event)) (oG:(List Int)) (sa:Int):St:=bg 114 [(0,.ptr (.O 2) 0 0),(2,.ptr (.L 2) 0 0),(14,.sl (oF.map Event.enc)),(15,(vI (oF.length:Int))),(16,(vI sa))] [(2,[vF,(vI 0),(vI 0),(vI 0)])] [.arr true 4 [[.sl (oA.map Cell.enc),.sl (oB.map (cY Event.enc)),.sl (oC.map eI),.sl (oD.map eI)]],.mapo true (oE.map (cH (aH .u64) (dm eI))),.arr false 4 [[.ptr (.O 0) 0 0,.sl (oF.map Event.enc),.sl (oG.map eI),.mp 1]],.arr false 1 [[.fn 39 [.ptr (.O 2) 0 0] []],[.fn 40 [.ptr (.O 2) 0 0] []],[.fn 41 [.ptr (.O 2) 0 0] []]]] 4
def NU (oA:(List Cell)) (oB:(List (List Event))) (oC:(List Int)) (oD:(List Int)) (oE:(List (Int×(List Int)))) (oF:(List Event)) (oG:(List Int)) (tt:Unit):St:=bg 114 [(2,.ptr (.L 2) 0 0)] [(2,[vF,(vI 0),(vI 0),(vI 0)])] [.arr true 4 [[.sl (oA.map Cell.enc),.sl (oB.map (cY Event.enc)),.sl (oC.map eI),.sl (oD.map eI)]],.mapo true (oE.map (cH (aH .u64) (dm eI))),.arr false 4 [[.ptr (.O 0) 0 0,.sl (oF.map Event.enc),.sl (oG.map eI),.mp 1]],.arr false 1 [[.fn 39 [.ptr (.O 2) 0 0] []],[.fn 40 [.ptr (.O 2) 0 0] []],[.fn 41 [.ptr (.O 2) 0 0] []]]] 4
def NV (oA:(List Cell)) (oB:(List (List Event))) (oC:(List Int)) (oD:(List Int)) (oE:(List (Int×(List Int)))) (oF:(List Event)) (oG:(List Int)) (tt:Bool×Int×Int×Int):St:=bg 114 [(2,.ptr (.L 2) 0 0)] [(2,[.v (.bool tt.1),(vI tt.2.1),(vI tt.2.2.1),(vI tt.2.2.2)])] [.arr true 4 [[.sl (oA.map Cell.enc),.sl (oB.map (cY Event.enc)),.sl (oC.map eI),.sl (oD.map eI)]],.mapo true (oE.map (cH (aH .u64) (dm eI))),.arr false 4 [[.ptr (.O 0) 0 0,.sl (oF.map Event.enc),.sl (oG.map eI),.mp 1]],.arr false 1 [[.fn 39 [.ptr (.O 2) 0 0] []],[.fn 40 [.ptr (.O 2) 0 0] []],[.fn 41 [.ptr (.O 2) 0 0] []]]] 4
def Lq (oA:(List Cell)) (oB:(List (List Event))) (oC:(List Int)) (oD:(List Int)) (oE:(List (Int×(List Int)))) (oF:(List Event)) (oG:(List Int)) (t0:(Unit⊕(Bool×Int×Int×Int))):Ex×St:=match t0 with | .inl tt=>(.ex 0,NU oA oB oC oD oE oF oG tt) | .inr tt=>(.ret,NV oA oB oC oD oE oF oG tt)
theorem NW (n:Nat) (oA:(List Cell)) (oB:(List (List Event))) (oC:(List Int)) (oD:(List Int)) (oE:(List (Int×(List Int)))) (oF:(List Event)) (oG:(List Int)):∀ sa r,eg n oA oB oC oD oE oF oG sa=some r→aV Tryz.prog Lp (I5 oA oB oC oD oE oF oG sa) (rk (I5 oA oB oC oD oE oF oG) (Lq oA oB oC oD oE oF oG) r):=by
 intro sa r h
 unfold eg at h
 rcases aD h with ⟨ha1,h⟩ | ⟨ha1,h⟩
 ·
  exact kQ h (nA gU [rV 2 [(17,vF)]]) [wK 2 [2] [] 4] w8 (cG rfl kp) (fun z=>(aB ha1 z)) (by kernel_rfl)
 obtain ⟨xa2,gxa2,h⟩:=ab h
 have c184_:=fun (R:Prop) (z:R)=>(aB ha1 (aM Event.enc gxa2 z))
 let e185_:LR:=[rV 2 [(17,vT)],rR 3 [(19,(Event.enc xa2))]]
 rcases ap h with ⟨ha3,h⟩ | ⟨ha3,h⟩
 ·
  exact kQ h (nA gU (e185_++[rV 4 [(23,vT)]])) [wK 0 [0,2,14,15,16] [4] 4] w8 dx (fun z=>(c184_ _ (aB ha3 z))) (by kernel_rfl)
 obtain ⟨xa4,gxa4,h⟩:=ab h
 have c186_:=fun (R:Prop) (z:R)=>(aB ha3 (aM eI gxa4 z))
 let e187_:LR:=[rV 4 [(23,vF)],rR 7 [(39,[(vI xa4)])]]
 rcases aD h with ⟨ha5,h⟩ | ⟨ha5,h⟩
 ·
  let e193_:LR:=[rV 8 [(42,vF)]]
  rcases iv h with ⟨ha6,h⟩ | ⟨za6,ha7,h⟩
  ·
   obtain ⟨ta7,gta7,h⟩:=ab h
   have c194_:=fun (R:Prop) (z:R)=>(aB ha5 (aI (nt oE xa2.Addr ha6:∀ k':AV→Prop,k' (.nilsl)→cw Tryz.prog 40 ((vU xa2.Addr)) (oE.map (cH (aH .u64) (dm eI))) fun _ r=>dI Tryz.prog 24 false (oE.map (cH (aH .u64) (dm eI))) r k') z))
   rcases ta7 with wa8 | wa8
   ·
    exact kQ h ⟨gU,(e185_++(e187_++(e193_++[bi 12 [] [(68,.nilsl)]]))),[],[(13,(⟨[0,2,3,4,5,6,14,15,16,68,69,70],[],4,[],[],[]⟩,⟨[(68,.sl (([]:List Int).map eI))],[],[]⟩,(.ex 2),Hp oA oB oC oD oE oF oG xa2 wa8))],[]⟩ [wK 0 [0,2,14,15,16] [] 4] w8 dx (fun z=>(c184_ _ (c186_ _ (c194_ _ (aI (aG.nil:aG (.nilsl) (.sl (([]:List Int).map eI))) (aI (eP (pl:=ak 41) (xZ oA oB oC oD oE oF oG xa2) (Au oA oB oC oD oE oF oG xa2) (BY n oA oB oC oD oE oF oG xa2) n _ (.inl wa8) gta7) z)))))) (by kernel_rfl)
   ·
    exact kQ h ⟨gU,(e185_++(e187_++(e193_++[bi 12 [] [(68,.nilsl)]]))),[],[(13,(⟨[0,2,3,4,5,6,14,15,16,68,69,70],[],4,[],[],[]⟩,⟨[(68,.sl (([]:List Int).map eI))],[],[]⟩,.ret,Hq oA oB oC oD oE oF oG xa2 wa8))],[]⟩ [wK 1 [2] [] 4] w8 (cG rfl gC) (fun z=>(c184_ _ (c186_ _ (c194_ _ (aI (aG.nil:aG (.nilsl) (.sl (([]:List Int).map eI))) (aI (eP (pl:=ak 41) (xZ oA oB oC oD oE oF oG xa2) (Au oA oB oC oD oE oF oG xa2) (BY n oA oB oC oD oE oF oG xa2) n _ (.inr wa8) gta7) z)))))) (by kernel_rfl)
  ·
   obtain ⟨ta8,gta8,h⟩:=ab h
   have c195_:=fun (R:Prop) (z:R)=>(aB ha5 (aI (nu oE xa2.Addr ha7:∀ k':AV→Prop,k' (.sl (za6.map eI))→cw Tryz.prog 40 ((vU xa2.Addr)) (oE.map (cH (aH .u64) (dm eI))) fun _ r=>dI Tryz.prog 24 false (oE.map (cH (aH .u64) (dm eI))) r k') (aL eI za6 z)))
   rcases ta8 with wa9 | wa9
   ·
    exact kQ h ⟨gU,(e185_++(e187_++(e193_++[bi 12 [(69,(vI (za6.length:Int)))] [(68,.sl (za6.map eI))]]))),[],[(13,(⟨[0,2,3,4,5,6,14,15,16,68,69,70],[],4,[],[],[]⟩,l0,(.ex 2),Hp oA oB oC oD oE oF oG xa2 wa9))],[]⟩ [wK 0 [0,2,14,15,16] [] 4] w8 dx (fun z=>(c184_ _ (c186_ _ (c195_ _ (aI (eP (pl:=ak 41) (xZ oA oB oC oD oE oF oG xa2) (Au oA oB oC oD oE oF oG xa2) (BY n oA oB oC oD oE oF oG xa2) n _ (.inl wa9) gta8) z))))) (by kernel_rfl)
   ·
    exact kQ h ⟨gU,(e185_++(e187_++(e193_++[bi 12 [(69,(vI (za6.length:Int)))] [(68,.sl (za6.map eI))]]))),[],[(13,(⟨[0,2,3,4,5,6,14,15,16,68,69,70],[],4,[],[],[]⟩,l0,.ret,Hq oA oB oC oD oE oF oG xa2 wa9))],[]⟩ [wK 1 [2] [] 4] w8 (cG rfl gC) (fun z=>(c184_ _ (c186_ _ (c195_ _ (aI (eP (pl:=ak 41) (xZ oA oB oC oD oE oF oG xa2) (Au oA oB oC oD oE oF oG xa2) (BY n oA oB oC oD oE oF oG xa2) n _ (.inr wa9) gta8) z))))) (by kernel_rfl)
 obtain ⟨xa6,gxa6,h⟩:=ab h
 obtain ⟨xa7,gxa7,h⟩:=ab h
 have c188_:=fun (R:Prop) (z:R)=>(aB ha5 (aM eI gxa6 (aM eI gxa7 z)))
 let e189_:LR:=[rV 8 [(42,vT)],rR 9 [(48,[(vI xa6)])]]
 rcases ap h with ⟨ha8,h⟩ | ⟨ha8,h⟩
 ·
  obtain ⟨ya9,gya9,h⟩:=ab h
  exact kQ h (nA gU (e185_++(e187_++(e189_++[(10,⟨[],[],[(56,[(vI xa7)])],[(58,vT)],[],[],[],[],[]⟩),bi 11 [] [(61,(bD bc.enc ya9))]])))) [wK 1 [2] [4] 4] w8 (cG rfl gC) (fun z=>(c184_ _ (c186_ _ (c188_ _ (aB ha8 (aI (gT n 4 (af .i64 (cj .i64 sa xa2.At) xa2.Pair) xa4 ya9 gya9) z)))))) (by kernel_rfl)
 let e190_:LR:=[(10,⟨[],[],[(56,[(vI xa7)])],[(58,vF)],[],[],[],[],[]⟩)]
 rcases iv h with ⟨ha9,h⟩ | ⟨za9,ha10,h⟩
 ·
  obtain ⟨ta10,gta10,h⟩:=ab h
  have c191_:=fun (R:Prop) (z:R)=>(aB ha8 (aI (nt oE xa2.Addr ha9:∀ k':AV→Prop,k' (.nilsl)→cw Tryz.prog 40 ((vU xa2.Addr)) (oE.map (cH (aH .u64) (dm eI))) fun _ r=>dI Tryz.prog 24 false (oE.map (cH (aH .u64) (dm eI))) r k') z))
  rcases ta10 with wa11 | wa11
  ·
   exact kQ h ⟨gU,(e185_++(e187_++(e189_++(e190_++[bi 12 [] [(68,.nilsl)]])))),[],[(13,(⟨[0,2,3,4,5,6,14,15,16,68,69,70],[],4,[],[],[]⟩,⟨[(68,.sl (([]:List Int).map eI))],[],[]⟩,(.ex 2),Hp oA oB oC oD oE oF oG xa2 wa11))],[]⟩ [wK 0 [0,2,14,15,16] [] 4] w8 dx (fun z=>(c184_ _ (c186_ _ (c188_ _ (c191_ _ (aI (aG.nil:aG (.nilsl) (.sl (([]:List Int).map eI))) (aI (eP (pl:=ak 41) (xZ oA oB oC oD oE oF oG xa2) (Au oA oB oC oD oE oF oG xa2) (BY n oA oB oC oD oE oF oG xa2) n _ (.inl wa11) gta10) z))))))) (by kernel_rfl)
  ·
   exact kQ h ⟨gU,(e185_++(e187_++(e189_++(e190_++[bi 12 [] [(68,.nilsl)]])))),[],[(13,(⟨[0,2,3,4,5,6,14,15,16,68,69,70],[],4,[],[],[]⟩,⟨[(68,.sl (([]:List Int).map eI))],[],[]⟩,.ret,Hq oA oB oC oD oE oF oG xa2 wa11))],[]⟩ [wK 1 [2] [] 4] w8 (cG rfl gC) (fun z=>(c184_ _ (c186_ _ (c188_ _ (c191_ _ (aI (aG.nil:aG (.nilsl) (.sl (([]:List Int).map eI))) (aI (eP (pl:=ak 41) (xZ oA oB oC oD oE oF oG xa2) (Au oA oB oC oD oE oF oG xa2) (BY n oA oB oC oD oE oF oG xa2) n _ (.inr wa11) gta10) z))))))) (by kernel_rfl)
 ·
  obtain ⟨ta11,gta11,h⟩:=ab h
  have c192_:=fun (R:Prop) (z:R)=>(aB ha8 (aI (nu oE xa2.Addr ha10:∀ k':AV→Prop,k' (.sl (za9.map eI))→cw Tryz.prog 40 ((vU xa2.Addr)) (oE.map (cH (aH .u64) (dm eI))) fun _ r=>dI Tryz.prog 24 false (oE.map (cH (aH .u64) (dm eI))) r k') (aL eI za9 z)))
  rcases ta11 with wa12 | wa12
  ·
   exact kQ h ⟨gU,(e185_++(e187_++(e189_++(e190_++[bi 12 [(69,(vI (za9.length:Int)))] [(68,.sl (za9.map eI))]])))),[],[(13,(⟨[0,2,3,4,5,6,14,15,16,68,69,70],[],4,[],[],[]⟩,l0,(.ex 2),Hp oA oB oC oD oE oF oG xa2 wa12))],[]⟩ [wK 0 [0,2,14,15,16] [] 4] w8 dx (fun z=>(c184_ _ (c186_ _ (c188_ _ (c192_ _ (aI (eP (pl:=ak 41) (xZ oA oB oC oD oE oF oG xa2) (Au oA oB oC oD oE oF oG xa2) (BY n oA oB oC oD oE oF oG xa2) n _ (.inl wa12) gta11) z)))))) (by kernel_rfl)
  ·
   exact kQ h ⟨gU,(e185_++(e187_++(e189_++(e190_++[bi 12 [(69,(vI (za9.length:Int)))] [(68,.sl (za9.map eI))]])))),[],[(13,(⟨[0,2,3,4,5,6,14,15,16,68,69,70],[],4,[],[],[]⟩,l0,.ret,Hq oA oB oC oD oE oF oG xa2 wa12))],[]⟩ [wK 1 [2] [] 4] w8 (cG rfl gC) (fun z=>(c184_ _ (c186_ _ (c188_ _ (c192_ _ (aI (eP (pl:=ak 41) (xZ oA oB oC oD oE oF oG xa2) (Au oA oB oC oD oE oF oG xa2) (BY n oA oB oC oD oE oF oG xa2) n _ (.inr wa12) gta11) z)))))) (by kernel_rfl)

def j3 (oA:(List Cell)) (oB:(List (List Event))) (oC:(List Int)) (oD:(List Int)) (oE:(List (Int×(List Int)))) (oF:(List Event)) (oG:(List Int)) (y:(Bool×Int×Int×Int)):AV×List Ob:=(.agg [.v (.bool y.1),(vI y.2.1),(vI y.2.2.1),(vI y.2.2.2)],[.arr true 4 [[.sl (oA.map Cell.enc),.sl (oB.map (cY Event.enc)),.sl (oC.map eI),.sl (oD.map eI)]],.mapo true (oE.map (cH (aH .u64) (dm eI))),.arr false 4 [[.ptr (.O 0) 0 0,.sl (oF.map Event.enc),.sl (oG.map eI),.mp 1]],.arr false 1 [[.fn 39 [.ptr (.O 2) 0 0] []],[.fn 40 [.ptr (.O 2) 0 0] []],[.fn 41 [.ptr (.O 2) 0 0] []]]])
theorem iZ (n:Nat) (oA:(List Cell)) (oB:(List (List Event))) (oC:(List Int)) (oD:(List Int)) (oE:(List (Int×(List Int)))) (oF:(List Event)) (oG:(List Int)) (y:(Bool×Int×Int×Int)) (h:ea n oA oB oC oD oE oF oG=some y):SD Tryz.prog 41 [.ptr (.O 2) 0 0] [.arr true 4 [[.sl (oA.map Cell.enc),.sl (oB.map (cY Event.enc)),.sl (oC.map eI),.sl (oD.map eI)]],.mapo true (oE.map (cH (aH .u64) (dm eI))),.arr false 4 [[.ptr (.O 0) 0 0,.sl (oF.map Event.enc),.sl (oG.map eI),.mp 1]],.arr false 1 [[.fn 39 [.ptr (.O 2) 0 0] []],[.fn 40 [.ptr (.O 2) 0 0] []],[.fn 41 [.ptr (.O 2) 0 0] []]]] (fun r' o'=>r'=(j3 oA oB oC oD oE oF oG y).1∧o'=(j3 oA oB oC oD oE oF oG y).2):=by
 unfold ea at h
 obtain ⟨t1,gt1,h⟩:=ab h
 rcases t1 with w2 | w2
 ·
  obtain ⟨y3,gy3,h⟩:=ab h
  obtain rfl:=aK h
  exact kS ⟨gU,[rV 1 [(15,(vI (oF.length:Int)))],bi 20 [] [(113,(bD bc.enc y3))]],[],[(2,(⟨[0,2,14,15,16],[],4,[],[],[]⟩,l0,(.ex 0),NU oA oB oC oD oE oF oG w2))],[]⟩ Hn ⟨rfl,rfl⟩ (fun z=>(aL Event.enc oF (aI (eP (pl:=ak 41) (I5 oA oB oC oD oE oF oG) (Lq oA oB oC oD oE oF oG) (NW n oA oB oC oD oE oF oG) n _ (.inl w2) gt1) (aI (iX n y3 gy3) z)))) (by kernel_rfl)
 ·
  obtain rfl:=aK h
  exact kS ⟨gU,[rV 1 [(15,(vI (oF.length:Int)))]],[],[(2,(⟨[0,2,14,15,16],[],4,[],[],[]⟩,l0,.ret,NV oA oB oC oD oE oF oG w2))],[]⟩ Hn ⟨rfl,rfl⟩ (fun z=>(aL Event.enc oF (aI (eP (pl:=ak 41) (I5 oA oB oC oD oE oF oG) (Lq oA oB oC oD oE oF oG) (NW n oA oB oC oD oE oF oG) n _ (.inr w2) gt1) z))) (by kernel_rfl)

def j4:List (Nat×PT):=[]
theorem w9:ay (ak 20) j4 (aj Tryz.prog 20)=true:=by kernel_rfl
noncomputable def q0:Code:=sub (aj Tryz.prog 20) [1,1,1,0,1,0,0]
theorem x_:ay (ak 20) j4 q0=true:=by kernel_rfl
theorem jt (c:ae) (wb2:(List (Int×(List Int)))×(List Event)×(List Int)) (y3:(Bool×Int×Int×Int)) (K:Ex→St→Prop):oR pc sc lp cd (nA j4 [(7,⟨[],[],[],[],[],[(24,(.agg [.v (.bool y3.1),(vI y3.2.1),(vI y3.2.2.1),(vI y3.2.2.2)],[.arr true 4 [(ae.enc c)],.mapo true (wb2.1.map (cH (aH .u64) (dm eI))),.arr false 4 [[.ptr (.O 0) 0 0,.sl (wb2.2.1.map Event.enc),.sl (wb2.2.2.map eI),.mp 1]],.arr false 1 [[.fn 39 [.ptr (.O 2) 0 0] []],[.fn 40 [.ptr (.O 2) 0 0] []],[.fn 41 [.ptr (.O 2) 0 0] []]]]))],[],[],[]⟩),rV 8 [(27,vT)]]) (ak 20) [wK 1 [2] [6] 0] q0 (bg 31 [(2,.ptr (.L 2) 0 0),(17,.mf 3),(18,(vI 3)),(19,(vI 0))] [(2,[vF,(vI 0),(vI 0),(vI 0)])] [.arr true 4 [(ae.enc c)],.mapo true (wb2.1.map (cH (aH .u64) (dm eI))),.arr false 4 [[.ptr (.O 0) 0 0,.sl (wb2.2.1.map Event.enc),.sl (wb2.2.2.map eI),.mp 1]],.arr false 1 [[.fn 39 [.ptr (.O 2) 0 0] []],[.fn 40 [.ptr (.O 2) 0 0] []],[.fn 41 [.ptr (.O 2) 0 0] []]]] 0) K
  = ((sc 39 [.ptr (.O 2) 0 0] [.arr true 4 [(ae.enc c)],.mapo true (wb2.1.map (cH (aH .u64) (dm eI))),.arr false 4 [[.ptr (.O 0) 0 0,.sl (wb2.2.1.map Event.enc),.sl (wb2.2.2.map eI),.mp 1]],.arr false 1 [[.fn 39 [.ptr (.O 2) 0 0] []],[.fn 40 [.ptr (.O 2) 0 0] []],[.fn 41 [.ptr (.O 2) 0 0] []]]] (fun r' o'=>r'=.agg [.v (.bool y3.1),(vI y3.2.1),(vI y3.2.2.1),(vI y3.2.2.2)]∧o'=[.arr true 4 [(ae.enc c)],.mapo true (wb2.1.map (cH (aH .u64) (dm eI))),.arr false 4 [[.ptr (.O 0) 0 0,.sl (wb2.2.1.map Event.enc),.sl (wb2.2.2.map eI),.mp 1]],.arr false 1 [[.fn 39 [.ptr (.O 2) 0 0] []],[.fn 40 [.ptr (.O 2) 0 0] []],[.fn 41 [.ptr (.O 2) 0 0] []]]]))∧(IE (!y3.1) true)∧K .ret (bg 31 [(2,.ptr (.L 2) 0 0)] [(2,[.v (.bool y3.1),(vI y3.2.1),(vI y3.2.2.1),(vI y3.2.2.2)])] [] 0)):=by kernel_rfl
theorem ju (c:ae) (wb2:(List (Int×(List Int)))×(List Event)×(List Int)) (y3:(Bool×Int×Int×Int)) (K:Ex→St→Prop):oR pc sc lp cd (nA j4 [(7,⟨[],[],[],[],[],[(24,(.agg [.v (.bool y3.1),(vI y3.2.1),(vI y3.2.2.1),(vI y3.2.2.2)],[.arr true 4 [(ae.enc c)],.mapo true (wb2.1.map (cH (aH .u64) (dm eI))),.arr false 4 [[.ptr (.O 0) 0 0,.sl (wb2.2.1.map Event.enc),.sl (wb2.2.2.map eI),.mp 1]],.arr false 1 [[.fn 39 [.ptr (.O 2) 0 0] []],[.fn 40 [.ptr (.O 2) 0 0] []],[.fn 41 [.ptr (.O 2) 0 0] []]]]))],[],[],[]⟩),rV 8 [(27,vF)]]) (ak 20) [wK 0 [2,17,18,19] [6] 4] q0 (bg 31 [(2,.ptr (.L 2) 0 0),(17,.mf 3),(18,(vI 3)),(19,(vI 0))] [(2,[vF,(vI 0),(vI 0),(vI 0)])] [.arr true 4 [(ae.enc c)],.mapo true (wb2.1.map (cH (aH .u64) (dm eI))),.arr false 4 [[.ptr (.O 0) 0 0,.sl (wb2.2.1.map Event.enc),.sl (wb2.2.2.map eI),.mp 1]],.arr false 1 [[.fn 39 [.ptr (.O 2) 0 0] []],[.fn 40 [.ptr (.O 2) 0 0] []],[.fn 41 [.ptr (.O 2) 0 0] []]]] 0) K
  = ((sc 39 [.ptr (.O 2) 0 0] [.arr true 4 [(ae.enc c)],.mapo true (wb2.1.map (cH (aH .u64) (dm eI))),.arr false 4 [[.ptr (.O 0) 0 0,.sl (wb2.2.1.map Event.enc),.sl (wb2.2.2.map eI),.mp 1]],.arr false 1 [[.fn 39 [.ptr (.O 2) 0 0] []],[.fn 40 [.ptr (.O 2) 0 0] []],[.fn 41 [.ptr (.O 2) 0 0] []]]] (fun r' o'=>r'=.agg [.v (.bool y3.1),(vI y3.2.1),(vI y3.2.2.1),(vI y3.2.2.2)]∧o'=[.arr true 4 [(ae.enc c)],.mapo true (wb2.1.map (cH (aH .u64) (dm eI))),.arr false 4 [[.ptr (.O 0) 0 0,.sl (wb2.2.1.map Event.enc),.sl (wb2.2.2.map eI),.mp 1]],.arr false 1 [[.fn 39 [.ptr (.O 2) 0 0] []],[.fn 40 [.ptr (.O 2) 0 0] []],[.fn 41 [.ptr (.O 2) 0 0] []]]]))∧(IE (!y3.1) false)∧K .nrm (bg 31 [(2,.ptr (.L 2) 0 0),(17,.mf 3),(18,(vI 3)),(19,(vI 1))] [(2,[vF,(vI 0),(vI 0),(vI 0)])] [.arr true 4 [(ae.enc c)],.mapo true (wb2.1.map (cH (aH .u64) (dm eI))),.arr false 4 [[.ptr (.O 0) 0 0,.sl (wb2.2.1.map Event.enc),.sl (wb2.2.2.map eI),.mp 1]],.arr false 1 [[.fn 39 [.ptr (.O 2) 0 0] []],[.fn 40 [.ptr (.O 2) 0 0] []],[.fn 41 [.ptr (.O 2) 0 0] []]]] 0)):=by kernel_rfl
theorem jw (c:ae) (wb2:(List (Int×(List Int)))×(List Event)×(List Int)) (y5:(Bool×Int×Int×Int)) (K:Ex→St→Prop):oR pc sc lp cd (nA j4 [(7,⟨[],[],[],[],[],[(24,(.agg [.v (.bool y5.1),(vI y5.2.1),(vI y5.2.2.1),(vI y5.2.2.2)],[.arr true 4 [(ae.enc c)],.mapo true (wb2.1.map (cH (aH .u64) (dm eI))),.arr false 4 [[.ptr (.O 0) 0 0,.sl (wb2.2.1.map Event.enc),.sl (wb2.2.2.map eI),.mp 1]],.arr false 1 [[.fn 39 [.ptr (.O 2) 0 0] []],[.fn 40 [.ptr (.O 2) 0 0] []],[.fn 41 [.ptr (.O 2) 0 0] []]]]))],[],[],[]⟩),rV 8 [(27,vT)]]) (ak 20) [wK 1 [2] [6] 0] q0 (bg 31 [(2,.ptr (.L 2) 0 0),(17,.mf 3),(18,(vI 3)),(19,(vI 1))] [(2,[vF,(vI 0),(vI 0),(vI 0)])] [.arr true 4 [(ae.enc c)],.mapo true (wb2.1.map (cH (aH .u64) (dm eI))),.arr false 4 [[.ptr (.O 0) 0 0,.sl (wb2.2.1.map Event.enc),.sl (wb2.2.2.map eI),.mp 1]],.arr false 1 [[.fn 39 [.ptr (.O 2) 0 0] []],[.fn 40 [.ptr (.O 2) 0 0] []],[.fn 41 [.ptr (.O 2) 0 0] []]]] 0) K
  = ((sc 40 [.ptr (.O 2) 0 0] [.arr true 4 [(ae.enc c)],.mapo true (wb2.1.map (cH (aH .u64) (dm eI))),.arr false 4 [[.ptr (.O 0) 0 0,.sl (wb2.2.1.map Event.enc),.sl (wb2.2.2.map eI),.mp 1]],.arr false 1 [[.fn 39 [.ptr (.O 2) 0 0] []],[.fn 40 [.ptr (.O 2) 0 0] []],[.fn 41 [.ptr (.O 2) 0 0] []]]] (fun r' o'=>r'=.agg [.v (.bool y5.1),(vI y5.2.1),(vI y5.2.2.1),(vI y5.2.2.2)]∧o'=[.arr true 4 [(ae.enc c)],.mapo true (wb2.1.map (cH (aH .u64) (dm eI))),.arr false 4 [[.ptr (.O 0) 0 0,.sl (wb2.2.1.map Event.enc),.sl (wb2.2.2.map eI),.mp 1]],.arr false 1 [[.fn 39 [.ptr (.O 2) 0 0] []],[.fn 40 [.ptr (.O 2) 0 0] []],[.fn 41 [.ptr (.O 2) 0 0] []]]]))∧(IE (!y5.1) true)∧K .ret (bg 31 [(2,.ptr (.L 2) 0 0)] [(2,[.v (.bool y5.1),(vI y5.2.1),(vI y5.2.2.1),(vI y5.2.2.2)])] [] 0)):=by kernel_rfl
theorem jx (c:ae) (wb2:(List (Int×(List Int)))×(List Event)×(List Int)) (y3:(Bool×Int×Int×Int)) (K:Ex→St→Prop):oR pc sc lp cd (nA j4 [(7,⟨[],[],[],[],[],[(24,(.agg [.v (.bool y3.1),(vI y3.2.1),(vI y3.2.2.1),(vI y3.2.2.2)],[.arr true 4 [(ae.enc c)],.mapo true (wb2.1.map (cH (aH .u64) (dm eI))),.arr false 4 [[.ptr (.O 0) 0 0,.sl (wb2.2.1.map Event.enc),.sl (wb2.2.2.map eI),.mp 1]],.arr false 1 [[.fn 39 [.ptr (.O 2) 0 0] []],[.fn 40 [.ptr (.O 2) 0 0] []],[.fn 41 [.ptr (.O 2) 0 0] []]]]))],[],[],[]⟩),rV 8 [(27,vF)]]) (ak 20) [wK 0 [2,17,18,19] [6] 4] q0 (bg 31 [(2,.ptr (.L 2) 0 0),(17,.mf 3),(18,(vI 3)),(19,(vI 0))] [(2,[vF,(vI 0),(vI 0),(vI 0)])] [.arr true 4 [(ae.enc c)],.mapo true (wb2.1.map (cH (aH .u64) (dm eI))),.arr false 4 [[.ptr (.O 0) 0 0,.sl (wb2.2.1.map Event.enc),.sl (wb2.2.2.map eI),.mp 1]],.arr false 1 [[.fn 39 [.ptr (.O 2) 0 0] []],[.fn 40 [.ptr (.O 2) 0 0] []],[.fn 41 [.ptr (.O 2) 0 0] []]]] 0) K
  = ((sc 39 [.ptr (.O 2) 0 0] [.arr true 4 [(ae.enc c)],.mapo true (wb2.1.map (cH (aH .u64) (dm eI))),.arr false 4 [[.ptr (.O 0) 0 0,.sl (wb2.2.1.map Event.enc),.sl (wb2.2.2.map eI),.mp 1]],.arr false 1 [[.fn 39 [.ptr (.O 2) 0 0] []],[.fn 40 [.ptr (.O 2) 0 0] []],[.fn 41 [.ptr (.O 2) 0 0] []]]] (fun r' o'=>r'=.agg [.v (.bool y3.1),(vI y3.2.1),(vI y3.2.2.1),(vI y3.2.2.2)]∧o'=[.arr true 4 [(ae.enc c)],.mapo true (wb2.1.map (cH (aH .u64) (dm eI))),.arr false 4 [[.ptr (.O 0) 0 0,.sl (wb2.2.1.map Event.enc),.sl (wb2.2.2.map eI),.mp 1]],.arr false 1 [[.fn 39 [.ptr (.O 2) 0 0] []],[.fn 40 [.ptr (.O 2) 0 0] []],[.fn 41 [.ptr (.O 2) 0 0] []]]]))∧(IE (!y3.1) false)∧K .nrm (bg 31 [(2,.ptr (.L 2) 0 0),(17,.mf 3),(18,(vI 3)),(19,(vI 1))] [(2,[vF,(vI 0),(vI 0),(vI 0)])] [.arr true 4 [(ae.enc c)],.mapo true (wb2.1.map (cH (aH .u64) (dm eI))),.arr false 4 [[.ptr (.O 0) 0 0,.sl (wb2.2.1.map Event.enc),.sl (wb2.2.2.map eI),.mp 1]],.arr false 1 [[.fn 39 [.ptr (.O 2) 0 0] []],[.fn 40 [.ptr (.O 2) 0 0] []],[.fn 41 [.ptr (.O 2) 0 0] []]]] 0)):=by kernel_rfl
theorem jy (c:ae) (wb2:(List (Int×(List Int)))×(List Event)×(List Int)) (y5:(Bool×Int×Int×Int)) (K:Ex→St→Prop):oR pc sc lp cd (nA j4 [(7,⟨[],[],[],[],[],[(24,(.agg [.v (.bool y5.1),(vI y5.2.1),(vI y5.2.2.1),(vI y5.2.2.2)],[.arr true 4 [(ae.enc c)],.mapo true (wb2.1.map (cH (aH .u64) (dm eI))),.arr false 4 [[.ptr (.O 0) 0 0,.sl (wb2.2.1.map Event.enc),.sl (wb2.2.2.map eI),.mp 1]],.arr false 1 [[.fn 39 [.ptr (.O 2) 0 0] []],[.fn 40 [.ptr (.O 2) 0 0] []],[.fn 41 [.ptr (.O 2) 0 0] []]]]))],[],[],[]⟩),rV 8 [(27,vF)]]) (ak 20) [wK 0 [2,17,18,19] [6] 4] q0 (bg 31 [(2,.ptr (.L 2) 0 0),(17,.mf 3),(18,(vI 3)),(19,(vI 1))] [(2,[vF,(vI 0),(vI 0),(vI 0)])] [.arr true 4 [(ae.enc c)],.mapo true (wb2.1.map (cH (aH .u64) (dm eI))),.arr false 4 [[.ptr (.O 0) 0 0,.sl (wb2.2.1.map Event.enc),.sl (wb2.2.2.map eI),.mp 1]],.arr false 1 [[.fn 39 [.ptr (.O 2) 0 0] []],[.fn 40 [.ptr (.O 2) 0 0] []],[.fn 41 [.ptr (.O 2) 0 0] []]]] 0) K
  = ((sc 40 [.ptr (.O 2) 0 0] [.arr true 4 [(ae.enc c)],.mapo true (wb2.1.map (cH (aH .u64) (dm eI))),.arr false 4 [[.ptr (.O 0) 0 0,.sl (wb2.2.1.map Event.enc),.sl (wb2.2.2.map eI),.mp 1]],.arr false 1 [[.fn 39 [.ptr (.O 2) 0 0] []],[.fn 40 [.ptr (.O 2) 0 0] []],[.fn 41 [.ptr (.O 2) 0 0] []]]] (fun r' o'=>r'=.agg [.v (.bool y5.1),(vI y5.2.1),(vI y5.2.2.1),(vI y5.2.2.2)]∧o'=[.arr true 4 [(ae.enc c)],.mapo true (wb2.1.map (cH (aH .u64) (dm eI))),.arr false 4 [[.ptr (.O 0) 0 0,.sl (wb2.2.1.map Event.enc),.sl (wb2.2.2.map eI),.mp 1]],.arr false 1 [[.fn 39 [.ptr (.O 2) 0 0] []],[.fn 40 [.ptr (.O 2) 0 0] []],[.fn 41 [.ptr (.O 2) 0 0] []]]]))∧(IE (!y5.1) false)∧K .nrm (bg 31 [(2,.ptr (.L 2) 0 0),(17,.mf 3),(18,(vI 3)),(19,(vI 2))] [(2,[vF,(vI 0),(vI 0),(vI 0)])] [.arr true 4 [(ae.enc c)],.mapo true (wb2.1.map (cH (aH .u64) (dm eI))),.arr false 4 [[.ptr (.O 0) 0 0,.sl (wb2.2.1.map Event.enc),.sl (wb2.2.2.map eI),.mp 1]],.arr false 1 [[.fn 39 [.ptr (.O 2) 0 0] []],[.fn 40 [.ptr (.O 2) 0 0] []],[.fn 41 [.ptr (.O 2) 0 0] []]]] 0)):=by kernel_rfl
theorem jz (c:ae) (wb2:(List (Int×(List Int)))×(List Event)×(List Int)) (y7:(Bool×Int×Int×Int)) (K:Ex→St→Prop):oR pc sc lp cd (nA j4 [(7,⟨[],[],[],[],[],[(24,(.agg [.v (.bool y7.1),(vI y7.2.1),(vI y7.2.2.1),(vI y7.2.2.2)],[.arr true 4 [(ae.enc c)],.mapo true (wb2.1.map (cH (aH .u64) (dm eI))),.arr false 4 [[.ptr (.O 0) 0 0,.sl (wb2.2.1.map Event.enc),.sl (wb2.2.2.map eI),.mp 1]],.arr false 1 [[.fn 39 [.ptr (.O 2) 0 0] []],[.fn 40 [.ptr (.O 2) 0 0] []],[.fn 41 [.ptr (.O 2) 0 0] []]]]))],[],[],[]⟩),rV 8 [(27,vT)]]) (ak 20) [wK 1 [2] [6] 0] q0 (bg 31 [(2,.ptr (.L 2) 0 0),(17,.mf 3),(18,(vI 3)),(19,(vI 2))] [(2,[vF,(vI 0),(vI 0),(vI 0)])] [.arr true 4 [(ae.enc c)],.mapo true (wb2.1.map (cH (aH .u64) (dm eI))),.arr false 4 [[.ptr (.O 0) 0 0,.sl (wb2.2.1.map Event.enc),.sl (wb2.2.2.map eI),.mp 1]],.arr false 1 [[.fn 39 [.ptr (.O 2) 0 0] []],[.fn 40 [.ptr (.O 2) 0 0] []],[.fn 41 [.ptr (.O 2) 0 0] []]]] 0) K
  = ((sc 41 [.ptr (.O 2) 0 0] [.arr true 4 [(ae.enc c)],.mapo true (wb2.1.map (cH (aH .u64) (dm eI))),.arr false 4 [[.ptr (.O 0) 0 0,.sl (wb2.2.1.map Event.enc),.sl (wb2.2.2.map eI),.mp 1]],.arr false 1 [[.fn 39 [.ptr (.O 2) 0 0] []],[.fn 40 [.ptr (.O 2) 0 0] []],[.fn 41 [.ptr (.O 2) 0 0] []]]] (fun r' o'=>r'=.agg [.v (.bool y7.1),(vI y7.2.1),(vI y7.2.2.1),(vI y7.2.2.2)]∧o'=[.arr true 4 [(ae.enc c)],.mapo true (wb2.1.map (cH (aH .u64) (dm eI))),.arr false 4 [[.ptr (.O 0) 0 0,.sl (wb2.2.1.map Event.enc),.sl (wb2.2.2.map eI),.mp 1]],.arr false 1 [[.fn 39 [.ptr (.O 2) 0 0] []],[.fn 40 [.ptr (.O 2) 0 0] []],[.fn 41 [.ptr (.O 2) 0 0] []]]]))∧(IE (!y7.1) true)∧K .ret (bg 31 [(2,.ptr (.L 2) 0 0)] [(2,[.v (.bool y7.1),(vI y7.2.1),(vI y7.2.2.1),(vI y7.2.2.2)])] [] 0)):=by kernel_rfl
theorem jA (c:ae) (wb2:(List (Int×(List Int)))×(List Event)×(List Int)) (y3:(Bool×Int×Int×Int)) (K:Ex→St→Prop):oR pc sc lp cd (nA j4 [(7,⟨[],[],[],[],[],[(24,(.agg [.v (.bool y3.1),(vI y3.2.1),(vI y3.2.2.1),(vI y3.2.2.2)],[.arr true 4 [(ae.enc c)],.mapo true (wb2.1.map (cH (aH .u64) (dm eI))),.arr false 4 [[.ptr (.O 0) 0 0,.sl (wb2.2.1.map Event.enc),.sl (wb2.2.2.map eI),.mp 1]],.arr false 1 [[.fn 39 [.ptr (.O 2) 0 0] []],[.fn 40 [.ptr (.O 2) 0 0] []],[.fn 41 [.ptr (.O 2) 0 0] []]]]))],[],[],[]⟩),rV 8 [(27,vF)]]) (ak 20) [wK 0 [2,17,18,19] [6] 4] q0 (bg 31 [(2,.ptr (.L 2) 0 0),(17,.mf 3),(18,(vI 3)),(19,(vI 0))] [(2,[vF,(vI 0),(vI 0),(vI 0)])] [.arr true 4 [(ae.enc c)],.mapo true (wb2.1.map (cH (aH .u64) (dm eI))),.arr false 4 [[.ptr (.O 0) 0 0,.sl (wb2.2.1.map Event.enc),.sl (wb2.2.2.map eI),.mp 1]],.arr false 1 [[.fn 39 [.ptr (.O 2) 0 0] []],[.fn 40 [.ptr (.O 2) 0 0] []],[.fn 41 [.ptr (.O 2) 0 0] []]]] 0) K
  = ((sc 39 [.ptr (.O 2) 0 0] [.arr true 4 [(ae.enc c)],.mapo true (wb2.1.map (cH (aH .u64) (dm eI))),.arr false 4 [[.ptr (.O 0) 0 0,.sl (wb2.2.1.map Event.enc),.sl (wb2.2.2.map eI),.mp 1]],.arr false 1 [[.fn 39 [.ptr (.O 2) 0 0] []],[.fn 40 [.ptr (.O 2) 0 0] []],[.fn 41 [.ptr (.O 2) 0 0] []]]] (fun r' o'=>r'=.agg [.v (.bool y3.1),(vI y3.2.1),(vI y3.2.2.1),(vI y3.2.2.2)]∧o'=[.arr true 4 [(ae.enc c)],.mapo true (wb2.1.map (cH (aH .u64) (dm eI))),.arr false 4 [[.ptr (.O 0) 0 0,.sl (wb2.2.1.map Event.enc),.sl (wb2.2.2.map eI),.mp 1]],.arr false 1 [[.fn 39 [.ptr (.O 2) 0 0] []],[.fn 40 [.ptr (.O 2) 0 0] []],[.fn 41 [.ptr (.O 2) 0 0] []]]]))∧(IE (!y3.1) false)∧K .nrm (bg 31 [(2,.ptr (.L 2) 0 0),(17,.mf 3),(18,(vI 3)),(19,(vI 1))] [(2,[vF,(vI 0),(vI 0),(vI 0)])] [.arr true 4 [(ae.enc c)],.mapo true (wb2.1.map (cH (aH .u64) (dm eI))),.arr false 4 [[.ptr (.O 0) 0 0,.sl (wb2.2.1.map Event.enc),.sl (wb2.2.2.map eI),.mp 1]],.arr false 1 [[.fn 39 [.ptr (.O 2) 0 0] []],[.fn 40 [.ptr (.O 2) 0 0] []],[.fn 41 [.ptr (.O 2) 0 0] []]]] 0)):=by kernel_rfl
theorem jB (c:ae) (wb2:(List (Int×(List Int)))×(List Event)×(List Int)) (y5:(Bool×Int×Int×Int)) (K:Ex→St→Prop):oR pc sc lp cd (nA j4 [(7,⟨[],[],[],[],[],[(24,(.agg [.v (.bool y5.1),(vI y5.2.1),(vI y5.2.2.1),(vI y5.2.2.2)],[.arr true 4 [(ae.enc c)],.mapo true (wb2.1.map (cH (aH .u64) (dm eI))),.arr false 4 [[.ptr (.O 0) 0 0,.sl (wb2.2.1.map Event.enc),.sl (wb2.2.2.map eI),.mp 1]],.arr false 1 [[.fn 39 [.ptr (.O 2) 0 0] []],[.fn 40 [.ptr (.O 2) 0 0] []],[.fn 41 [.ptr (.O 2) 0 0] []]]]))],[],[],[]⟩),rV 8 [(27,vF)]]) (ak 20) [wK 0 [2,17,18,19] [6] 4] q0 (bg 31 [(2,.ptr (.L 2) 0 0),(17,.mf 3),(18,(vI 3)),(19,(vI 1))] [(2,[vF,(vI 0),(vI 0),(vI 0)])] [.arr true 4 [(ae.enc c)],.mapo true (wb2.1.map (cH (aH .u64) (dm eI))),.arr false 4 [[.ptr (.O 0) 0 0,.sl (wb2.2.1.map Event.enc),.sl (wb2.2.2.map eI),.mp 1]],.arr false 1 [[.fn 39 [.ptr (.O 2) 0 0] []],[.fn 40 [.ptr (.O 2) 0 0] []],[.fn 41 [.ptr (.O 2) 0 0] []]]] 0) K
  = ((sc 40 [.ptr (.O 2) 0 0] [.arr true 4 [(ae.enc c)],.mapo true (wb2.1.map (cH (aH .u64) (dm eI))),.arr false 4 [[.ptr (.O 0) 0 0,.sl (wb2.2.1.map Event.enc),.sl (wb2.2.2.map eI),.mp 1]],.arr false 1 [[.fn 39 [.ptr (.O 2) 0 0] []],[.fn 40 [.ptr (.O 2) 0 0] []],[.fn 41 [.ptr (.O 2) 0 0] []]]] (fun r' o'=>r'=.agg [.v (.bool y5.1),(vI y5.2.1),(vI y5.2.2.1),(vI y5.2.2.2)]∧o'=[.arr true 4 [(ae.enc c)],.mapo true (wb2.1.map (cH (aH .u64) (dm eI))),.arr false 4 [[.ptr (.O 0) 0 0,.sl (wb2.2.1.map Event.enc),.sl (wb2.2.2.map eI),.mp 1]],.arr false 1 [[.fn 39 [.ptr (.O 2) 0 0] []],[.fn 40 [.ptr (.O 2) 0 0] []],[.fn 41 [.ptr (.O 2) 0 0] []]]]))∧(IE (!y5.1) false)∧K .nrm (bg 31 [(2,.ptr (.L 2) 0 0),(17,.mf 3),(18,(vI 3)),(19,(vI 2))] [(2,[vF,(vI 0),(vI 0),(vI 0)])] [.arr true 4 [(ae.enc c)],.mapo true (wb2.1.map (cH (aH .u64) (dm eI))),.arr false 4 [[.ptr (.O 0) 0 0,.sl (wb2.2.1.map Event.enc),.sl (wb2.2.2.map eI),.mp 1]],.arr false 1 [[.fn 39 [.ptr (.O 2) 0 0] []],[.fn 40 [.ptr (.O 2) 0 0] []],[.fn 41 [.ptr (.O 2) 0 0] []]]] 0)):=by kernel_rfl
theorem jC (c:ae) (wb2:(List (Int×(List Int)))×(List Event)×(List Int)) (y7:(Bool×Int×Int×Int)) (K:Ex→St→Prop):oR pc sc lp cd (nA j4 [(7,⟨[],[],[],[],[],[(24,(.agg [.v (.bool y7.1),(vI y7.2.1),(vI y7.2.2.1),(vI y7.2.2.2)],[.arr true 4 [(ae.enc c)],.mapo true (wb2.1.map (cH (aH .u64) (dm eI))),.arr false 4 [[.ptr (.O 0) 0 0,.sl (wb2.2.1.map Event.enc),.sl (wb2.2.2.map eI),.mp 1]],.arr false 1 [[.fn 39 [.ptr (.O 2) 0 0] []],[.fn 40 [.ptr (.O 2) 0 0] []],[.fn 41 [.ptr (.O 2) 0 0] []]]]))],[],[],[]⟩),rV 8 [(27,vF)]]) (ak 20) [wK 0 [2,17,18,19] [6] 4] q0 (bg 31 [(2,.ptr (.L 2) 0 0),(17,.mf 3),(18,(vI 3)),(19,(vI 2))] [(2,[vF,(vI 0),(vI 0),(vI 0)])] [.arr true 4 [(ae.enc c)],.mapo true (wb2.1.map (cH (aH .u64) (dm eI))),.arr false 4 [[.ptr (.O 0) 0 0,.sl (wb2.2.1.map Event.enc),.sl (wb2.2.2.map eI),.mp 1]],.arr false 1 [[.fn 39 [.ptr (.O 2) 0 0] []],[.fn 40 [.ptr (.O 2) 0 0] []],[.fn 41 [.ptr (.O 2) 0 0] []]]] 0) K
  = ((sc 41 [.ptr (.O 2) 0 0] [.arr true 4 [(ae.enc c)],.mapo true (wb2.1.map (cH (aH .u64) (dm eI))),.arr false 4 [[.ptr (.O 0) 0 0,.sl (wb2.2.1.map Event.enc),.sl (wb2.2.2.map eI),.mp 1]],.arr false 1 [[.fn 39 [.ptr (.O 2) 0 0] []],[.fn 40 [.ptr (.O 2) 0 0] []],[.fn 41 [.ptr (.O 2) 0 0] []]]] (fun r' o'=>r'=.agg [.v (.bool y7.1),(vI y7.2.1),(vI y7.2.2.1),(vI y7.2.2.2)]∧o'=[.arr true 4 [(ae.enc c)],.mapo true (wb2.1.map (cH (aH .u64) (dm eI))),.arr false 4 [[.ptr (.O 0) 0 0,.sl (wb2.2.1.map Event.enc),.sl (wb2.2.2.map eI),.mp 1]],.arr false 1 [[.fn 39 [.ptr (.O 2) 0 0] []],[.fn 40 [.ptr (.O 2) 0 0] []],[.fn 41 [.ptr (.O 2) 0 0] []]]]))∧(IE (!y7.1) false)∧K .nrm (bg 31 [(2,.ptr (.L 2) 0 0),(17,.mf 3),(18,(vI 3)),(19,(vI 3))] [(2,[vF,(vI 0),(vI 0),(vI 0)])] [.arr true 4 [(ae.enc c)],.mapo true (wb2.1.map (cH (aH .u64) (dm eI))),.arr false 4 [[.ptr (.O 0) 0 0,.sl (wb2.2.1.map Event.enc),.sl (wb2.2.2.map eI),.mp 1]],.arr false 1 [[.fn 39 [.ptr (.O 2) 0 0] []],[.fn 40 [.ptr (.O 2) 0 0] []],[.fn 41 [.ptr (.O 2) 0 0] []]]] 0)):=by kernel_rfl
theorem jD (c:ae) (wb2:(List (Int×(List Int)))×(List Event)×(List Int)) (K:Ex→St→Prop):oR pc sc lp cd (nA j4 []) (ak 20) [wK 2 [2] [] 0] q0 (bg 31 [(2,.ptr (.L 2) 0 0),(17,.mf 3),(18,(vI 3)),(19,(vI 3))] [(2,[vF,(vI 0),(vI 0),(vI 0)])] [.arr true 4 [(ae.enc c)],.mapo true (wb2.1.map (cH (aH .u64) (dm eI))),.arr false 4 [[.ptr (.O 0) 0 0,.sl (wb2.2.1.map Event.enc),.sl (wb2.2.2.map eI),.mp 1]],.arr false 1 [[.fn 39 [.ptr (.O 2) 0 0] []],[.fn 40 [.ptr (.O 2) 0 0] []],[.fn 41 [.ptr (.O 2) 0 0] []]]] 0) K
  = (K (.ex 0) (bg 31 [(2,.ptr (.L 2) 0 0)] [(2,[vF,(vI 0),(vI 0),(vI 0)])] [] 0)):=by kernel_rfl
theorem ki (n:Nat) (c:ae) (r:bc) (h:fT n c=some r):ax Tryz.prog 20 [(bD ae.enc c)] (eF ((bD bc.enc r))):=by
 unfold fT at h
 obtain ⟨y1,gy1,h⟩:=ab h
 rcases y1 with wa2 | wb2
 ·
  obtain ⟨y3,gy3,h⟩:=ab h
  obtain rfl:=aK h
  exact kP (nA j4 [(1,⟨[],[],[],[],[],[(7,(.nilp,[.arr true 4 [(ae.enc c)]]))],[],[],[]⟩),bi 3 [] [(10,(bD bc.enc y3))]]) w9 (fun z=>(aI (iW n c.First c.Harts c.From c.Order (.inl wa2) gy1) (aI (gT n 1 (-1) (-1) y3 gy3) z))) (by kernel_rfl)
 ·
  obtain ⟨y3,gy3,h⟩:=ab h
  have c196_:=fun (R:Prop) (z:R)=>(aI (iW n c.First c.Harts c.From c.Order (.inr wb2) gy1) z)
  rcases ap h with ⟨h4,h⟩ | ⟨h4,h⟩
  ·
   obtain rfl:=aK h
   exact kP ⟨j4,[(1,⟨[],[],[],[],[],[(7,(.ptr (.O 2) 0 0,[.arr true 4 [(ae.enc c)],.mapo true (wb2.1.map (cH (aH .u64) (dm eI))),.arr false 4 [[.ptr (.O 0) 0 0,.sl (wb2.2.1.map Event.enc),.sl (wb2.2.2.map eI),.mp 1]]]))],[],[],[]⟩)],[],[(5,(⟨[2,17,18,19],[],4,[],[],[]⟩,l0,.ret,bg 31 [(2,.ptr (.L 2) 0 0)] [(2,[.v (.bool y3.1),(vI y3.2.1),(vI y3.2.2.1),(vI y3.2.2.2)])] [] 0))],[]⟩ w9 (fun z=>(c196_ _ (aI ((cy.round (cfg:=cfg) (Ci x_ (Eq.mpr (jt pP sP lP dP c wb2 y3 _) ⟨du n c.First c.Harts c.From c.Order wb2.1 wb2.2.1 wb2.2.2 y3 gy3,cB h4,⟨rfl,rfl⟩⟩) ⟨rfl,rfl⟩)):lP (ak 20) q0 (bg 31 [(2,.ptr (.L 2) 0 0),(17,.mf 3),(18,(vI 3)),(19,(vI 0))] [(2,[vF,(vI 0),(vI 0),(vI 0)])] [.arr true 4 [(ae.enc c)],.mapo true (wb2.1.map (cH (aH .u64) (dm eI))),.arr false 4 [[.ptr (.O 0) 0 0,.sl (wb2.2.1.map Event.enc),.sl (wb2.2.2.map eI),.mp 1]],.arr false 1 [[.fn 39 [.ptr (.O 2) 0 0] []],[.fn 40 [.ptr (.O 2) 0 0] []],[.fn 41 [.ptr (.O 2) 0 0] []]]] 0) (fun e' S'=>e'=.ret∧S'=bg 31 [(2,.ptr (.L 2) 0 0)] [(2,[.v (.bool y3.1),(vI y3.2.1),(vI y3.2.2.1),(vI y3.2.2.2)])] [] 0)) z))) (by kernel_rfl)
  obtain ⟨y5,gy5,h⟩:=ab h
  rcases ap h with ⟨h6,h⟩ | ⟨h6,h⟩
  ·
   obtain rfl:=aK h
   exact kP ⟨j4,[(1,⟨[],[],[],[],[],[(7,(.ptr (.O 2) 0 0,[.arr true 4 [(ae.enc c)],.mapo true (wb2.1.map (cH (aH .u64) (dm eI))),.arr false 4 [[.ptr (.O 0) 0 0,.sl (wb2.2.1.map Event.enc),.sl (wb2.2.2.map eI),.mp 1]]]))],[],[],[]⟩)],[],[(5,(⟨[2,17,18,19],[],4,[],[],[]⟩,l0,.ret,bg 31 [(2,.ptr (.L 2) 0 0)] [(2,[.v (.bool y5.1),(vI y5.2.1),(vI y5.2.2.1),(vI y5.2.2.2)])] [] 0))],[]⟩ w9 (fun z=>(c196_ _ (aI ((cy.round (cfg:=cfg) (Ci x_ (Eq.mpr (ju pP sP lP dP c wb2 y3 _) ⟨du n c.First c.Harts c.From c.Order wb2.1 wb2.2.1 wb2.2.2 y3 gy3,cB h4,⟨rfl,rfl⟩⟩) (cy.round (cfg:=cfg) (Ci x_ (Eq.mpr (jw pP sP lP dP c wb2 y5 _) ⟨eZ n c.First c.Harts c.From c.Order wb2.1 wb2.2.1 wb2.2.2 y5 gy5,cB h6,⟨rfl,rfl⟩⟩) ⟨rfl,rfl⟩)))):lP (ak 20) q0 (bg 31 [(2,.ptr (.L 2) 0 0),(17,.mf 3),(18,(vI 3)),(19,(vI 0))] [(2,[vF,(vI 0),(vI 0),(vI 0)])] [.arr true 4 [(ae.enc c)],.mapo true (wb2.1.map (cH (aH .u64) (dm eI))),.arr false 4 [[.ptr (.O 0) 0 0,.sl (wb2.2.1.map Event.enc),.sl (wb2.2.2.map eI),.mp 1]],.arr false 1 [[.fn 39 [.ptr (.O 2) 0 0] []],[.fn 40 [.ptr (.O 2) 0 0] []],[.fn 41 [.ptr (.O 2) 0 0] []]]] 0) (fun e' S'=>e'=.ret∧S'=bg 31 [(2,.ptr (.L 2) 0 0)] [(2,[.v (.bool y5.1),(vI y5.2.1),(vI y5.2.2.1),(vI y5.2.2.2)])] [] 0)) z))) (by kernel_rfl)
  obtain ⟨y7,gy7,h⟩:=ab h
  rcases ap h with ⟨h8,h⟩ | ⟨h8,h⟩
  ·
   obtain rfl:=aK h
   exact kP ⟨j4,[(1,⟨[],[],[],[],[],[(7,(.ptr (.O 2) 0 0,[.arr true 4 [(ae.enc c)],.mapo true (wb2.1.map (cH (aH .u64) (dm eI))),.arr false 4 [[.ptr (.O 0) 0 0,.sl (wb2.2.1.map Event.enc),.sl (wb2.2.2.map eI),.mp 1]]]))],[],[],[]⟩)],[],[(5,(⟨[2,17,18,19],[],4,[],[],[]⟩,l0,.ret,bg 31 [(2,.ptr (.L 2) 0 0)] [(2,[.v (.bool y7.1),(vI y7.2.1),(vI y7.2.2.1),(vI y7.2.2.2)])] [] 0))],[]⟩ w9 (fun z=>(c196_ _ (aI ((cy.round (cfg:=cfg) (Ci x_ (Eq.mpr (jx pP sP lP dP c wb2 y3 _) ⟨du n c.First c.Harts c.From c.Order wb2.1 wb2.2.1 wb2.2.2 y3 gy3,cB h4,⟨rfl,rfl⟩⟩) (cy.round (cfg:=cfg) (Ci x_ (Eq.mpr (jy pP sP lP dP c wb2 y5 _) ⟨eZ n c.First c.Harts c.From c.Order wb2.1 wb2.2.1 wb2.2.2 y5 gy5,cB h6,⟨rfl,rfl⟩⟩) (cy.round (cfg:=cfg) (Ci x_ (Eq.mpr (jz pP sP lP dP c wb2 y7 _) ⟨iZ n c.First c.Harts c.From c.Order wb2.1 wb2.2.1 wb2.2.2 y7 gy7,cB h8,⟨rfl,rfl⟩⟩) ⟨rfl,rfl⟩)))))):lP (ak 20) q0 (bg 31 [(2,.ptr (.L 2) 0 0),(17,.mf 3),(18,(vI 3)),(19,(vI 0))] [(2,[vF,(vI 0),(vI 0),(vI 0)])] [.arr true 4 [(ae.enc c)],.mapo true (wb2.1.map (cH (aH .u64) (dm eI))),.arr false 4 [[.ptr (.O 0) 0 0,.sl (wb2.2.1.map Event.enc),.sl (wb2.2.2.map eI),.mp 1]],.arr false 1 [[.fn 39 [.ptr (.O 2) 0 0] []],[.fn 40 [.ptr (.O 2) 0 0] []],[.fn 41 [.ptr (.O 2) 0 0] []]]] 0) (fun e' S'=>e'=.ret∧S'=bg 31 [(2,.ptr (.L 2) 0 0)] [(2,[.v (.bool y7.1),(vI y7.2.1),(vI y7.2.2.1),(vI y7.2.2.2)])] [] 0)) z))) (by kernel_rfl)
  obtain ⟨y9,gy9,h⟩:=ab h
  obtain rfl:=aK h
  exact kP ⟨j4,[(1,⟨[],[],[],[],[],[(7,(.ptr (.O 2) 0 0,[.arr true 4 [(ae.enc c)],.mapo true (wb2.1.map (cH (aH .u64) (dm eI))),.arr false 4 [[.ptr (.O 0) 0 0,.sl (wb2.2.1.map Event.enc),.sl (wb2.2.2.map eI),.mp 1]]]))],[],[],[]⟩),bi 11 [] [(30,(bD bc.enc y9))]],[],[(5,(⟨[2,17,18,19],[],4,[],[],[]⟩,l0,(.ex 0),bg 31 [(2,.ptr (.L 2) 0 0)] [(2,[vF,(vI 0),(vI 0),(vI 0)])] [] 0))],[]⟩ w9 (fun z=>(c196_ _ (aI ((cy.round (cfg:=cfg) (Ci x_ (Eq.mpr (jA pP sP lP dP c wb2 y3 _) ⟨du n c.First c.Harts c.From c.Order wb2.1 wb2.2.1 wb2.2.2 y3 gy3,cB h4,⟨rfl,rfl⟩⟩) (cy.round (cfg:=cfg) (Ci x_ (Eq.mpr (jB pP sP lP dP c wb2 y5 _) ⟨eZ n c.First c.Harts c.From c.Order wb2.1 wb2.2.1 wb2.2.2 y5 gy5,cB h6,⟨rfl,rfl⟩⟩) (cy.round (cfg:=cfg) (Ci x_ (Eq.mpr (jC pP sP lP dP c wb2 y7 _) ⟨iZ n c.First c.Harts c.From c.Order wb2.1 wb2.2.1 wb2.2.2 y7 gy7,cB h8,⟨rfl,rfl⟩⟩) (cy.round (cfg:=cfg) (Ci x_ (Eq.mpr (jD pP sP lP dP c wb2 _) ⟨rfl,rfl⟩) ⟨rfl,rfl⟩)))))))):lP (ak 20) q0 (bg 31 [(2,.ptr (.L 2) 0 0),(17,.mf 3),(18,(vI 3)),(19,(vI 0))] [(2,[vF,(vI 0),(vI 0),(vI 0)])] [.arr true 4 [(ae.enc c)],.mapo true (wb2.1.map (cH (aH .u64) (dm eI))),.arr false 4 [[.ptr (.O 0) 0 0,.sl (wb2.2.1.map Event.enc),.sl (wb2.2.2.map eI),.mp 1]],.arr false 1 [[.fn 39 [.ptr (.O 2) 0 0] []],[.fn 40 [.ptr (.O 2) 0 0] []],[.fn 41 [.ptr (.O 2) 0 0] []]]] 0) (fun e' S'=>e'=(.ex 0)∧S'=bg 31 [(2,.ptr (.L 2) 0 0)] [(2,[vF,(vI 0),(vI 0),(vI 0)])] [] 0)) (aI (iX n y9 gy9) z)))) (by kernel_rfl)

def Rw:List Nat:=[2,3,4,5,6,7,8,11,13,14,16,29,30,31,32,36,37,38,39,40,41,42,45,47,48,51,52,53,54,55,56,57,58,59,60,64,65,66,67,69,71,72,73,74,75,76,77,78,79,80,81,82,83,84,85,86,87,88,92,93,94,95,96,97,98,99,100,101,102,103,105,106,107,110,114,125,126,127,128,129,130,132,133,134,135,136,137,138,139,140,141,163]
noncomputable def Lr:A.q7:={ P:=Tryz.prog,pure:=fun f=>!(fa Rw f),pol:=fun f=>{ esc:=match f with | 20=>[1] | 23=>[2] | 37=>[23] | 60=>[1] | 61=>[1] | 64=>[1] | 82=>[24] | 84=>[7] | 98=>[12] | 109=>[8] | _=>[],ms:=match f with | 11=>[56] | 29=>[7,10,15,16,17,43,44,45] | 36=>[38] | 64=>[54] | 66=>[13] | 82=>[32] | 135=>[6,11] | _=>[],bx:=match f with | 3=>[3,12] | 4=>[1,6,8,12] | 5=>[3,5,7] | 6=>[3,9] | 8=>[2] | 9=>[1] | 10=>[1] | 11=>[1,3] | 13=>[1,2,3] | 14=>[3,7] | 15=>[1] | 16=>[1] | 17=>[1] | 18=>[1] | 20=>[2,6] | 21=>[1,2,3] | 22=>[1] | 24=>[2,5] | 25=>[1,3] | 26=>[1] | 27=>[2,3] | 28=>[1] | 29=>[2] | 31=>[1,2] | 32=>[3] | 36=>[1,6] | 37=>[6] | 38=>[6] | 39=>[2,4] | 40=>[2,4] | 41=>[2,4] | 42=>[0] | 43=>[6] | 44=>[3,7,10] | 45=>[3,8,13] | 46=>[1] | 47=>[5,8] | 54=>[6] | 55=>[3,7] | 56=>[2] | 57=>[4,9,10,13,15,17] | 58=>[1,2] | 59=>[1,2] | 61=>[5] | 62=>[1] | 63=>[1] | 64=>[6] | 68=>[2,3] | 69=>[1] | 71=>[3,7,8] | 72=>[3] | 74=>[1,2] | 75=>[4] | 76=>[7] | 78=>[7,9] | 79=>[8] | 80=>[1,2] | 82=>[7] | 85=>[2,3] | 87=>[1,4,5] | 90=>[1] | 94=>[0] | 100=>[2,3,5,6] | 104=>[2] | 111=>[2] | 131=>[1,2] | 135=>[1] | _=>[],st:=Rw } }
set_option maxRecDepth 1000000 in
set_option maxHeartbeats 0 in
theorem Fs:A.JI Lr 2000 25 [.agg [vF,(vI 2),(vI 0),(vI 2)]] (.v (.string ⟨#[111,114,100,101,114,32,48,32,50]⟩))=(AV.v (.string ⟨#[111,114,100,101,114,32,48,32,50]⟩)=AV.v (.string ⟨#[111,114,100,101,114,32,48,32,50]⟩)):=by kernel_rfl
theorem Hr:Lr.P.follows .mixedOrders=true:=by kernel_rfl
set_option maxRecDepth 1000000 in
theorem w_ (n:Nat) (j:bc) (r:ByteArray) (h:ql n j=some r):ax Tryz.prog 25 [.agg (bc.enc j)] (eF (.v (.string r))):=by
  unfold ql at h
  split at h
  · rename_i hb
    have e:=bc.beq_eq hb
    subst e
    have e:=Option.some.inj h
    subst e
    exact ax.ofN (.none rfl rfl) (cfg:=Lr) (n:=2000) (BH GM) Hr (Eq.mpr Fs rfl)
  cases h

def Lt:List (Nat×PT):=[]
theorem J2:ay (ak 7) Lt (aj Tryz.prog 7)=true:=by kernel_rfl
theorem qf (n:Nat) (r:Bool) (h:mA n=some r):ax Tryz.prog 7 [] (eF (.v (.bool r))):=by
 unfold mA at h
 obtain ⟨y1,gy1,h⟩:=ab h
 obtain ⟨y2,gy2,h⟩:=ab h
 have c197_:=fun (R:Prop) (z:R)=>(aI (nI n false y1 gy1) (aI (ki n y1 y2 gy2) z))
 rcases aD h with ⟨h3,h⟩ | ⟨h3,h⟩
 ·
  obtain rfl:=aK h
  exact kP (nA Lt [(1,⟨[],[4],[],[(4,vF)],[(1,(bD ae.enc y1)),(2,(bD bc.enc y2))],[],[],[],[]⟩)]) J2 (fun z=>(c197_ _ (aI ((mQ y2 (bc.mk true 0 (-1) (-1))).trans (congrArg (fun b=>some (Value.bool b)) h3):nV Tryz.prog .eql 48 [(.bool y2.OK),(.int .i64 y2.Why),(.int .i64 y2.A_),(.int .i64 y2.B)] [(.bool true),(.int .i64 0),(.int .i64 (-1)),(.int .i64 (-1))]=some (.bool false)) (aI (rfl:AV.v (.bool false)=AV.v (.bool false)) z)))) (by kernel_rfl)
 obtain ⟨y4,gy4,h⟩:=ab h
 obtain ⟨y5,gy5,h⟩:=ab h
 obtain ⟨y6,gy6,h⟩:=ab h
 obtain rfl:=aK h
 exact kP (nA Lt [(1,⟨[],[4],[],[(4,vT)],[(1,(bD ae.enc y1)),(2,(bD bc.enc y2)),(6,(bD ae.enc y4)),(7,(bD bc.enc y5)),(8,.v (.string y6))],[],[],[],[]⟩)]) J2 (fun z=>(c197_ _ (aI ((mQ y2 (bc.mk true 0 (-1) (-1))).trans (congrArg (fun b=>some (Value.bool b)) h3):nV Tryz.prog .eql 48 [(.bool y2.OK),(.int .i64 y2.Why),(.int .i64 y2.A_),(.int .i64 y2.B)] [(.bool true),(.int .i64 0),(.int .i64 (-1)),(.int .i64 (-1))]=some (.bool true)) (aI (rfl:AV.v (.bool true)=AV.v (.bool true)) (aI (nI n true y4 gy4) (aI (ki n y4 y5 gy5) (aI (w_ n y5 y6 gy6) z))))))) (by kernel_rfl)

def Eh:List (Nat×PT):=[]
theorem De:ay (ak 56) Eh (aj Tryz.prog 56)=true:=by kernel_rfl
theorem r4 (n:Nat) (d:Deps) (most:Int) (r:Bool) (h:jJ n d most=some r):ax Tryz.prog 56 [(bD Deps.enc d),(vI most)] (eF (.v (.bool r))):=by
 unfold jJ at h
 rcases aD h with ⟨h1,h⟩ | ⟨h1,h⟩
 ·
  obtain rfl:=aK h
  exact kP (nA Eh [rV 1 [(7,(vI (d.Addr.length:Int))),(10,vF)]]) De (fun z=>(aL eI d.Addr (aB h1 z))) (by kernel_rfl)
 have c198_:=fun (R:Prop) (z:R)=>(aL eI d.Addr (aB h1 (aL eI d.Data z)))
 rcases aD h with ⟨h2,h⟩ | ⟨h2,h⟩
 ·
  obtain rfl:=aK h
  exact kP (nA Eh [rV 1 [(7,(vI (d.Addr.length:Int))),(10,vT),(13,(vI (d.Data.length:Int))),(17,vF)]]) De (fun z=>(c198_ _ (aB h2 z))) (by kernel_rfl)
 obtain rfl:=aK h
 exact kP (nA Eh [rV 1 [(7,(vI (d.Addr.length:Int))),(10,vT),(13,(vI (d.Data.length:Int))),(17,vT),(20,(vI (d.Way.length:Int)))]]) De (fun z=>(c198_ _ (aB h2 (aL eI d.Way z)))) (by kernel_rfl)

def ut:List (Nat×PT):=[]
theorem Df:ay (ak 30) ut (aj Tryz.prog 30)=true:=by kernel_rfl
noncomputable def NX:Code:=sub (aj Tryz.prog 30) [1,1,0,1,0,0]
theorem Lu:ay (ak 30) ut NX=true:=by kernel_rfl
def I6 (l:(List Event)) (sa:Int):St:=bg 23 [(0,.sl (l.map Event.enc)),(5,(vI sa))] [] [] 0
def NY (l:(List Event)) (tt:Unit):St:=bg 23 [] [] [] 0
def NZ (l:(List Event)) (tt:Unit):St:=bg 23 [(4,vF)] [] [] 0
def Lv (l:(List Event)) (t0:(Unit⊕Unit)):Ex×St:=match t0 with | .inl tt=>(.ex 0,NY l tt) | .inr tt=>(.ret,NZ l tt)
theorem N0 (n:Nat) (l:(List Event)):∀ sa r,fh n l sa=some r→aV Tryz.prog NX (I6 l sa) (rk (I6 l) (Lv l) r):=by
 intro sa r h
 unfold fh at h
 rcases aD h with ⟨ha1,h⟩ | ⟨ha1,h⟩
 ·
  exact kQ h (nA ut [rV 4 [(12,(vI (l.length:Int))),(13,vF)]]) [wK 2 [] [] 0] Lu (cG rfl kp) (fun z=>(aL Event.enc l (aB ha1 z))) (by kernel_rfl)
 obtain ⟨xa2,gxa2,h⟩:=ab h
 obtain ⟨ya3,gya3,h⟩:=ab h
 have c199_:=fun (R:Prop) (z:R)=>(aL Event.enc l (aB ha1 (aM Event.enc gxa2 (aI (r4 n xa2.Deps 60 ya3 gya3) z))))
 rcases aD h with ⟨ha4,h⟩ | ⟨ha4,h⟩
 ·
  exact kQ h (nA ut [rV 4 [(12,(vI (l.length:Int))),(13,vT)],(6,⟨[],[],[(18,(Event.enc xa2))],[(22,vF)],[(21,.v (.bool ya3))],[],[],[],[]⟩)]) [wK 0 [0,5] [] 0] Lu dx (fun z=>(c199_ _ (aB ha4 z))) (by kernel_rfl)
 exact kQ h (nA ut [rV 4 [(12,(vI (l.length:Int))),(13,vT)],(6,⟨[],[],[(18,(Event.enc xa2))],[(22,vT)],[(21,.v (.bool ya3))],[],[],[],[]⟩)]) [wK 1 [4] [] 0] Lu (cG rfl gC) (fun z=>(c199_ _ (aB ha4 z))) (by kernel_rfl)

theorem pR (n:Nat) (l:(List Event)) (most:Int) (r:Bool) (h:fA n l most=some r):ax Tryz.prog 30 [.sl (l.map Event.enc),(vI most)] (eF (.v (.bool r))):=by
 unfold fA at h
 rcases ap h with ⟨h1,h⟩ | ⟨h1,h⟩
 ·
  obtain rfl:=aK h
  exact kP (nA ut [rV 1 [(7,(vI (l.length:Int))),(9,vT)]]) Df (fun z=>(aL Event.enc l (aB h1 z))) (by kernel_rfl)
 obtain ⟨t2,gt2,h⟩:=ab h
 have c200_:=fun (R:Prop) (z:R)=>(aL Event.enc l (aB h1 z))
 rcases t2 with w3 | w3
 ·
  obtain rfl:=aK h
  exact kP ⟨ut,[rV 1 [(7,(vI (l.length:Int))),(9,vF)]],[],[(4,(⟨[0,5],[],0,[],[],[]⟩,l0,(.ex 0),NY l w3))],[]⟩ Df (fun z=>(c200_ _ (aI (eP (pl:=ak 30) (I6 l) (Lv l) (N0 n l) n _ (.inl w3) gt2) z))) (by kernel_rfl)
 ·
  obtain rfl:=aK h
  exact kP ⟨ut,[rV 1 [(7,(vI (l.length:Int))),(9,vF)]],[],[(4,(⟨[0,5],[],0,[],[],[]⟩,l0,.ret,NZ l w3))],[]⟩ Df (fun z=>(c200_ _ (aI (eP (pl:=ak 30) (I6 l) (Lv l) (N0 n l) n _ (.inr w3) gt2) z))) (by kernel_rfl)

def uX:List (Nat×PT):=[]
theorem ze:ay (ak 8) uX (aj Tryz.prog 8)=true:=by kernel_rfl
noncomputable def N1:Code:=sub (aj Tryz.prog 8) [1,1,0,1,0,0]
theorem I7:ay (ak 8) uX N1=true:=by kernel_rfl
def I8 (c:ae) (most:Int) (sa:Int×Int):St:=bg 66 [(1,(vI most)),(2,.ptr (.L 2) 0 0),(5,(vI sa.1)),(6,(vI sa.2))] [(2,(ae.enc c))] [] 0
def Ft (c:ae) (most:Int) (tt:Int):St:=bg 66 [(1,(vI most)),(2,.ptr (.L 2) 0 0),(5,(vI tt))] [(2,(ae.enc c))] [] 0
def N2 (c:ae) (most:Int) (tt:Unit):St:=bg 66 [(4,vF)] [] [] 0
def Lw (c:ae) (most:Int) (t0:(Int⊕Unit)):Ex×St:=match t0 with | .inl tt=>(.ex 0,Ft c most tt) | .inr tt=>(.ret,N2 c most tt)
theorem N3 (n:Nat) (c:ae) (most:Int):∀ sa r,gn n c most sa=some r→aV Tryz.prog N1 (I8 c most sa) (rk (I8 c most) (Lw c most) r):=by
 intro sa r h
 unfold gn at h
 rcases aD h with ⟨ha1,h⟩ | ⟨ha1,h⟩
 ·
  exact kQ h (nA uX [rV 3 [(10,(vI (c.Harts.length:Int))),(12,vF)]]) [wK 2 [1,2,5] [] 0] I7 (cG rfl kp) (fun z=>(aL (cY Event.enc) c.Harts (aB ha1 z))) (by kernel_rfl)
 have c201_:=fun (R:Prop) (z:R)=>(aL (cY Event.enc) c.Harts (aB ha1 z))
 rcases aD h with ⟨ha2,h⟩ | ⟨ha2,h⟩
 ·
  exact kQ h (nA uX [rV 3 [(10,(vI (c.Harts.length:Int))),(12,vT),(15,vF)]]) [wK 2 [1,2,5] [] 0] I7 (cG rfl kp) (fun z=>(c201_ _ (aB ha2 z))) (by kernel_rfl)
 obtain ⟨xa3,gxa3,h⟩:=ab h
 obtain ⟨ya4,gya4,h⟩:=ab h
 have d0_:Ch (c.Harts.map (cY Event.enc)) sa.2=some [.sl (xa3.map Event.enc)]:=mi (cY Event.enc) gxa3
 have c202_:=fun (R:Prop) (z:R)=>(aB ha2 (aI d0_ (aL Event.enc xa3 (aI d0_ (aI (pR n xa3 most ya4 gya4) z)))))
 rcases aD h with ⟨ha5,h⟩ | ⟨ha5,h⟩
 ·
  exact kQ h (nA uX [rV 3 [(10,(vI (c.Harts.length:Int))),(12,vT),(15,vT)],(5,⟨[],[],[(22,[.sl (xa3.map Event.enc)])],[(24,(vI (xa3.length:Int)))],[],[],[],[],[]⟩),(6,⟨[],[],[(29,[.sl (xa3.map Event.enc)])],[(33,vF)],[(32,.v (.bool ya4))],[],[],[],[]⟩)]) [wK 0 [1,2,5,6] [] 0] I7 dx (fun z=>(c201_ _ (c202_ _ (aB ha5 z)))) (by kernel_rfl)
 exact kQ h (nA uX [rV 3 [(10,(vI (c.Harts.length:Int))),(12,vT),(15,vT)],(5,⟨[],[],[(22,[.sl (xa3.map Event.enc)])],[(24,(vI (xa3.length:Int)))],[],[],[],[],[]⟩),(6,⟨[],[],[(29,[.sl (xa3.map Event.enc)])],[(33,vT)],[(32,.v (.bool ya4))],[],[],[],[]⟩)]) [wK 1 [4] [2] 0] I7 (cG rfl gC) (fun z=>(c201_ _ (c202_ _ (aB ha5 z)))) (by kernel_rfl)

theorem r5 (n:Nat) (c:ae) (most:Int) (r:Bool) (h:gL n c most=some r):ax Tryz.prog 8 [(bD ae.enc c),(vI most)] (eF (.v (.bool r))):=by
 unfold gL at h
 obtain ⟨t1,gt1,h⟩:=ab h
 rcases t1 with w2 | w2
 ·
  have c203_:=fun (R:Prop) (z:R)=>(aI (eP (pl:=ak 8) (I8 c most) (Lw c most) (N3 n c most) n _ (.inl w2) gt1) (aL (cY Event.enc) c.Harts z))
  rcases aD h with ⟨h3,h⟩ | ⟨h3,h⟩
  ·
   obtain rfl:=aK h
   exact kP ⟨uX,[rV 8 [(36,(vI (c.Harts.length:Int))),(38,vF)]],[],[(3,(⟨[1,2,5,6],[],0,[],[],[]⟩,l0,(.ex 0),Ft c most w2))],[]⟩ ze (fun z=>(c203_ _ (aB h3 z))) (by kernel_rfl)
  rcases aD h with ⟨h4,h⟩ | ⟨h4,h⟩
  ·
   obtain rfl:=aK h
   exact kP ⟨uX,[rV 8 [(36,(vI (c.Harts.length:Int))),(38,vT),(43,vF)]],[],[(3,(⟨[1,2,5,6],[],0,[],[],[]⟩,l0,(.ex 0),Ft c most w2))],[]⟩ ze (fun z=>(c203_ _ (aB h3 (aB h4 z)))) (by kernel_rfl)
  have c204_:=fun (R:Prop) (z:R)=>(aB h3 (aB h4 (aL Cell.enc c.First z)))
  rcases aD h with ⟨h5,h⟩ | ⟨h5,h⟩
  ·
   obtain rfl:=aK h
   exact kP ⟨uX,[rV 8 [(36,(vI (c.Harts.length:Int))),(38,vT),(43,vT),(46,(vI (c.First.length:Int))),(50,vF)]],[],[(3,(⟨[1,2,5,6],[],0,[],[],[]⟩,l0,(.ex 0),Ft c most w2))],[]⟩ ze (fun z=>(c203_ _ (c204_ _ (aB h5 z)))) (by kernel_rfl)
  have c205_:=fun (R:Prop) (z:R)=>(aB h5 (aL eI c.From z))
  rcases aD h with ⟨h6,h⟩ | ⟨h6,h⟩
  ·
   obtain rfl:=aK h
   exact kP ⟨uX,[rV 8 [(36,(vI (c.Harts.length:Int))),(38,vT),(43,vT),(46,(vI (c.First.length:Int))),(50,vT),(53,(vI (c.From.length:Int))),(58,vF)]],[],[(3,(⟨[1,2,5,6],[],0,[],[],[]⟩,l0,(.ex 0),Ft c most w2))],[]⟩ ze (fun z=>(c203_ _ (c204_ _ (c205_ _ (aB h6 z))))) (by kernel_rfl)
  obtain rfl:=aK h
  exact kP ⟨uX,[rV 8 [(36,(vI (c.Harts.length:Int))),(38,vT),(43,vT),(46,(vI (c.First.length:Int))),(50,vT),(53,(vI (c.From.length:Int))),(58,vT),(61,(vI (c.Order.length:Int)))]],[],[(3,(⟨[1,2,5,6],[],0,[],[],[]⟩,l0,(.ex 0),Ft c most w2))],[]⟩ ze (fun z=>(c203_ _ (c204_ _ (c205_ _ (aB h6 (aL eI c.Order z)))))) (by kernel_rfl)
 ·
  obtain rfl:=aK h
  exact kP ⟨uX,[],[],[(3,(⟨[1,2,5,6],[],0,[],[],[]⟩,l0,.ret,N2 c most w2))],[]⟩ ze (fun z=>(aI (eP (pl:=ak 8) (I8 c most) (Lw c most) (N3 n c most) n _ (.inr w2) gt1) z)) (by kernel_rfl)

def N4:List (Nat×PT):=[]
theorem N5:ay (ak 9) N4 (aj Tryz.prog 9)=true:=by kernel_rfl
theorem r6 (n:Nat) (c:ae) (r:Bool) (h:mB n c=some r):ax Tryz.prog 9 [(bD ae.enc c)] (eF (.v (.bool r))):=by
 unfold mB at h
 obtain ⟨y1,gy1,h⟩:=ab h
 obtain rfl:=aK h
 exact kP (nA N4 [bi 1 [] [(4,(bD bc.enc y1))]]) N5 (fun z=>(aI (ki n c y1 gy1) z)) (by kernel_rfl)

def r7:List (Nat×PT):=[(4,(ew [0,1,2,3,4,5,6,7,8,9,10,11,12,13,14,15,16,17,18,19,20,21,22,23,24]))]
theorem Hs:ay (ak 53) r7 (aj Tryz.prog 53)=true:=by kernel_rfl
noncomputable def N6:Code:=sub (aj Tryz.prog 53) [1,0,1,0,0]
theorem Ht:ay (ak 53) r7 N6=true:=by kernel_rfl
def I9 (l:(List Cell)) (sa:Int):St:=bg 35 [(0,.sl (l.map Cell.enc)),(3,(vI sa))] [] [] 0
def N7 (l:(List Cell)) (tt:Unit):St:=bg 35 [] [] [] 0
def N8 (l:(List Cell)) (tt:Unit):St:=bg 35 [(2,vF)] [] [] 0
def Lx (l:(List Cell)) (t0:(Unit⊕Unit)):Ex×St:=match t0 with | .inl tt=>(.ex 0,N7 l tt) | .inr tt=>(.ret,N8 l tt)
theorem N9 (n:Nat) (l:(List Cell)):∀ sa r,ku n l sa=some r→aV Tryz.prog N6 (I9 l sa) (rk (I9 l) (Lx l) r):=by
 intro sa r h
 unfold ku at h
 rcases aD h with ⟨ha1,h⟩ | ⟨ha1,h⟩
 ·
  exact kQ h (nA r7 [rV 2 [(6,(vI (l.length:Int))),(7,vF)]]) [wK 2 [] [] 0] Ht (cG rfl kp) (fun z=>(aL Cell.enc l (aB ha1 z))) (by kernel_rfl)
 obtain ⟨xa2,gxa2,h⟩:=ab h
 have c206_:=fun (R:Prop) (z:R)=>(aL Cell.enc l (aB ha1 (aM Cell.enc gxa2 z)))
 let e207_:LR:=[rV 2 [(6,(vI (l.length:Int))),(7,vT)]]
 rcases ap h with ⟨ha3,h⟩ | ⟨ha3,h⟩
 ·
  exact kQ h (nA r7 (e207_++[(4,⟨[],[],[(12,(Cell.enc xa2))],[(17,vT)],[],[],[],[],[]⟩)])) [wK 1 [2] [] 0] Ht (cG rfl gC) (fun z=>(c206_ _ (aB ha3 z))) (by kernel_rfl)
 rcases aD h with ⟨ha4,h⟩ | ⟨ha4,h⟩
 ·
  exact kQ h (nA r7 (e207_++[(4,⟨[],[],[(12,(Cell.enc xa2))],[(17,vF),(20,vF)],[],[],[],[],[]⟩)])) [wK 0 [0,3] [] 0] Ht dx (fun z=>(c206_ _ (aB ha3 (aB ha4 z)))) (by kernel_rfl)
 obtain ⟨xa5,gxa5,h⟩:=ab h
 have c208_:=fun (R:Prop) (z:R)=>(aB ha3 (aB ha4 (aM Cell.enc gxa5 (aM Cell.enc gxa2 z))))
 rcases aD h with ⟨ha6,h⟩ | ⟨ha6,h⟩
 ·
  exact kQ h (nA r7 (e207_++[(4,⟨[],[],[(12,(Cell.enc xa2)),(24,(Cell.enc xa5)),(29,(Cell.enc xa2))],[(17,vF),(20,vT),(34,vF)],[],[],[],[],[]⟩)])) [wK 0 [0,3] [] 0] Ht dx (fun z=>(c206_ _ (c208_ _ (aB ha6 z)))) (by kernel_rfl)
 exact kQ h (nA r7 (e207_++[(4,⟨[],[],[(12,(Cell.enc xa2)),(24,(Cell.enc xa5)),(29,(Cell.enc xa2))],[(17,vF),(20,vT),(34,vT)],[],[],[],[],[]⟩)])) [wK 1 [2] [] 0] Ht (cG rfl gC) (fun z=>(c206_ _ (c208_ _ (aB ha6 z)))) (by kernel_rfl)

theorem ya (n:Nat) (l:(List Cell)) (r:Bool) (h:jf n l=some r):ax Tryz.prog 53 [.sl (l.map Cell.enc)] (eF (.v (.bool r))):=by
 unfold jf at h
 obtain ⟨t1,gt1,h⟩:=ab h
 rcases t1 with w2 | w2
 ·
  obtain rfl:=aK h
  exact kP ⟨r7,[],[],[(2,(⟨[0,3],[],0,[],[],[]⟩,l0,(.ex 0),N7 l w2))],[]⟩ Hs (fun z=>(aI (eP (pl:=ak 53) (I9 l) (Lx l) (N9 n l) n _ (.inl w2) gt1) z)) (by kernel_rfl)
 ·
  obtain rfl:=aK h
  exact kP ⟨r7,[],[],[(2,(⟨[0,3],[],0,[],[],[]⟩,l0,.ret,N8 l w2))],[]⟩ Hs (fun z=>(aI (eP (pl:=ak 53) (I9 l) (Lx l) (N9 n l) n _ (.inr w2) gt1) z)) (by kernel_rfl)

def Ei:List (Nat×PT):=[]
theorem Dh:ay (ak 17) Ei (aj Tryz.prog 17)=true:=by kernel_rfl
theorem mm (n:Nat) (e:Event) (r:Bool) (h:jg n e=some r):ax Tryz.prog 17 [(bD Event.enc e)] (eF (.v (.bool r))):=by
 unfold jg at h
 rcases ap h with ⟨h1,h⟩ | ⟨h1,h⟩
 ·
  obtain rfl:=aK h
  exact kP (nA Ei [rV 1 [(6,vT)]]) Dh (fun z=>(aB h1 z)) (by kernel_rfl)
 rcases ap h with ⟨h2,h⟩ | ⟨h2,h⟩
 ·
  obtain rfl:=aK h
  exact kP (nA Ei [rV 1 [(6,vF),(11,vT)]]) Dh (fun z=>(aB h1 (aB h2 z))) (by kernel_rfl)
 obtain rfl:=aK h
 exact kP (nA Ei [rV 1 [(6,vF),(11,vF)]]) Dh (fun z=>(aB h1 (aB h2 z))) (by kernel_rfl)

def Ej:List (Nat×PT):=[]
theorem Di:ay (ak 18) Ej (aj Tryz.prog 18)=true:=by kernel_rfl
theorem f9 (n:Nat) (e:Event) (r:Bool) (h:fj n e=some r):ax Tryz.prog 18 [(bD Event.enc e)] (eF (.v (.bool r))):=by
 unfold fj at h
 rcases ap h with ⟨h1,h⟩ | ⟨h1,h⟩
 ·
  obtain rfl:=aK h
  exact kP (nA Ej [rV 1 [(6,vT)]]) Di (fun z=>(aB h1 z)) (by kernel_rfl)
 rcases ap h with ⟨h2,h⟩ | ⟨h2,h⟩
 ·
  obtain rfl:=aK h
  exact kP (nA Ej [rV 1 [(6,vF),(11,vT)]]) Di (fun z=>(aB h1 (aB h2 z))) (by kernel_rfl)
 obtain rfl:=aK h
 exact kP (nA Ej [rV 1 [(6,vF),(11,vF)]]) Di (fun z=>(aB h1 (aB h2 z))) (by kernel_rfl)

def Hu:List (Nat×PT):=[]
theorem Hv:ay (ak 16) Hu (aj Tryz.prog 16)=true:=by kernel_rfl
theorem lv (n:Nat) (e:Event) (r:Bool) (h:fU n e=some r):ax Tryz.prog 16 [(bD Event.enc e)] (eF (.v (.bool r))):=by
 unfold fU at h
 obtain ⟨y1,gy1,h⟩:=ab h
 have c209_:=fun (R:Prop) (z:R)=>(aI (mm n e y1 gy1) z)
 rcases ap h with ⟨h2,h⟩ | ⟨h2,h⟩
 ·
  obtain rfl:=aK h
  exact kP (nA Hu [bi 1 [(5,vT)] [(4,.v (.bool y1))]]) Hv (fun z=>(c209_ _ (aB h2 z))) (by kernel_rfl)
 obtain ⟨y3,gy3,h⟩:=ab h
 obtain rfl:=aK h
 exact kP (nA Hu [bi 1 [(5,vF)] [(4,.v (.bool y1)),(7,.v (.bool y3))]]) Hv (fun z=>(c209_ _ (aB h2 (aI (f9 n e y3 gy3) z)))) (by kernel_rfl)

def r8:List (Nat×PT):=[(4,(ew [0,1,2,3,4,5,6,7,8,9,10,11,12,13,14,15,16,17,18,19,20]))]
theorem Hw:ay (ak 99) r8 (aj Tryz.prog 99)=true:=by kernel_rfl
noncomputable def N_:Code:=sub (aj Tryz.prog 99) [1,0,1,0,0]
theorem Hy:ay (ak 99) r8 N_=true:=by kernel_rfl
def I_ (l:(List Int)) (sa:Int):St:=bg 31 [(0,.sl (l.map eI)),(3,(vI sa))] [] [] 0
def Oa (l:(List Int)) (tt:Unit):St:=bg 31 [] [] [] 0
def Oc (l:(List Int)) (tt:Unit):St:=bg 31 [(2,vF)] [] [] 0
def Ly (l:(List Int)) (t0:(Unit⊕Unit)):Ex×St:=match t0 with | .inl tt=>(.ex 0,Oa l tt) | .inr tt=>(.ret,Oc l tt)
theorem Od (n:Nat) (l:(List Int)):∀ sa r,dM n l sa=some r→aV Tryz.prog N_ (I_ l sa) (rk (I_ l) (Ly l) r):=by
 intro sa r h
 unfold dM at h
 rcases aD h with ⟨ha1,h⟩ | ⟨ha1,h⟩
 ·
  exact kQ h (nA r8 [rV 2 [(6,(vI (l.length:Int))),(7,vF)]]) [wK 2 [] [] 0] Hy (cG rfl kp) (fun z=>(aL eI l (aB ha1 z))) (by kernel_rfl)
 obtain ⟨xa2,gxa2,h⟩:=ab h
 have c210_:=fun (R:Prop) (z:R)=>(aL eI l (aB ha1 (aM eI gxa2 z)))
 let e211_:LR:=[rV 2 [(6,(vI (l.length:Int))),(7,vT)]]
 rcases ap h with ⟨ha3,h⟩ | ⟨ha3,h⟩
 ·
  exact kQ h (nA r8 (e211_++[(4,⟨[],[],[(12,[(vI xa2)])],[(15,vT)],[],[],[],[],[]⟩)])) [wK 1 [2] [] 0] Hy (cG rfl gC) (fun z=>(c210_ _ (aB ha3 z))) (by kernel_rfl)
 rcases aD h with ⟨ha4,h⟩ | ⟨ha4,h⟩
 ·
  exact kQ h (nA r8 (e211_++[(4,⟨[],[],[(12,[(vI xa2)])],[(15,vF),(18,vF)],[],[],[],[],[]⟩)])) [wK 0 [0,3] [] 0] Hy dx (fun z=>(c210_ _ (aB ha3 (aB ha4 z)))) (by kernel_rfl)
 obtain ⟨xa5,gxa5,h⟩:=ab h
 have c212_:=fun (R:Prop) (z:R)=>(aB ha3 (aB ha4 (aM eI gxa5 (aM eI gxa2 z))))
 rcases aD h with ⟨ha6,h⟩ | ⟨ha6,h⟩
 ·
  exact kQ h (nA r8 (e211_++[(4,⟨[],[],[(12,[(vI xa2)]),(22,[(vI xa5)]),(26,[(vI xa2)])],[(15,vF),(18,vT),(30,vF)],[],[],[],[],[]⟩)])) [wK 0 [0,3] [] 0] Hy dx (fun z=>(c210_ _ (c212_ _ (aB ha6 z)))) (by kernel_rfl)
 exact kQ h (nA r8 (e211_++[(4,⟨[],[],[(12,[(vI xa2)]),(22,[(vI xa5)]),(26,[(vI xa2)])],[(15,vF),(18,vT),(30,vT)],[],[],[],[],[]⟩)])) [wK 1 [2] [] 0] Hy (cG rfl gC) (fun z=>(c210_ _ (c212_ _ (aB ha6 z)))) (by kernel_rfl)

theorem xd (n:Nat) (l:(List Int)) (r:Bool) (h:kL n l=some r):ax Tryz.prog 99 [.sl (l.map eI)] (eF (.v (.bool r))):=by
 unfold kL at h
 obtain ⟨t1,gt1,h⟩:=ab h
 rcases t1 with w2 | w2
 ·
  obtain rfl:=aK h
  exact kP ⟨r8,[],[],[(2,(⟨[0,3],[],0,[],[],[]⟩,l0,(.ex 0),Oa l w2))],[]⟩ Hw (fun z=>(aI (eP (pl:=ak 99) (I_ l) (Ly l) (Od n l) n _ (.inl w2) gt1) z)) (by kernel_rfl)
 ·
  obtain rfl:=aK h
  exact kP ⟨r8,[],[],[(2,(⟨[0,3],[],0,[],[],[]⟩,l0,.ret,Oc l w2))],[]⟩ Hw (fun z=>(aI (eP (pl:=ak 99) (I_ l) (Ly l) (Od n l) n _ (.inr w2) gt1) z)) (by kernel_rfl)

def Ek:List (Nat×PT):=[]
theorem Dj:ay (ak 86) Ek (aj Tryz.prog 86)=true:=by kernel_rfl
theorem mn (n:Nat) (l:(List Int)) (at_:Int) (r:Bool) (h:jh n l at_=some r):ax Tryz.prog 86 [.sl (l.map eI),(vI at_)] (eF (.v (.bool r))):=by
 unfold jh at h
 obtain ⟨y1,gy1,h⟩:=ab h
 have c213_:=fun (R:Prop) (z:R)=>(aI (xd n l y1 gy1) z)
 rcases aD h with ⟨h2,h⟩ | ⟨h2,h⟩
 ·
  obtain rfl:=aK h
  exact kP (nA Ek [bi 1 [(7,vF)] [(6,.v (.bool y1))]]) Dj (fun z=>(c213_ _ (aB h2 z))) (by kernel_rfl)
 have c214_:=fun (R:Prop) (z:R)=>(aB h2 (aL eI l z))
 rcases ap h with ⟨h3,h⟩ | ⟨h3,h⟩
 ·
  obtain rfl:=aK h
  exact kP (nA Ek [bi 1 [(7,vT),(9,(vI (l.length:Int))),(11,vT)] [(6,.v (.bool y1))]]) Dj (fun z=>(c213_ _ (c214_ _ (aB h3 z)))) (by kernel_rfl)
 obtain ⟨x4,gx4,h⟩:=ab h
 obtain rfl:=aK h
 exact kP (nA Ek [(1,⟨[],[],[(16,[(vI x4)])],[(7,vT),(9,(vI (l.length:Int))),(11,vF),(14,(vI (l.length:Int)))],[(6,.v (.bool y1))],[],[],[],[]⟩)]) Dj (fun z=>(c213_ _ (c214_ _ (aB h3 (aL eI l (aM eI gx4 z)))))) (by kernel_rfl)

def bq:List (Nat×PT):=[]
theorem cv:ay (ak 69) bq (aj Tryz.prog 69)=true:=by kernel_rfl
noncomputable def Oe:Code:=sub (aj Tryz.prog 69) [1,1,1,1]
noncomputable def Lz:Code:=sub (aj Tryz.prog 69) [1,1,1,0,1,1,1]
noncomputable def LA:Code:=sub Lz [1]
noncomputable def Og:Code:=sub LA [1]
theorem Oh:ay (ak 69) bq Oe=true:=by kernel_rfl
def Qf (sa:Bool):St:=bg 216 [(4,.v (.bool sa))] [] [] 0
def g7 (tt:Int):St:=bg 216 [(2,(vI tt))] [] [] 0
def Qg (tt:Int):Ex×St:=(.ret,g7 tt)
theorem ir (n:Nat):∀ sa t,aw n sa=some t→aV Tryz.prog Oe (Qf sa) (pk (Qg) t):=by
 intro sa t h
 unfold aw at h
 rcases ap h with ⟨ha1,h⟩ | ⟨ha1,h⟩
 ·
  exact kQ h (nA bq [rV 9 [(215,vT)]]) [wK 1 [2] [] 0] Oh (ko rfl) (fun z=>(aB ha1 z)) (by kernel_rfl)
 exact kQ h (nA bq [rV 9 [(215,vF)]]) [wK 1 [2] [] 0] Oh (ko rfl) (fun z=>(aB ha1 z)) (by kernel_rfl)

theorem Fu:ay (ak 69) bq Og=true:=by kernel_rfl
def Qh (e:Event) (sd:Bool):St:=bg 216 [(1,.ptr (.L 1) 0 0),(4,.v (.bool sd))] [(1,(Event.enc e))] [] 0
def Av (e:Event) (tt:Bool):St:=bg 216 [(4,.v (.bool tt))] [] [] 0
def Qi (e:Event) (tt:Bool):Ex×St:=(.nrm,Av e tt)
theorem BZ (n:Nat) (e:Event):∀ sd t,bG n e sd=some t→aV Tryz.prog Og (Qh e sd) (pk (Qi e) t):=by
 intro sd t h
 unfold bG at h
 rcases aD h with ⟨hd1,h⟩ | ⟨hd1,h⟩
 ·
  exact kQ h (nA bq [rV 8 [(179,vF)]]) [wK 0 [4] [1] 0] Fu (ko rfl) (fun z=>(aB hd1 z)) (by kernel_rfl)
 obtain ⟨yd2,gyd2,h⟩:=ab h
 have c215_:=fun (R:Prop) (z:R)=>(aB hd1 (aI (mn n e.Deps.Addr e.At yd2 gyd2) z))
 rcases aD h with ⟨hd3,h⟩ | ⟨hd3,h⟩
 ·
  exact kQ h (nA bq [bi 8 [(179,vT),(187,vF)] [(185,.v (.bool yd2))]]) [wK 0 [4] [1] 0] Fu (ko rfl) (fun z=>(c215_ _ (aB hd3 z))) (by kernel_rfl)
 obtain ⟨yd4,gyd4,h⟩:=ab h
 have c216_:=fun (R:Prop) (z:R)=>(aB hd3 (aI (mn n e.Deps.Data e.At yd4 gyd4) z))
 rcases aD h with ⟨hd5,h⟩ | ⟨hd5,h⟩
 ·
  exact kQ h (nA bq [bi 8 [(179,vT),(187,vT),(195,vF)] [(185,.v (.bool yd2)),(193,.v (.bool yd4))]]) [wK 0 [4] [1] 0] Fu (ko rfl) (fun z=>(c215_ _ (c216_ _ (aB hd5 z)))) (by kernel_rfl)
 obtain ⟨yd6,gyd6,h⟩:=ab h
 have c217_:=fun (R:Prop) (z:R)=>(aB hd5 (aI (mn n e.Deps.Way e.At yd6 gyd6) z))
 rcases aD h with ⟨hd7,h⟩ | ⟨hd7,h⟩
 ·
  exact kQ h (nA bq [bi 8 [(179,vT),(187,vT),(195,vT),(203,vF)] [(185,.v (.bool yd2)),(193,.v (.bool yd4)),(201,.v (.bool yd6))]]) [wK 0 [4] [1] 0] Fu (ko rfl) (fun z=>(c215_ _ (c216_ _ (c217_ _ (aB hd7 z))))) (by kernel_rfl)
 obtain ⟨yd8,gyd8,h⟩:=ab h
 have c218_:=fun (R:Prop) (z:R)=>(aB hd7 (aI (f9 n e yd8 gyd8) z))
 rcases ap h with ⟨hd9,h⟩ | ⟨hd9,h⟩
 ·
  exact kQ h (nA bq [bi 8 [(179,vT),(187,vT),(195,vT),(203,vT),(206,vT)] [(185,.v (.bool yd2)),(193,.v (.bool yd4)),(201,.v (.bool yd6)),(205,.v (.bool yd8))]]) [wK 0 [4] [1] 0] Fu (ko rfl) (fun z=>(c215_ _ (c216_ _ (c217_ _ (c218_ _ (aB hd9 z)))))) (by kernel_rfl)
 exact kQ h (nA bq [bi 8 [(179,vT),(187,vT),(195,vT),(203,vT),(206,vF),(210,(vI (e.Deps.Data.length:Int)))] [(185,.v (.bool yd2)),(193,.v (.bool yd4)),(201,.v (.bool yd6)),(205,.v (.bool yd8))]]) [wK 0 [4] [1] 0] Fu (ko rfl) (fun z=>(c215_ _ (c216_ _ (c217_ _ (c218_ _ (aB hd9 (aL eI e.Deps.Data z))))))) (by kernel_rfl)

theorem B0:ay (ak 69) bq LA=true:=by kernel_rfl
def Qj (e:Event) (sb:Bool):St:=bg 216 [(1,.ptr (.L 1) 0 0),(4,.v (.bool sb))] [(1,(Event.enc e))] [] 0
def Dk (e:Event) (tt:Bool):St:=bg 216 [(4,.v (.bool tt))] [] [] 0
def Qk (e:Event) (tt:Bool):Ex×St:=(.nrm,Dk e tt)
theorem Fv (n:Nat) (e:Event):∀ sb t,ca n e sb=some t→aV Tryz.prog LA (Qj e sb) (pk (Qk e) t):=by
 intro sb t h
 unfold ca at h
 rcases aD h with ⟨hb1,h⟩ | ⟨hb1,h⟩
 ·
  obtain ⟨tb2,gtb2,h⟩:=ab h
  exact kQ h ⟨bq,[rV 7 [(151,vF)]],[],[],[(8,(⟨[1,4],[],0,[],[],[]⟩,l0,.nrm,Av e tb2))]⟩ [wK 0 [4] [] 0] B0 (ko rfl) (fun z=>(aB hb1 (aI (BZ n e _ tb2 gtb2) z))) (by kernel_rfl)
 rcases aD h with ⟨hb2,h⟩ | ⟨hb2,h⟩
 ·
  have c221_:=fun (R:Prop) (z:R)=>(aB hb1 (aB hb2 z))
  rcases ap h with ⟨hb3,h⟩ | ⟨hb3,h⟩
  ·
   obtain ⟨tb4,gtb4,h⟩:=ab h
   exact kQ h ⟨bq,[rV 7 [(151,vT),(155,vF),(171,vT)]],[],[],[(8,(⟨[1,4],[],0,[],[],[]⟩,l0,.nrm,Av e tb4))]⟩ [wK 0 [4] [] 0] B0 (ko rfl) (fun z=>(c221_ _ (aB hb3 (aI (BZ n e _ tb4 gtb4) z)))) (by kernel_rfl)
  obtain ⟨tb4,gtb4,h⟩:=ab h
  exact kQ h ⟨bq,[rV 7 [(151,vT),(155,vF),(171,vF)]],[],[],[(8,(⟨[1,4],[],0,[],[],[]⟩,l0,.nrm,Av e tb4))]⟩ [wK 0 [4] [] 0] B0 (ko rfl) (fun z=>(c221_ _ (aB hb3 (aI (BZ n e _ tb4 gtb4) z)))) (by kernel_rfl)
 have c219_:=fun (R:Prop) (z:R)=>(aB hb1 (aB hb2 z))
 rcases aD h with ⟨hb3,h⟩ | ⟨hb3,h⟩
 ·
  rcases ap h with ⟨hb4,h⟩ | ⟨hb4,h⟩
  ·
   obtain ⟨tb5,gtb5,h⟩:=ab h
   exact kQ h ⟨bq,[rV 7 [(151,vT),(155,vT),(160,vF),(171,vT)]],[],[],[(8,(⟨[1,4],[],0,[],[],[]⟩,l0,.nrm,Av e tb5))]⟩ [wK 0 [4] [] 0] B0 (ko rfl) (fun z=>(c219_ _ (aB hb3 (aB hb4 (aI (BZ n e _ tb5 gtb5) z))))) (by kernel_rfl)
  obtain ⟨tb5,gtb5,h⟩:=ab h
  exact kQ h ⟨bq,[rV 7 [(151,vT),(155,vT),(160,vF),(171,vF)]],[],[],[(8,(⟨[1,4],[],0,[],[],[]⟩,l0,.nrm,Av e tb5))]⟩ [wK 0 [4] [] 0] B0 (ko rfl) (fun z=>(c219_ _ (aB hb3 (aB hb4 (aI (BZ n e _ tb5 gtb5) z))))) (by kernel_rfl)
 rcases ap h with ⟨hb4,h⟩ | ⟨hb4,h⟩
 ·
  obtain ⟨tb5,gtb5,h⟩:=ab h
  exact kQ h ⟨bq,[rV 7 [(151,vT),(155,vT),(160,vT),(167,vT)]],[],[],[(8,(⟨[1,4],[],0,[],[],[]⟩,l0,.nrm,Av e tb5))]⟩ [wK 0 [4] [] 0] B0 (ko rfl) (fun z=>(c219_ _ (aB hb3 (aB hb4 (aI (BZ n e _ tb5 gtb5) z))))) (by kernel_rfl)
 have c220_:=fun (R:Prop) (z:R)=>(aB hb3 (aB hb4 z))
 rcases ap h with ⟨hb5,h⟩ | ⟨hb5,h⟩
 ·
  obtain ⟨tb6,gtb6,h⟩:=ab h
  exact kQ h ⟨bq,[rV 7 [(151,vT),(155,vT),(160,vT),(167,vF),(171,vT)]],[],[],[(8,(⟨[1,4],[],0,[],[],[]⟩,l0,.nrm,Av e tb6))]⟩ [wK 0 [4] [] 0] B0 (ko rfl) (fun z=>(c219_ _ (c220_ _ (aB hb5 (aI (BZ n e _ tb6 gtb6) z))))) (by kernel_rfl)
 obtain ⟨tb6,gtb6,h⟩:=ab h
 exact kQ h ⟨bq,[rV 7 [(151,vT),(155,vT),(160,vT),(167,vF),(171,vF)]],[],[],[(8,(⟨[1,4],[],0,[],[],[]⟩,l0,.nrm,Av e tb6))]⟩ [wK 0 [4] [] 0] B0 (ko rfl) (fun z=>(c219_ _ (c220_ _ (aB hb5 (aI (BZ n e _ tb6 gtb6) z))))) (by kernel_rfl)

theorem Fw:ay (ak 69) bq Lz=true:=by kernel_rfl
def Ql (e:Event) (sa:Bool):St:=bg 216 [(1,.ptr (.L 1) 0 0),(4,.v (.bool sa))] [(1,(Event.enc e))] [] 0
def pi (e:Event) (tt:Bool):St:=bg 216 [(4,.v (.bool tt))] [] [] 0
def Qm (e:Event) (tt:Bool):Ex×St:=(.nrm,pi e tt)
theorem pS (n:Nat) (e:Event):∀ sa t,aX n e sa=some t→aV Tryz.prog Lz (Ql e sa) (pk (Qm e) t):=by
 intro sa t h
 unfold aX at h
 rcases aD h with ⟨ha1,h⟩ | ⟨ha1,h⟩
 ·
  obtain ⟨ta2,gta2,h⟩:=ab h
  exact kQ h ⟨bq,[rV 6 [(130,vF)]],[],[],[(7,(⟨[1,4],[],0,[],[],[]⟩,l0,.nrm,Dk e ta2))]⟩ [wK 0 [4] [] 0] Fw (ko rfl) (fun z=>(aB ha1 (aI (Fv n e _ ta2 gta2) z))) (by kernel_rfl)
 rcases aD h with ⟨ha2,h⟩ | ⟨ha2,h⟩
 ·
  have c223_:=fun (R:Prop) (z:R)=>(aB ha1 (aB ha2 z))
  rcases ap h with ⟨ha3,h⟩ | ⟨ha3,h⟩
  ·
   obtain ⟨ta4,gta4,h⟩:=ab h
   exact kQ h ⟨bq,[rV 6 [(130,vT),(134,vF),(143,vT)]],[],[],[(7,(⟨[1,4],[],0,[],[],[]⟩,l0,.nrm,Dk e ta4))]⟩ [wK 0 [4] [] 0] Fw (ko rfl) (fun z=>(c223_ _ (aB ha3 (aI (Fv n e _ ta4 gta4) z)))) (by kernel_rfl)
  obtain ⟨ta4,gta4,h⟩:=ab h
  exact kQ h ⟨bq,[rV 6 [(130,vT),(134,vF),(143,vF)]],[],[],[(7,(⟨[1,4],[],0,[],[],[]⟩,l0,.nrm,Dk e ta4))]⟩ [wK 0 [4] [] 0] Fw (ko rfl) (fun z=>(c223_ _ (aB ha3 (aI (Fv n e _ ta4 gta4) z)))) (by kernel_rfl)
 have c222_:=fun (R:Prop) (z:R)=>(aB ha1 (aB ha2 z))
 rcases ap h with ⟨ha3,h⟩ | ⟨ha3,h⟩
 ·
  obtain ⟨ta4,gta4,h⟩:=ab h
  exact kQ h ⟨bq,[rV 6 [(130,vT),(134,vT),(139,vT)]],[],[],[(7,(⟨[1,4],[],0,[],[],[]⟩,l0,.nrm,Dk e ta4))]⟩ [wK 0 [4] [] 0] Fw (ko rfl) (fun z=>(c222_ _ (aB ha3 (aI (Fv n e _ ta4 gta4) z)))) (by kernel_rfl)
 rcases ap h with ⟨ha4,h⟩ | ⟨ha4,h⟩
 ·
  obtain ⟨ta5,gta5,h⟩:=ab h
  exact kQ h ⟨bq,[rV 6 [(130,vT),(134,vT),(139,vF),(143,vT)]],[],[],[(7,(⟨[1,4],[],0,[],[],[]⟩,l0,.nrm,Dk e ta5))]⟩ [wK 0 [4] [] 0] Fw (ko rfl) (fun z=>(c222_ _ (aB ha3 (aB ha4 (aI (Fv n e _ ta5 gta5) z))))) (by kernel_rfl)
 obtain ⟨ta5,gta5,h⟩:=ab h
 exact kQ h ⟨bq,[rV 6 [(130,vT),(134,vT),(139,vF),(143,vF)]],[],[],[(7,(⟨[1,4],[],0,[],[],[]⟩,l0,.nrm,Dk e ta5))]⟩ [wK 0 [4] [] 0] Fw (ko rfl) (fun z=>(c222_ _ (aB ha3 (aB ha4 (aI (Fv n e _ ta5 gta5) z))))) (by kernel_rfl)

theorem xe (n:Nat) (e:Event) (r:Int) (h:eG n e=some r):ax Tryz.prog 69 [(bD Event.enc e)] (eF ((vI r))):=by
 unfold eG at h
 have c224_:=fun (R:Prop) (z:R)=>(aL eI e.Deps.Addr (aL eI e.Deps.Data (aL eI e.Deps.Way z)))
 let e225_:LR:=[rV 1 [(8,(vI (e.Deps.Addr.length:Int))),(12,(vI (e.Deps.Data.length:Int))),(17,(vI (e.Deps.Way.length:Int)))]]
 rcases aD h with ⟨h1,h⟩ | ⟨h1,h⟩
 ·
  rcases ap h with ⟨h2,h⟩ | ⟨h2,h⟩
  ·
   obtain ⟨t3,gt3,h⟩:=ab h
   obtain rfl:=aK h
   exact kP ⟨bq,(e225_++[rV 2 [(22,vF)],rV 3 [(34,vT)]]),[],[],[(9,(⟨[4],[1],0,[],[],[]⟩,l0,.ret,g7 t3))]⟩ cv (fun z=>(c224_ _ (aB h1 (aB h2 (aI (ir n _ t3 gt3) z))))) (by kernel_rfl)
  obtain ⟨t3,gt3,h⟩:=ab h
  obtain ⟨t4,gt4,h⟩:=ab h
  obtain rfl:=aK h
  exact kP ⟨bq,(e225_++[rV 2 [(22,vF)],rV 3 [(34,vF)]]),[],[],[(6,(⟨[1,4],[],0,[],[],[]⟩,l0,.nrm,pi e t3)),(9,(⟨[4],[],0,[],[],[]⟩,l0,.ret,g7 t4))]⟩ cv (fun z=>(c224_ _ (aB h1 (aB h2 (aI (pS n e _ t3 gt3) (aI (ir n _ t4 gt4) z)))))) (by kernel_rfl)
 rcases aD h with ⟨h2,h⟩ | ⟨h2,h⟩
 ·
  have c241_:=fun (R:Prop) (z:R)=>(aB h1 (aB h2 z))
  rcases ap h with ⟨h3,h⟩ | ⟨h3,h⟩
  ·
   obtain ⟨t4,gt4,h⟩:=ab h
   obtain rfl:=aK h
   exact kP ⟨bq,(e225_++[rV 2 [(22,vT),(27,vF)],rV 3 [(34,vT)]]),[],[],[(9,(⟨[4],[1],0,[],[],[]⟩,l0,.ret,g7 t4))]⟩ cv (fun z=>(c224_ _ (c241_ _ (aB h3 (aI (ir n _ t4 gt4) z))))) (by kernel_rfl)
  obtain ⟨t4,gt4,h⟩:=ab h
  obtain ⟨t5,gt5,h⟩:=ab h
  obtain rfl:=aK h
  exact kP ⟨bq,(e225_++[rV 2 [(22,vT),(27,vF)],rV 3 [(34,vF)]]),[],[],[(6,(⟨[1,4],[],0,[],[],[]⟩,l0,.nrm,pi e t4)),(9,(⟨[4],[],0,[],[],[]⟩,l0,.ret,g7 t5))]⟩ cv (fun z=>(c224_ _ (c241_ _ (aB h3 (aI (pS n e _ t4 gt4) (aI (ir n _ t5 gt5) z)))))) (by kernel_rfl)
 have c226_:=fun (R:Prop) (z:R)=>(aB h1 (aB h2 z))
 let e227_:LR:=[rV 2 [(22,vT),(27,vT)]]
 rcases ap h with ⟨h3,h⟩ | ⟨h3,h⟩
 ·
  let e228_:LR:=[rV 3 [(34,vT)]]
  rcases aD h with ⟨h4,h⟩ | ⟨h4,h⟩
  ·
   obtain ⟨t5,gt5,h⟩:=ab h
   obtain rfl:=aK h
   exact kP ⟨bq,(e225_++(e227_++(e228_++[rV 4 [(36,vF)]]))),[],[],[(9,(⟨[4],[1],0,[],[],[]⟩,l0,.ret,g7 t5))]⟩ cv (fun z=>(c224_ _ (c226_ _ (aB h3 (aB h4 (aI (ir n _ t5 gt5) z)))))) (by kernel_rfl)
  have c229_:=fun (R:Prop) (z:R)=>(aB h3 (aB h4 z))
  rcases aD h with ⟨h5,h⟩ | ⟨h5,h⟩
  ·
   obtain ⟨t6,gt6,h⟩:=ab h
   obtain rfl:=aK h
   exact kP ⟨bq,(e225_++(e227_++(e228_++[rV 4 [(36,vT),(41,vF)]]))),[],[],[(9,(⟨[4],[1],0,[],[],[]⟩,l0,.ret,g7 t6))]⟩ cv (fun z=>(c224_ _ (c226_ _ (c229_ _ (aB h5 (aI (ir n _ t6 gt6) z)))))) (by kernel_rfl)
  rcases aD h with ⟨h6,h⟩ | ⟨h6,h⟩
  ·
   obtain ⟨t7,gt7,h⟩:=ab h
   obtain rfl:=aK h
   exact kP ⟨bq,(e225_++(e227_++(e228_++[rV 4 [(36,vT),(41,vT),(46,vF)]]))),[],[],[(9,(⟨[4],[1],0,[],[],[]⟩,l0,.ret,g7 t7))]⟩ cv (fun z=>(c224_ _ (c226_ _ (c229_ _ (aB h5 (aB h6 (aI (ir n _ t7 gt7) z))))))) (by kernel_rfl)
  have c230_:=fun (R:Prop) (z:R)=>(aB h5 (aB h6 z))
  rcases aD h with ⟨h7,h⟩ | ⟨h7,h⟩
  ·
   obtain ⟨t8,gt8,h⟩:=ab h
   obtain rfl:=aK h
   exact kP ⟨bq,(e225_++(e227_++(e228_++[rV 4 [(36,vT),(41,vT),(46,vT),(51,vF)]]))),[],[],[(9,(⟨[4],[1],0,[],[],[]⟩,l0,.ret,g7 t8))]⟩ cv (fun z=>(c224_ _ (c226_ _ (c229_ _ (c230_ _ (aB h7 (aI (ir n _ t8 gt8) z))))))) (by kernel_rfl)
  rcases aD h with ⟨h8,h⟩ | ⟨h8,h⟩
  ·
   obtain ⟨t9,gt9,h⟩:=ab h
   obtain rfl:=aK h
   exact kP ⟨bq,(e225_++(e227_++(e228_++[rV 4 [(36,vT),(41,vT),(46,vT),(51,vT),(56,vF)]]))),[],[],[(9,(⟨[4],[1],0,[],[],[]⟩,l0,.ret,g7 t9))]⟩ cv (fun z=>(c224_ _ (c226_ _ (c229_ _ (c230_ _ (aB h7 (aB h8 (aI (ir n _ t9 gt9) z)))))))) (by kernel_rfl)
  have c231_:=fun (R:Prop) (z:R)=>(aB h7 (aB h8 z))
  rcases aD h with ⟨h9,h⟩ | ⟨h9,h⟩
  ·
   obtain ⟨t10,gt10,h⟩:=ab h
   obtain rfl:=aK h
   exact kP ⟨bq,(e225_++(e227_++(e228_++[rV 4 [(36,vT),(41,vT),(46,vT),(51,vT),(56,vT),(61,vF)]]))),[],[],[(9,(⟨[4],[1],0,[],[],[]⟩,l0,.ret,g7 t10))]⟩ cv (fun z=>(c224_ _ (c226_ _ (c229_ _ (c230_ _ (c231_ _ (aB h9 (aI (ir n _ t10 gt10) z)))))))) (by kernel_rfl)
  rcases aD h with ⟨h10,h⟩ | ⟨h10,h⟩
  ·
   obtain ⟨t11,gt11,h⟩:=ab h
   obtain rfl:=aK h
   exact kP ⟨bq,(e225_++(e227_++(e228_++[rV 4 [(36,vT),(41,vT),(46,vT),(51,vT),(56,vT),(61,vT),(66,vF)]]))),[],[],[(9,(⟨[4],[1],0,[],[],[]⟩,l0,.ret,g7 t11))]⟩ cv (fun z=>(c224_ _ (c226_ _ (c229_ _ (c230_ _ (c231_ _ (aB h9 (aB h10 (aI (ir n _ t11 gt11) z))))))))) (by kernel_rfl)
  have c232_:=fun (R:Prop) (z:R)=>(aB h9 (aB h10 z))
  rcases aD h with ⟨h11,h⟩ | ⟨h11,h⟩
  ·
   obtain ⟨t12,gt12,h⟩:=ab h
   obtain rfl:=aK h
   exact kP ⟨bq,(e225_++(e227_++(e228_++[rV 4 [(36,vT),(41,vT),(46,vT),(51,vT),(56,vT),(61,vT),(66,vT),(70,vF)]]))),[],[],[(9,(⟨[4],[1],0,[],[],[]⟩,l0,.ret,g7 t12))]⟩ cv (fun z=>(c224_ _ (c226_ _ (c229_ _ (c230_ _ (c231_ _ (c232_ _ (aB h11 (aI (ir n _ t12 gt12) z))))))))) (by kernel_rfl)
  rcases aD h with ⟨h12,h⟩ | ⟨h12,h⟩
  ·
   obtain ⟨t13,gt13,h⟩:=ab h
   obtain rfl:=aK h
   exact kP ⟨bq,(e225_++(e227_++(e228_++[rV 4 [(36,vT),(41,vT),(46,vT),(51,vT),(56,vT),(61,vT),(66,vT),(70,vT),(75,vF)]]))),[],[],[(9,(⟨[4],[1],0,[],[],[]⟩,l0,.ret,g7 t13))]⟩ cv (fun z=>(c224_ _ (c226_ _ (c229_ _ (c230_ _ (c231_ _ (c232_ _ (aB h11 (aB h12 (aI (ir n _ t13 gt13) z)))))))))) (by kernel_rfl)
  have c233_:=fun (R:Prop) (z:R)=>(aB h11 (aB h12 z))
  rcases aD h with ⟨h13,h⟩ | ⟨h13,h⟩
  ·
   obtain ⟨t14,gt14,h⟩:=ab h
   obtain rfl:=aK h
   exact kP ⟨bq,(e225_++(e227_++(e228_++[rV 4 [(36,vT),(41,vT),(46,vT),(51,vT),(56,vT),(61,vT),(66,vT),(70,vT),(75,vT),(80,vF)]]))),[],[],[(9,(⟨[4],[1],0,[],[],[]⟩,l0,.ret,g7 t14))]⟩ cv (fun z=>(c224_ _ (c226_ _ (c229_ _ (c230_ _ (c231_ _ (c232_ _ (c233_ _ (aB h13 (aI (ir n _ t14 gt14) z)))))))))) (by kernel_rfl)
  rcases ap h with ⟨h14,h⟩ | ⟨h14,h⟩
  ·
   obtain ⟨t15,gt15,h⟩:=ab h
   obtain rfl:=aK h
   exact kP ⟨bq,(e225_++(e227_++(e228_++[rV 4 [(36,vT),(41,vT),(46,vT),(51,vT),(56,vT),(61,vT),(66,vT),(70,vT),(75,vT),(80,vT),(85,vT)]]))),[],[],[(9,(⟨[4],[1],0,[],[],[]⟩,l0,.ret,g7 t15))]⟩ cv (fun z=>(c224_ _ (c226_ _ (c229_ _ (c230_ _ (c231_ _ (c232_ _ (c233_ _ (aB h13 (aB h14 (aI (ir n _ t15 gt15) z))))))))))) (by kernel_rfl)
  obtain ⟨t15,gt15,h⟩:=ab h
  obtain rfl:=aK h
  exact kP ⟨bq,(e225_++(e227_++(e228_++[rV 4 [(36,vT),(41,vT),(46,vT),(51,vT),(56,vT),(61,vT),(66,vT),(70,vT),(75,vT),(80,vT),(85,vF)]]))),[],[],[(9,(⟨[4],[1],0,[],[],[]⟩,l0,.ret,g7 t15))]⟩ cv (fun z=>(c224_ _ (c226_ _ (c229_ _ (c230_ _ (c231_ _ (c232_ _ (c233_ _ (aB h13 (aB h14 (aI (ir n _ t15 gt15) z))))))))))) (by kernel_rfl)
 let e234_:LR:=[rV 3 [(34,vF)]]
 rcases aD h with ⟨h4,h⟩ | ⟨h4,h⟩
 ·
  obtain ⟨t5,gt5,h⟩:=ab h
  obtain ⟨t6,gt6,h⟩:=ab h
  obtain rfl:=aK h
  exact kP ⟨bq,(e225_++(e227_++(e234_++[rV 5 [(91,vF)]]))),[],[],[(6,(⟨[1,4],[],0,[],[],[]⟩,l0,.nrm,pi e t5)),(9,(⟨[4],[],0,[],[],[]⟩,l0,.ret,g7 t6))]⟩ cv (fun z=>(c224_ _ (c226_ _ (aB h3 (aB h4 (aI (pS n e _ t5 gt5) (aI (ir n _ t6 gt6) z))))))) (by kernel_rfl)
 obtain ⟨y5,gy5,h⟩:=ab h
 have c235_:=fun (R:Prop) (z:R)=>(aB h3 (aB h4 (aI (lv n e y5 gy5) z)))
 rcases aD h with ⟨h6,h⟩ | ⟨h6,h⟩
 ·
  obtain ⟨t7,gt7,h⟩:=ab h
  obtain ⟨t8,gt8,h⟩:=ab h
  obtain rfl:=aK h
  exact kP ⟨bq,(e225_++(e227_++(e234_++[bi 5 [(91,vT),(95,vF)] [(93,.v (.bool y5))]]))),[],[],[(6,(⟨[1,4],[],0,[],[],[]⟩,l0,.nrm,pi e t7)),(9,(⟨[4],[],0,[],[],[]⟩,l0,.ret,g7 t8))]⟩ cv (fun z=>(c224_ _ (c226_ _ (c235_ _ (aB h6 (aI (pS n e _ t7 gt7) (aI (ir n _ t8 gt8) z))))))) (by kernel_rfl)
 rcases aD h with ⟨h7,h⟩ | ⟨h7,h⟩
 ·
  obtain ⟨t8,gt8,h⟩:=ab h
  obtain ⟨t9,gt9,h⟩:=ab h
  obtain rfl:=aK h
  exact kP ⟨bq,(e225_++(e227_++(e234_++[bi 5 [(91,vT),(95,vT),(101,vF)] [(93,.v (.bool y5))]]))),[],[],[(6,(⟨[1,4],[],0,[],[],[]⟩,l0,.nrm,pi e t8)),(9,(⟨[4],[],0,[],[],[]⟩,l0,.ret,g7 t9))]⟩ cv (fun z=>(c224_ _ (c226_ _ (c235_ _ (aB h6 (aB h7 (aI (pS n e _ t8 gt8) (aI (ir n _ t9 gt9) z)))))))) (by kernel_rfl)
 obtain ⟨y8,gy8,h⟩:=ab h
 have c236_:=fun (R:Prop) (z:R)=>(aB h6 (aB h7 (aI (mm n e y8 gy8) z)))
 rcases ap h with ⟨h9,h⟩ | ⟨h9,h⟩
 ·
  obtain ⟨y10,gy10,h⟩:=ab h
  have c237_:=fun (R:Prop) (z:R)=>(aB h9 (aI (f9 n e y10 gy10) z))
  rcases ap h with ⟨h11,h⟩ | ⟨h11,h⟩
  ·
   rcases ap h with ⟨h12,h⟩ | ⟨h12,h⟩
   ·
    obtain ⟨t13,gt13,h⟩:=ab h
    obtain ⟨t14,gt14,h⟩:=ab h
    obtain rfl:=aK h
    exact kP ⟨bq,(e225_++(e227_++(e234_++[bi 5 [(91,vT),(95,vT),(101,vT),(104,vT),(113,vT),(124,vT)] [(93,.v (.bool y5)),(103,.v (.bool y8)),(112,.v (.bool y10))]]))),[],[],[(6,(⟨[1,4],[],0,[],[],[]⟩,l0,.nrm,pi e t13)),(9,(⟨[4],[],0,[],[],[]⟩,l0,.ret,g7 t14))]⟩ cv (fun z=>(c224_ _ (c226_ _ (c235_ _ (c236_ _ (c237_ _ (aB h11 (aB h12 (aI (pS n e _ t13 gt13) (aI (ir n _ t14 gt14) z)))))))))) (by kernel_rfl)
   obtain ⟨t13,gt13,h⟩:=ab h
   obtain ⟨t14,gt14,h⟩:=ab h
   obtain rfl:=aK h
   exact kP ⟨bq,(e225_++(e227_++(e234_++[bi 5 [(91,vT),(95,vT),(101,vT),(104,vT),(113,vT),(124,vF)] [(93,.v (.bool y5)),(103,.v (.bool y8)),(112,.v (.bool y10))]]))),[],[],[(6,(⟨[1,4],[],0,[],[],[]⟩,l0,.nrm,pi e t13)),(9,(⟨[4],[],0,[],[],[]⟩,l0,.ret,g7 t14))]⟩ cv (fun z=>(c224_ _ (c226_ _ (c235_ _ (c236_ _ (c237_ _ (aB h11 (aB h12 (aI (pS n e _ t13 gt13) (aI (ir n _ t14 gt14) z)))))))))) (by kernel_rfl)
  rcases aD h with ⟨h12,h⟩ | ⟨h12,h⟩
  ·
   obtain ⟨t13,gt13,h⟩:=ab h
   obtain ⟨t14,gt14,h⟩:=ab h
   obtain rfl:=aK h
   exact kP ⟨bq,(e225_++(e227_++(e234_++[bi 5 [(91,vT),(95,vT),(101,vT),(104,vT),(113,vF),(119,vF)] [(93,.v (.bool y5)),(103,.v (.bool y8)),(112,.v (.bool y10))]]))),[],[],[(6,(⟨[1,4],[],0,[],[],[]⟩,l0,.nrm,pi e t13)),(9,(⟨[4],[],0,[],[],[]⟩,l0,.ret,g7 t14))]⟩ cv (fun z=>(c224_ _ (c226_ _ (c235_ _ (c236_ _ (c237_ _ (aB h11 (aB h12 (aI (pS n e _ t13 gt13) (aI (ir n _ t14 gt14) z)))))))))) (by kernel_rfl)
  have c238_:=fun (R:Prop) (z:R)=>(aB h11 (aB h12 z))
  rcases ap h with ⟨h13,h⟩ | ⟨h13,h⟩
  ·
   obtain ⟨t14,gt14,h⟩:=ab h
   obtain ⟨t15,gt15,h⟩:=ab h
   obtain rfl:=aK h
   exact kP ⟨bq,(e225_++(e227_++(e234_++[bi 5 [(91,vT),(95,vT),(101,vT),(104,vT),(113,vF),(119,vT),(124,vT)] [(93,.v (.bool y5)),(103,.v (.bool y8)),(112,.v (.bool y10))]]))),[],[],[(6,(⟨[1,4],[],0,[],[],[]⟩,l0,.nrm,pi e t14)),(9,(⟨[4],[],0,[],[],[]⟩,l0,.ret,g7 t15))]⟩ cv (fun z=>(c224_ _ (c226_ _ (c235_ _ (c236_ _ (c237_ _ (c238_ _ (aB h13 (aI (pS n e _ t14 gt14) (aI (ir n _ t15 gt15) z)))))))))) (by kernel_rfl)
  obtain ⟨t14,gt14,h⟩:=ab h
  obtain ⟨t15,gt15,h⟩:=ab h
  obtain rfl:=aK h
  exact kP ⟨bq,(e225_++(e227_++(e234_++[bi 5 [(91,vT),(95,vT),(101,vT),(104,vT),(113,vF),(119,vT),(124,vF)] [(93,.v (.bool y5)),(103,.v (.bool y8)),(112,.v (.bool y10))]]))),[],[],[(6,(⟨[1,4],[],0,[],[],[]⟩,l0,.nrm,pi e t14)),(9,(⟨[4],[],0,[],[],[]⟩,l0,.ret,g7 t15))]⟩ cv (fun z=>(c224_ _ (c226_ _ (c235_ _ (c236_ _ (c237_ _ (c238_ _ (aB h13 (aI (pS n e _ t14 gt14) (aI (ir n _ t15 gt15) z)))))))))) (by kernel_rfl)
 rcases aD h with ⟨h10,h⟩ | ⟨h10,h⟩
 ·
  obtain ⟨t11,gt11,h⟩:=ab h
  obtain ⟨t12,gt12,h⟩:=ab h
  obtain rfl:=aK h
  exact kP ⟨bq,(e225_++(e227_++(e234_++[bi 5 [(91,vT),(95,vT),(101,vT),(104,vF),(110,vF)] [(93,.v (.bool y5)),(103,.v (.bool y8))]]))),[],[],[(6,(⟨[1,4],[],0,[],[],[]⟩,l0,.nrm,pi e t11)),(9,(⟨[4],[],0,[],[],[]⟩,l0,.ret,g7 t12))]⟩ cv (fun z=>(c224_ _ (c226_ _ (c235_ _ (c236_ _ (aB h9 (aB h10 (aI (pS n e _ t11 gt11) (aI (ir n _ t12 gt12) z))))))))) (by kernel_rfl)
 obtain ⟨y11,gy11,h⟩:=ab h
 have c239_:=fun (R:Prop) (z:R)=>(aB h9 (aB h10 (aI (f9 n e y11 gy11) z)))
 rcases ap h with ⟨h12,h⟩ | ⟨h12,h⟩
 ·
  rcases ap h with ⟨h13,h⟩ | ⟨h13,h⟩
  ·
   obtain ⟨t14,gt14,h⟩:=ab h
   obtain ⟨t15,gt15,h⟩:=ab h
   obtain rfl:=aK h
   exact kP ⟨bq,(e225_++(e227_++(e234_++[bi 5 [(91,vT),(95,vT),(101,vT),(104,vF),(110,vT),(113,vT),(124,vT)] [(93,.v (.bool y5)),(103,.v (.bool y8)),(112,.v (.bool y11))]]))),[],[],[(6,(⟨[1,4],[],0,[],[],[]⟩,l0,.nrm,pi e t14)),(9,(⟨[4],[],0,[],[],[]⟩,l0,.ret,g7 t15))]⟩ cv (fun z=>(c224_ _ (c226_ _ (c235_ _ (c236_ _ (c239_ _ (aB h12 (aB h13 (aI (pS n e _ t14 gt14) (aI (ir n _ t15 gt15) z)))))))))) (by kernel_rfl)
  obtain ⟨t14,gt14,h⟩:=ab h
  obtain ⟨t15,gt15,h⟩:=ab h
  obtain rfl:=aK h
  exact kP ⟨bq,(e225_++(e227_++(e234_++[bi 5 [(91,vT),(95,vT),(101,vT),(104,vF),(110,vT),(113,vT),(124,vF)] [(93,.v (.bool y5)),(103,.v (.bool y8)),(112,.v (.bool y11))]]))),[],[],[(6,(⟨[1,4],[],0,[],[],[]⟩,l0,.nrm,pi e t14)),(9,(⟨[4],[],0,[],[],[]⟩,l0,.ret,g7 t15))]⟩ cv (fun z=>(c224_ _ (c226_ _ (c235_ _ (c236_ _ (c239_ _ (aB h12 (aB h13 (aI (pS n e _ t14 gt14) (aI (ir n _ t15 gt15) z)))))))))) (by kernel_rfl)
 rcases aD h with ⟨h13,h⟩ | ⟨h13,h⟩
 ·
  obtain ⟨t14,gt14,h⟩:=ab h
  obtain ⟨t15,gt15,h⟩:=ab h
  obtain rfl:=aK h
  exact kP ⟨bq,(e225_++(e227_++(e234_++[bi 5 [(91,vT),(95,vT),(101,vT),(104,vF),(110,vT),(113,vF),(119,vF)] [(93,.v (.bool y5)),(103,.v (.bool y8)),(112,.v (.bool y11))]]))),[],[],[(6,(⟨[1,4],[],0,[],[],[]⟩,l0,.nrm,pi e t14)),(9,(⟨[4],[],0,[],[],[]⟩,l0,.ret,g7 t15))]⟩ cv (fun z=>(c224_ _ (c226_ _ (c235_ _ (c236_ _ (c239_ _ (aB h12 (aB h13 (aI (pS n e _ t14 gt14) (aI (ir n _ t15 gt15) z)))))))))) (by kernel_rfl)
 have c240_:=fun (R:Prop) (z:R)=>(aB h12 (aB h13 z))
 rcases ap h with ⟨h14,h⟩ | ⟨h14,h⟩
 ·
  obtain ⟨t15,gt15,h⟩:=ab h
  obtain ⟨t16,gt16,h⟩:=ab h
  obtain rfl:=aK h
  exact kP ⟨bq,(e225_++(e227_++(e234_++[bi 5 [(91,vT),(95,vT),(101,vT),(104,vF),(110,vT),(113,vF),(119,vT),(124,vT)] [(93,.v (.bool y5)),(103,.v (.bool y8)),(112,.v (.bool y11))]]))),[],[],[(6,(⟨[1,4],[],0,[],[],[]⟩,l0,.nrm,pi e t15)),(9,(⟨[4],[],0,[],[],[]⟩,l0,.ret,g7 t16))]⟩ cv (fun z=>(c224_ _ (c226_ _ (c235_ _ (c236_ _ (c239_ _ (c240_ _ (aB h14 (aI (pS n e _ t15 gt15) (aI (ir n _ t16 gt16) z)))))))))) (by kernel_rfl)
 obtain ⟨t15,gt15,h⟩:=ab h
 obtain ⟨t16,gt16,h⟩:=ab h
 obtain rfl:=aK h
 exact kP ⟨bq,(e225_++(e227_++(e234_++[bi 5 [(91,vT),(95,vT),(101,vT),(104,vF),(110,vT),(113,vF),(119,vT),(124,vF)] [(93,.v (.bool y5)),(103,.v (.bool y8)),(112,.v (.bool y11))]]))),[],[],[(6,(⟨[1,4],[],0,[],[],[]⟩,l0,.nrm,pi e t15)),(9,(⟨[4],[],0,[],[],[]⟩,l0,.ret,g7 t16))]⟩ cv (fun z=>(c224_ _ (c226_ _ (c235_ _ (c236_ _ (c239_ _ (c240_ _ (aB h14 (aI (pS n e _ t15 gt15) (aI (ir n _ t16 gt16) z)))))))))) (by kernel_rfl)

def jb:List (Nat×PT):=[(8,(ew [0,1,2,3,4,5,6,7,8,9,10,11,12,13,14,15,16,17]))]
theorem Hz:ay (ak 54) jb (aj Tryz.prog 54)=true:=by kernel_rfl
noncomputable def LB:Code:=sub (aj Tryz.prog 54) [1,0,1,0,0]
noncomputable def Oi:Code:=sub LB [1,0,0,1,1,1,1,1,0,0]
theorem Ja:ay (ak 54) jb Oi=true:=by kernel_rfl
def Jb (hart:Int) (l:(List Event)) (xa2:Event) (xa8:Event) (sb:Int×Bool×Int×Int):St:=bg 76 [(0,(vI hart)),(1,.sl (l.map Event.enc)),(5,(vI sb.2.2.1)),(7,(vI sb.2.2.2)),(22,.ptr (.L 6) 0 0),(23,(vI xa2.Hart)),(24,(vI hart)),(25,.v (.bool (xa2.Hart != hart))),(28,.ptr (.L 6) 0 1),(29,(vI xa2.At)),(30,(vI sb.1)),(31,.v (.bool sb.2.1)),(44,.sl (l.map Event.enc)),(45,.ptr (.L 6) 0 10),(46,(vI xa2.Pair)),(47,.fptr (Event.enc xa8) 0),(48,.fptr (Event.enc xa8) 3),(49,(vU xa8.Addr)),(50,.ptr (.L 6) 0 3),(51,(vU xa2.Addr)),(52,.v (.bool (xa8.Addr != xa2.Addr)))] [(6,(Event.enc xa2))] [] 0
def Oj (hart:Int) (l:(List Event)) (xa2:Event) (xa8:Event) (tt:Int×Bool×Int):St:=bg 76 [(0,(vI hart)),(1,.sl (l.map Event.enc)),(5,(vI tt.2.2)),(22,.ptr (.L 6) 0 0),(23,(vI xa2.Hart)),(24,(vI hart)),(25,.v (.bool (xa2.Hart != hart))),(28,.ptr (.L 6) 0 1),(29,(vI xa2.At)),(30,(vI tt.1)),(31,.v (.bool tt.2.1)),(44,.sl (l.map Event.enc)),(45,.ptr (.L 6) 0 10),(46,(vI xa2.Pair)),(47,.fptr (Event.enc xa8) 0),(48,.fptr (Event.enc xa8) 3),(49,(vU xa8.Addr)),(50,.ptr (.L 6) 0 3),(51,(vU xa2.Addr)),(52,.v (.bool (xa8.Addr != xa2.Addr)))] [(6,(Event.enc xa2))] [] 0
def Ol (hart:Int) (l:(List Event)) (xa2:Event) (xa8:Event) (tt:Unit):St:=bg 76 [(4,(vI 4))] [] [] 0
def LC (hart:Int) (l:(List Event)) (xa2:Event) (xa8:Event) (t0:((Int×Bool×Int)⊕Unit)):Ex×St:=match t0 with | .inl tt=>(.ex 2,Oj hart l xa2 xa8 tt) | .inr tt=>(.ret,Ol hart l xa2 xa8 tt)
theorem Om (n:Nat) (hart:Int) (l:(List Event)) (xa2:Event) (xa8:Event):∀ sb r,kM n hart l xa2 xa8 sb=some r→aV Tryz.prog Oi (Jb hart l xa2 xa8 sb) (rk (Jb hart l xa2 xa8) (LC hart l xa2 xa8) r):=by
 intro sb r h
 unfold kM at h
 rcases aD h with ⟨hb1,h⟩ | ⟨hb1,h⟩
 ·
  exact kQ h (nA jb [rV 11 [(59,vF)]]) [wK 4 [0,1,5,22,23,24,25,28,29,30,31,44,45,46,47,48,49,50,51,52] [] 0] Ja (cG rfl kp) (fun z=>(aB hb1 z)) (by kernel_rfl)
 obtain ⟨xb2,gxb2,h⟩:=ab h
 have c242_:=fun (R:Prop) (z:R)=>(aB hb1 (aM Event.enc gxb2 z))
 let e243_:LR:=[rV 11 [(59,vT)]]
 rcases ap h with ⟨hb3,h⟩ | ⟨hb3,h⟩
 ·
  exact kQ h (nA jb (e243_++[(13,⟨[],[],[(64,(Event.enc xb2))],[(68,vT)],[],[],[],[],[]⟩)])) [wK 1 [4] [6] 0] Ja (cG rfl gC) (fun z=>(c242_ _ (aB hb3 z))) (by kernel_rfl)
 have c244_:=fun (R:Prop) (z:R)=>(aB hb3 (aM Event.enc gxb2 z))
 rcases ap h with ⟨hb4,h⟩ | ⟨hb4,h⟩
 ·
  exact kQ h (nA jb (e243_++[(13,⟨[],[],[(64,(Event.enc xb2)),(71,(Event.enc xb2))],[(68,vF),(75,vT)],[],[],[],[],[]⟩)])) [wK 1 [4] [6] 0] Ja (cG rfl gC) (fun z=>(c242_ _ (c244_ _ (aB hb4 z)))) (by kernel_rfl)
 exact kQ h (nA jb (e243_++[(13,⟨[],[],[(64,(Event.enc xb2)),(71,(Event.enc xb2))],[(68,vF),(75,vF)],[],[],[],[],[]⟩)])) [wK 0 [0,1,5,7,22,23,24,25,28,29,30,31,44,45,46,47,48,49,50,51,52] [] 0] Ja dx (fun z=>(c242_ _ (c244_ _ (aB hb4 z)))) (by kernel_rfl)

theorem Aw:ay (ak 54) jb LB=true:=by kernel_rfl
def Jc (hart:Int) (l:(List Event)) (sa:Int):St:=bg 76 [(0,(vI hart)),(1,.sl (l.map Event.enc)),(5,(vI sa))] [] [] 0
def On (hart:Int) (l:(List Event)) (tt:Unit):St:=bg 76 [] [] [] 0
def Oo (hart:Int) (l:(List Event)) (tt:Unit):St:=bg 76 [(4,(vI 4))] [] [] 0
def LD (hart:Int) (l:(List Event)) (t0:(Unit⊕Unit)):Ex×St:=match t0 with | .inl tt=>(.ex 0,On hart l tt) | .inr tt=>(.ret,Oo hart l tt)
theorem Oq (n:Nat) (hart:Int) (l:(List Event)):∀ sa r,kN n hart l sa=some r→aV Tryz.prog LB (Jc hart l sa) (rk (Jc hart l) (LD hart l) r):=by
 intro sa r h
 unfold kN at h
 rcases aD h with ⟨ha1,h⟩ | ⟨ha1,h⟩
 ·
  exact kQ h (nA jb [rV 2 [(10,(vI (l.length:Int))),(11,vF)]]) [wK 2 [] [] 0] Aw (cG rfl kp) (fun z=>(aL Event.enc l (aB ha1 z))) (by kernel_rfl)
 obtain ⟨xa2,gxa2,h⟩:=ab h
 obtain ⟨ya3,gya3,h⟩:=ab h
 have c245_:=fun (R:Prop) (z:R)=>(aL Event.enc l (aB ha1 (aM Event.enc gxa2 (aI (xe n xa2 ya3 gya3) z))))
 let e246_:LR:=[rV 2 [(10,(vI (l.length:Int))),(11,vT)],rR 4 [(16,(Event.enc xa2))]]
 rcases ap h with ⟨ha4,h⟩ | ⟨ha4,h⟩
 ·
  exact kQ h (nA jb (e246_++[bi 5 [(21,vT)] [(19,(vI ya3))]])) [wK 1 [4] [6] 0] Aw (cG rfl gC) (fun z=>(c245_ _ (aB ha4 z))) (by kernel_rfl)
 rcases ap h with ⟨ha5,h⟩ | ⟨ha5,h⟩
 ·
  exact kQ h (nA jb (e246_++[bi 5 [(21,vF),(27,vT)] [(19,(vI ya3))]])) [wK 1 [4] [6] 0] Aw (cG rfl gC) (fun z=>(c245_ _ (aB ha4 (aB ha5 z)))) (by kernel_rfl)
 have c247_:=fun (R:Prop) (z:R)=>(aB ha4 (aB ha5 z))
 rcases ap h with ⟨ha6,h⟩ | ⟨ha6,h⟩
 ·
  exact kQ h (nA jb (e246_++[bi 5 [(21,vF),(27,vF),(32,vT)] [(19,(vI ya3))]])) [wK 1 [4] [6] 0] Aw (cG rfl gC) (fun z=>(c245_ _ (c247_ _ (aB ha6 z)))) (by kernel_rfl)
 let e248_:LR:=[bi 5 [(21,vF),(27,vF),(32,vF)] [(19,(vI ya3))]]
 rcases ap h with ⟨ha7,h⟩ | ⟨ha7,h⟩
 ·
  exact kQ h (nA jb (e246_++(e248_++[rV 7 [(35,vT)]]))) [wK 0 [0,1,5] [6] 0] Aw dx (fun z=>(c245_ _ (c247_ _ (aB ha6 (aB ha7 z))))) (by kernel_rfl)
 obtain ⟨xa8,gxa8,h⟩:=ab h
 have c249_:=fun (R:Prop) (z:R)=>(aB ha6 (aB ha7 (aM Event.enc gxa8 z)))
 let e250_:LR:=[rV 7 [(35,vF)]]
 rcases ap h with ⟨ha9,h⟩ | ⟨ha9,h⟩
 ·
  exact kQ h (nA jb (e246_++(e248_++(e250_++[(8,⟨[],[],[(39,(Event.enc xa8))],[(43,vT)],[],[],[],[],[]⟩)])))) [wK 1 [4] [6] 0] Aw (cG rfl gC) (fun z=>(c245_ _ (c247_ _ (c249_ _ (aB ha9 z))))) (by kernel_rfl)
 have c251_:=fun (R:Prop) (z:R)=>(aB ha9 (aM Event.enc gxa8 z))
 rcases ap h with ⟨ha10,h⟩ | ⟨ha10,h⟩
 ·
  exact kQ h (nA jb (e246_++(e248_++(e250_++[(8,⟨[],[],[(39,(Event.enc xa8)),(47,(Event.enc xa8))],[(43,vF),(53,vT)],[],[],[],[],[]⟩)])))) [wK 1 [4] [6] 0] Aw (cG rfl gC) (fun z=>(c245_ _ (c247_ _ (c249_ _ (c251_ _ (aB ha10 z)))))) (by kernel_rfl)
 obtain ⟨ta11,gta11,h⟩:=ab h
 rcases ta11 with wa12 | wa12
 ·
  exact kQ h ⟨jb,(e246_++(e248_++(e250_++[(8,⟨[],[],[(39,(Event.enc xa8)),(47,(Event.enc xa8))],[(43,vF),(53,vF)],[],[],[],[],[]⟩)]))),[],[(11,(⟨[0,1,5,7,22,23,24,25,28,29,30,31,44,45,46,47,48,49,50,51,52],[],0,[],[],[]⟩,l0,(.ex 2),Oj hart l xa2 xa8 wa12))],[]⟩ [wK 0 [0,1,5] [6] 0] Aw dx (fun z=>(c245_ _ (c247_ _ (c249_ _ (c251_ _ (aB ha10 (aI (eP (pl:=ak 54) (Jb hart l xa2 xa8) (LC hart l xa2 xa8) (Om n hart l xa2 xa8) n _ (.inl wa12) gta11) z))))))) (by kernel_rfl)
 ·
  exact kQ h ⟨jb,(e246_++(e248_++(e250_++[(8,⟨[],[],[(39,(Event.enc xa8)),(47,(Event.enc xa8))],[(43,vF),(53,vF)],[],[],[],[],[]⟩)]))),[],[(11,(⟨[0,1,5,7,22,23,24,25,28,29,30,31,44,45,46,47,48,49,50,51,52],[],0,[],[],[]⟩,l0,.ret,Ol hart l xa2 xa8 wa12))],[]⟩ [wK 1 [4] [] 0] Aw (cG rfl gC) (fun z=>(c245_ _ (c247_ _ (c249_ _ (c251_ _ (aB ha10 (aI (eP (pl:=ak 54) (Jb hart l xa2 xa8) (LC hart l xa2 xa8) (Om n hart l xa2 xa8) n _ (.inr wa12) gta11) z))))))) (by kernel_rfl)

theorem B1 (n:Nat) (hart:Int) (l:(List Event)) (r:Int) (h:lG n hart l=some r):ax Tryz.prog 54 [(vI hart),.sl (l.map Event.enc)] (eF ((vI r))):=by
 unfold lG at h
 obtain ⟨t1,gt1,h⟩:=ab h
 rcases t1 with w2 | w2
 ·
  obtain rfl:=aK h
  exact kP ⟨jb,[],[],[(2,(⟨[0,1,5],[],0,[],[],[]⟩,l0,(.ex 0),On hart l w2))],[]⟩ Hz (fun z=>(aI (eP (pl:=ak 54) (Jc hart l) (LD hart l) (Oq n hart l) n _ (.inl w2) gt1) z)) (by kernel_rfl)
 ·
  obtain rfl:=aK h
  exact kP ⟨jb,[],[],[(2,(⟨[0,1,5],[],0,[],[],[]⟩,l0,.ret,Oo hart l w2))],[]⟩ Hz (fun z=>(aI (eP (pl:=ak 54) (Jc hart l) (LD hart l) (Oq n hart l) n _ (.inr w2) gt1) z)) (by kernel_rfl)

def J3:List (Nat×PT):=[(1,(ew [0,1,2,3,4,5,6,7,8,9,10,11,12,13]))]
theorem LF:ay (ak 59) J3 (aj Tryz.prog 59)=true:=by kernel_rfl
theorem Ax (n:Nat) (d:Deps) (r:Deps) (h:nT n d=some r):ax Tryz.prog 59 [(bD Deps.enc d)] (eF ((bD Deps.enc r))):=by
 unfold nT at h
 obtain ⟨h1,h⟩:=ep h
 obtain ⟨h2,h⟩:=ep h
 obtain ⟨h3,h⟩:=ep h
 obtain rfl:=aK h
 exact kP (nA J3 []) LF (fun z=>(aI (FJ:cA 1 (d.Addr.map eI)=true) (aI (D7:aR (d.Addr.map eI)=true) (aI (lX h1:Nat.ble ((d.Addr.map eI).length * 8) 140737488355328=true) (aI (FJ:cA 1 (d.Data.map eI)=true) (aI (D7:aR (d.Data.map eI)=true) (aI (lX h2:Nat.ble ((d.Data.map eI).length * 8) 140737488355328=true) (aI (FJ:cA 1 (d.Way.map eI)=true) (aI (D7:aR (d.Way.map eI)=true) (aI (lX h3:Nat.ble ((d.Way.map eI).length * 8) 140737488355328=true) z)))))))))) (by kernel_rfl)

def uu:List (Nat×PT):=[]
theorem LG:ay (ak 36) uu (aj Tryz.prog 36)=true:=by kernel_rfl
noncomputable def LH:Code:=sub (aj Tryz.prog 36) [1,1,0,1,0,0]
noncomputable def Ot:Code:=sub LH [1,0,0,1,0,0]
theorem Ou:ay (ak 36) uu Ot=true:=by kernel_rfl
def LI (c:ae) (sb:(List Event)×Int×Int):St:=bg 41 [(1,.ptr (.L 1) 0 0),(3,.mf 0),(4,(vI sb.2.1)),(5,(vI sb.2.2))] [(1,(ae.enc c))] [.arr true 14 (sb.1.map Event.enc)] 0
def Ov (c:ae) (tt:(List Event)×Int):St:=bg 41 [(1,.ptr (.L 1) 0 0),(3,.mf 0),(4,(vI tt.2))] [(1,(ae.enc c))] [.arr true 14 (tt.1.map Event.enc)] 0
def Ow (c:ae) (tt:((List Event)×Int)):Ex×St:=(.ex 2,Ov c tt)
theorem Qn (n:Nat) (c:ae):∀ sb r,lH n c sb=some r→aV Tryz.prog Ot (LI c sb) (rk (LI c) (Ow c) r):=by
 intro sb r h
 unfold lH at h
 obtain ⟨xb1,gxb1,h⟩:=ab h
 have c252_:=fun (R:Prop) (z:R)=>(aM (cY Event.enc) gxb1 (aL Event.enc xb1 z))
 rcases aD h with ⟨hb2,h⟩ | ⟨hb2,h⟩
 ·
  exact kQ h (nA uu [(6,⟨[],[],[(18,[.sl (xb1.map Event.enc)])],[(20,(vI (xb1.length:Int))),(21,vF)],[],[],[],[],[]⟩)]) [wK 4 [1,3,4] [] 1] Ou (cG rfl kp) (fun z=>(c252_ _ (aB hb2 z))) (by kernel_rfl)
 obtain ⟨xb3,gxb3,h⟩:=ab h
 obtain ⟨yb4,gyb4,h⟩:=ab h
 obtain ⟨hb5,h⟩:=ep h
 exact kQ h (nA uu [(6,⟨[],[],[(18,[.sl (xb1.map Event.enc)])],[(20,(vI (xb1.length:Int))),(21,vT)],[],[],[],[],[]⟩),rR 8 [(27,[.sl (xb1.map Event.enc)]),(30,(Event.enc xb3))],bi 9 [] [(34,(bD Deps.enc yb4))],(10,⟨[],[39],[],[],[],[],[(39,(0,(sb.1++([(Event.mk xb3.Hart xb3.At xb3.Kind xb3.Addr xb3.Load xb3.Store xb3.Aq xb3.Rl xb3.Pred xb3.Succ xb3.Pair yb4)]:List Event)).map Event.enc))],[],[]⟩)]) [wK 0 [1,3,4,5] [6] 1] Ou dx (fun z=>(c252_ _ (aB hb2 (aM (cY Event.enc) gxb1 (aM Event.enc gxb3 (aI (Ax n xb3.Deps yb4 gyb4) (aI (rfl:cA 14 [[(vI xb3.Hart),(vI xb3.At),(vI xb3.Kind),(vU xb3.Addr),(vU xb3.Load),(vU xb3.Store),.v (.bool xb3.Aq),.v (.bool xb3.Rl),(vI xb3.Pred),(vI xb3.Succ),(vI xb3.Pair),.sl (yb4.Addr.map eI),.sl (yb4.Data.map eI),.sl (yb4.Way.map eI)]]=true) (aI (rfl:aR [[(vI xb3.Hart),(vI xb3.At),(vI xb3.Kind),(vU xb3.Addr),(vU xb3.Load),(vU xb3.Store),.v (.bool xb3.Aq),.v (.bool xb3.Rl),(vI xb3.Pred),(vI xb3.Succ),(vI xb3.Pair),.sl (yb4.Addr.map eI),.sl (yb4.Data.map eI),.sl (yb4.Way.map eI)]]=true) (aI (jp hb5:Nat.ble (((sb.1.map Event.enc).length + 1) * 152) 140737488355328=true) (aI (lV Event.enc sb.1 ([(Event.mk xb3.Hart xb3.At xb3.Kind xb3.Addr xb3.Load xb3.Store xb3.Aq xb3.Rl xb3.Pred xb3.Succ xb3.Pair yb4)]:List Event)) z)))))))))) (by kernel_rfl)

theorem Ox:ay (ak 36) uu LH=true:=by kernel_rfl
def LJ (c:ae) (sa:(List Event)×Int):St:=bg 41 [(1,.ptr (.L 1) 0 0),(3,.mf 0),(4,(vI sa.2))] [(1,(ae.enc c))] [.arr true 14 (sa.1.map Event.enc)] 0
def Oy (c:ae) (tt:(List Event)):St:=bg 41 [(3,.mf 0)] [] [.arr true 14 (tt.map Event.enc)] 0
def Oz (c:ae) (tt:((List Event))):Ex×St:=(.ex 0,Oy c tt)
theorem Qo (n:Nat) (c:ae):∀ sa r,lI n c sa=some r→aV Tryz.prog LH (LJ c sa) (rk (LJ c) (Oz c) r):=by
 intro sa r h
 unfold lI at h
 rcases aD h with ⟨ha1,h⟩ | ⟨ha1,h⟩
 ·
  exact kQ h (nA uu [rV 3 [(10,(vI (c.Harts.length:Int))),(11,vF)]]) [wK 2 [3] [1] 1] Ox (cG rfl kp) (fun z=>(aL (cY Event.enc) c.Harts (aB ha1 z))) (by kernel_rfl)
 obtain ⟨ta2,gta2,h⟩:=ab h
 exact kQ h ⟨uu,[rV 3 [(10,(vI (c.Harts.length:Int))),(11,vT)]],[],[(6,(⟨[1,3,4,5],[],1,[],[],[]⟩,l0,(.ex 2),Ov c ta2))],[]⟩ [wK 0 [1,3,4] [] 1] Ox dx (fun z=>(aL (cY Event.enc) c.Harts (aB ha1 (aI (eP (pl:=ak 36) (LI c) (Ow c) (Qn n c) n _ ta2 gta2) z)))) (by kernel_rfl)

theorem r9 (n:Nat) (c:ae) (r:(List Event)) (h:jS n c=some r):ax Tryz.prog 36 [(bD ae.enc c)] (eF (.sl (r.map Event.enc))):=by
 unfold jS at h
 obtain ⟨t1,gt1,h⟩:=ab h
 obtain rfl:=aK h
 exact kP ⟨uu,[],[],[(3,(⟨[1,3,4],[],0,[(3,14)],[],[]⟩,l0,(.ex 0),Oy c t1))],[]⟩ LG (fun z=>(aI (eP (pl:=ak 36) (LJ c) (Oz c) (Qo n c) n _ t1 gt1) z)) (by kernel_rfl)

def xf:List (Nat×PT):=[]
theorem HA:ay (ak 70) xf (aj Tryz.prog 70)=true:=by kernel_rfl
noncomputable def OA:Code:=sub (aj Tryz.prog 70) [1,0,1,0,0]
theorem LK:ay (ak 70) xf OA=true:=by kernel_rfl
def Jd (l:(List Cell)) (addr:Int) (sa:Int):St:=bg 24 [(0,.sl (l.map Cell.enc)),(1,(vU addr)),(5,(vI sa))] [] [] 0
def OB (l:(List Cell)) (addr:Int) (tt:Unit):St:=bg 24 [] [] [] 0
def OC (l:(List Cell)) (addr:Int) (tt:Int):St:=bg 24 [(4,(vU tt))] [] [] 0
def LL (l:(List Cell)) (addr:Int) (t0:(Unit⊕Int)):Ex×St:=match t0 with | .inl tt=>(.ex 0,OB l addr tt) | .inr tt=>(.ret,OC l addr tt)
theorem OD (n:Nat) (l:(List Cell)) (addr:Int):∀ sa r,kw n l addr sa=some r→aV Tryz.prog OA (Jd l addr sa) (rk (Jd l addr) (LL l addr) r):=by
 intro sa r h
 unfold kw at h
 rcases aD h with ⟨ha1,h⟩ | ⟨ha1,h⟩
 ·
  exact kQ h (nA xf [rV 2 [(8,(vI (l.length:Int))),(9,vF)]]) [wK 2 [] [] 0] LK (cG rfl kp) (fun z=>(aL Cell.enc l (aB ha1 z))) (by kernel_rfl)
 obtain ⟨xa2,gxa2,h⟩:=ab h
 have c253_:=fun (R:Prop) (z:R)=>(aL Cell.enc l (aB ha1 (aM Cell.enc gxa2 z)))
 rcases aD h with ⟨ha3,h⟩ | ⟨ha3,h⟩
 ·
  exact kQ h (nA xf [rV 2 [(8,(vI (l.length:Int))),(9,vT)],(4,⟨[],[],[(14,(Cell.enc xa2))],[(18,vF)],[],[],[],[],[]⟩)]) [wK 0 [0,1,5] [] 0] LK dx (fun z=>(c253_ _ (aB ha3 z))) (by kernel_rfl)
 exact kQ h (nA xf [rV 2 [(8,(vI (l.length:Int))),(9,vT)],(4,⟨[],[],[(14,(Cell.enc xa2))],[(18,vT)],[],[],[],[],[]⟩),rR 5 [(21,(Cell.enc xa2))]]) [wK 1 [4] [] 0] LK (cG rfl gC) (fun z=>(c253_ _ (aB ha3 (aM Cell.enc gxa2 z)))) (by kernel_rfl)

theorem yb (n:Nat) (l:(List Cell)) (addr:Int) (r:Int) (h:kD n l addr=some r):ax Tryz.prog 70 [.sl (l.map Cell.enc),(vU addr)] (eF ((vU r))):=by
 unfold kD at h
 obtain ⟨t1,gt1,h⟩:=ab h
 rcases t1 with w2 | w2
 ·
  obtain rfl:=aK h
  exact kP ⟨xf,[],[],[(2,(⟨[0,1,5],[],0,[],[],[]⟩,l0,(.ex 0),OB l addr w2))],[]⟩ HA (fun z=>(aI (eP (pl:=ak 70) (Jd l addr) (LL l addr) (OD n l addr) n _ (.inl w2) gt1) z)) (by kernel_rfl)
 ·
  obtain rfl:=aK h
  exact kP ⟨xf,[],[],[(2,(⟨[0,1,5],[],0,[],[],[]⟩,l0,.ret,OC l addr w2))],[]⟩ HA (fun z=>(aI (eP (pl:=ak 70) (Jd l addr) (LL l addr) (OD n l addr) n _ (.inr w2) gt1) z)) (by kernel_rfl)

def r_:List (Nat×PT):=[(1,(ew [0,1,2,3,4,5,6,7,8,9,10,11])),(5,(ew [0,1,2,3,4,5,6,7,8])),(8,(ew [0,1,2,3,4,5,6,7,8,9,10,11,12,13,14,15,16,17,18,19,20,21,22,23,24,25]))]
theorem pm:ay (ak 55) r_ (aj Tryz.prog 55)=true:=by kernel_rfl
theorem Ay (n:Nat) (c:ae) (all:(List Event)) (n_:Int) (r:Bool) (h:di n c all n_=some r):ax Tryz.prog 55 [(bD ae.enc c),.sl (all.map Event.enc),(vI n_)] (eF (.v (.bool r))):=by
 unfold di at h
 obtain ⟨x1,gx1,h⟩:=ab h
 obtain ⟨x2,gx2,h⟩:=ab h
 obtain ⟨y3,gy3,h⟩:=ab h
 have c254_:=fun (R:Prop) (z:R)=>(aM Event.enc gx1 (aM eI gx2 (aI (mm n x1 y3 gy3) z)))
 let e255_:LR:=[rR 1 [(11,(Event.enc x1)),(16,[(vI x2)])]]
 rcases ap h with ⟨h4,h⟩ | ⟨h4,h⟩
 ·
  obtain rfl:=aK h
  exact kP (nA r_ (e255_++[bi 2 [(18,vT)] [(20,.v (.bool y3))]])) pm (fun z=>(c254_ _ (aB h4 z))) (by kernel_rfl)
 let e256_:LR:=[bi 2 [(18,vF)] [(20,.v (.bool y3))]]
 rcases ap h with ⟨h5,h⟩ | ⟨h5,h⟩
 ·
  obtain ⟨y6,gy6,h⟩:=ab h
  obtain rfl:=aK h
  exact kP (nA r_ (e255_++(e256_++[rV 4 [(24,vT)],bi 5 [] [(33,(vU y6))]]))) pm (fun z=>(c254_ _ (aB h4 (aB h5 (aI (yb n c.First x1.Addr y6 gy6) z))))) (by kernel_rfl)
 have c257_:=fun (R:Prop) (z:R)=>(aB h4 (aB h5 z))
 let e258_:LR:=[rV 4 [(24,vF)]]
 rcases ap h with ⟨h6,h⟩ | ⟨h6,h⟩
 ·
  obtain rfl:=aK h
  exact kP (nA r_ (e255_++(e256_++(e258_++[rV 6 [(38,vT)]])))) pm (fun z=>(c254_ _ (c257_ _ (aB h6 z)))) (by kernel_rfl)
 have c259_:=fun (R:Prop) (z:R)=>(aB h6 (aL Event.enc all z))
 rcases ap h with ⟨h7,h⟩ | ⟨h7,h⟩
 ·
  obtain rfl:=aK h
  exact kP (nA r_ (e255_++(e256_++(e258_++[rV 6 [(38,vF),(41,(vI (all.length:Int))),(44,vT)]])))) pm (fun z=>(c254_ _ (c257_ _ (c259_ _ (aB h7 z))))) (by kernel_rfl)
 rcases ap h with ⟨h8,h⟩ | ⟨h8,h⟩
 ·
  obtain rfl:=aK h
  exact kP (nA r_ (e255_++(e256_++(e258_++[rV 6 [(35,vT),(38,vF),(41,(vI (all.length:Int))),(44,vF)]])))) pm (fun z=>(c254_ _ (c257_ _ (c259_ _ (aB h7 (aB h8 z)))))) (by kernel_rfl)
 obtain ⟨x9,gx9,h⟩:=ab h
 obtain ⟨y10,gy10,h⟩:=ab h
 have c260_:=fun (R:Prop) (z:R)=>(aB h7 (aB h8 (aM Event.enc gx9 (aI (f9 n x9 y10 gy10) z))))
 let e261_:LR:=[rV 6 [(35,vF),(38,vF),(41,(vI (all.length:Int))),(44,vF)]]
 rcases aD h with ⟨h11,h⟩ | ⟨h11,h⟩
 ·
  obtain rfl:=aK h
  exact kP (nA r_ (e255_++(e256_++(e258_++(e261_++[(8,⟨[],[],[(51,(Event.enc x9))],[(54,vF)],[(53,.v (.bool y10))],[],[],[],[]⟩)]))))) pm (fun z=>(c254_ _ (c257_ _ (c259_ _ (c260_ _ (aB h11 z)))))) (by kernel_rfl)
 have c262_:=fun (R:Prop) (z:R)=>(aB h11 (aM Event.enc gx9 z))
 rcases aD h with ⟨h12,h⟩ | ⟨h12,h⟩
 ·
  obtain rfl:=aK h
  exact kP (nA r_ (e255_++(e256_++(e258_++(e261_++[(8,⟨[],[],[(51,(Event.enc x9)),(57,(Event.enc x9))],[(54,vT),(64,vF)],[(53,.v (.bool y10))],[],[],[],[]⟩)]))))) pm (fun z=>(c254_ _ (c257_ _ (c259_ _ (c260_ _ (c262_ _ (aB h12 z))))))) (by kernel_rfl)
 obtain rfl:=aK h
 exact kP (nA r_ (e255_++(e256_++(e258_++(e261_++[(8,⟨[],[],[(51,(Event.enc x9)),(57,(Event.enc x9)),(67,(Event.enc x9))],[(54,vT),(64,vT)],[(53,.v (.bool y10))],[],[],[],[]⟩)]))))) pm (fun z=>(c254_ _ (c257_ _ (c259_ _ (c260_ _ (c262_ _ (aB h12 (aM Event.enc gx9 z)))))))) (by kernel_rfl)

def e_:List (Nat×PT):=[]
theorem ny:ay (ak 28) e_ (aj Tryz.prog 28)=true:=by kernel_rfl
noncomputable def OE:Code:=sub (aj Tryz.prog 28) [1,1,1,0,1,0,0]
noncomputable def OF:Code:=sub (aj Tryz.prog 28) [1,1,1,1,1,1,1,0,1,0,0]
noncomputable def OG:Code:=sub (aj Tryz.prog 28) [1,1,1,1,1,1,1,1,1,0,1,0,0]
theorem Je:ay (ak 28) e_ OE=true:=by kernel_rfl
def Jf (c:ae) (sa:Int×Int):St:=bg 121 [(1,.ptr (.L 1) 0 0),(3,(vI sa.1)),(4,(vI sa.2))] [(1,(ae.enc c))] [] 0
def Fx (c:ae) (tt:Int):St:=bg 121 [(1,.ptr (.L 1) 0 0),(3,(vI tt))] [(1,(ae.enc c))] [] 0
def OH (c:ae) (tt:Unit):St:=bg 121 [(2,(vI 2))] [] [] 0
def LM (c:ae) (t0:(Int⊕Unit)):Ex×St:=match t0 with | .inl tt=>(.ex 0,Fx c tt) | .inr tt=>(.ret,OH c tt)
theorem OI (n:Nat) (c:ae):∀ sa r,iB n c sa=some r→aV Tryz.prog OE (Jf c sa) (rk (Jf c) (LM c) r):=by
 intro sa r h
 unfold iB at h
 rcases aD h with ⟨ha1,h⟩ | ⟨ha1,h⟩
 ·
  exact kQ h (nA e_ [rV 5 [(30,(vI (c.Harts.length:Int))),(31,vF)]]) [wK 2 [1,3] [] 0] Je (cG rfl kp) (fun z=>(aL (cY Event.enc) c.Harts (aB ha1 z))) (by kernel_rfl)
 obtain ⟨xa2,gxa2,h⟩:=ab h
 have c263_:=fun (R:Prop) (z:R)=>(aL (cY Event.enc) c.Harts (aB ha1 (aM (cY Event.enc) gxa2 (aL Event.enc xa2 z))))
 let e264_:LR:=[rV 5 [(30,(vI (c.Harts.length:Int))),(31,vT)],(7,⟨[],[],[(38,[.sl (xa2.map Event.enc)])],[(40,(vI (xa2.length:Int)))],[],[],[],[],[]⟩)]
 rcases ap h with ⟨ha3,h⟩ | ⟨ha3,h⟩
 ·
  exact kQ h (nA e_ (e264_++[rV 8 [(44,vT)]])) [wK 1 [2] [1] 0] Je (cG rfl gC) (fun z=>(c263_ _ (aB ha3 z))) (by kernel_rfl)
 obtain ⟨ya4,gya4,h⟩:=ab h
 have c265_:=fun (R:Prop) (z:R)=>(aB ha3 (aM (cY Event.enc) gxa2 (aI (B1 n sa.2 xa2 ya4 gya4) z)))
 rcases aD h with ⟨ha5,h⟩ | ⟨ha5,h⟩
 ·
  exact kQ h (nA e_ (e264_++[(8,⟨[],[],[(49,[.sl (xa2.map Event.enc)])],[(44,vF),(53,vF)],[(51,(vI ya4))],[],[],[],[]⟩)])) [wK 0 [1,3,4] [] 0] Je dx (fun z=>(c263_ _ (c265_ _ (aB ha5 z)))) (by kernel_rfl)
 exact kQ h (nA e_ (e264_++[(8,⟨[],[],[(49,[.sl (xa2.map Event.enc)])],[(44,vF),(53,vT)],[(51,(vI ya4))],[],[],[],[]⟩)])) [wK 1 [2] [1] 0] Je (cG rfl gC) (fun z=>(c263_ _ (c265_ _ (aB ha5 z)))) (by kernel_rfl)

theorem Jg:ay (ak 28) e_ OF=true:=by kernel_rfl
def Jh (c:ae) (w6:Int) (y7:(List Event)) (sa:Int×Int):St:=bg 121 [(1,.ptr (.L 1) 0 0),(3,(vI w6)),(5,.sl (y7.map Event.enc)),(6,(vI sa.1)),(7,(vI sa.2))] [(1,(ae.enc c))] [] 0
def Ji (c:ae) (w6:Int) (y7:(List Event)) (tt:Int):St:=bg 121 [(1,.ptr (.L 1) 0 0),(3,(vI w6)),(5,.sl (y7.map Event.enc)),(6,(vI tt))] [(1,(ae.enc c))] [] 0
def OJ (c:ae) (w6:Int) (y7:(List Event)) (tt:Unit):St:=bg 121 [(2,(vI 2))] [] [] 0
def LN (c:ae) (w6:Int) (y7:(List Event)) (t0:(Int⊕Unit)):Ex×St:=match t0 with | .inl tt=>(.ex 2,Ji c w6 y7 tt) | .inr tt=>(.ret,OJ c w6 y7 tt)
theorem OL (n:Nat) (c:ae) (w6:Int) (y7:(List Event)):∀ sa r,iC n c w6 y7 sa=some r→aV Tryz.prog OF (Jh c w6 y7 sa) (rk (Jh c w6 y7) (LN c w6 y7) r):=by
 intro sa r h
 unfold iC at h
 rcases aD h with ⟨ha1,h⟩ | ⟨ha1,h⟩
 ·
  exact kQ h (nA e_ [rV 15 [(63,vF)]]) [wK 4 [1,3,5,6] [] 0] Jg (cG rfl kp) (fun z=>(aB ha1 z)) (by kernel_rfl)
 obtain ⟨ya2,gya2,h⟩:=ab h
 have c266_:=fun (R:Prop) (z:R)=>(aB ha1 (aI (Ay n c y7 sa.2 ya2 gya2) z))
 let e267_:LR:=[rV 15 [(63,vT)]]
 rcases ap h with ⟨ha3,h⟩ | ⟨ha3,h⟩
 ·
  exact kQ h (nA e_ (e267_++[bi 17 [(70,vT)] [(69,.v (.bool ya2))]])) [wK 1 [2] [1] 0] Jg (cG rfl gC) (fun z=>(c266_ _ (aB ha3 z))) (by kernel_rfl)
 obtain ⟨xa4,gxa4,h⟩:=ab h
 obtain ⟨ya5,gya5,h⟩:=ab h
 have c268_:=fun (R:Prop) (z:R)=>(aB ha3 (aM Event.enc gxa4 (aI (lv n xa4 ya5 gya5) z)))
 rcases ap h with ⟨ha6,h⟩ | ⟨ha6,h⟩
 ·
  exact kQ h (nA e_ (e267_++[bi 17 [(70,vF)] [(69,.v (.bool ya2))],(19,⟨[],[],[(73,(Event.enc xa4))],[(75,vT)],[(75,.v (.bool ya5))],[],[],[],[]⟩)])) [wK 0 [1,3,5,6,7] [] 0] Jg dx (fun z=>(c266_ _ (c268_ _ (aB ha6 z)))) (by kernel_rfl)
 exact kQ h (nA e_ (e267_++[bi 17 [(70,vF)] [(69,.v (.bool ya2))],(19,⟨[],[],[(73,(Event.enc xa4))],[(75,vF)],[(75,.v (.bool ya5))],[],[],[],[]⟩)])) [wK 0 [1,3,5,6,7] [] 0] Jg dx (fun z=>(c266_ _ (c268_ _ (aB ha6 z)))) (by kernel_rfl)

theorem Fy:ay (ak 28) e_ OG=true:=by kernel_rfl
def Jj (c:ae) (w6:Int) (y7:(List Event)) (w10:Int) (sa:(List Bool)×Int):St:=bg 121 [(1,.ptr (.L 1) 0 0),(3,(vI w6)),(5,.sl (y7.map Event.enc)),(6,(vI w10)),(8,.mf 0),(9,(vI sa.2))] [(1,(ae.enc c))] [.arr true 1 (sa.1.map eo)] 0
def LO (c:ae) (w6:Int) (y7:(List Event)) (w10:Int) (tt:Unit):St:=bg 121 [(1,.ptr (.L 1) 0 0),(6,(vI w10))] [(1,(ae.enc c))] [] 0
def OM (c:ae) (w6:Int) (y7:(List Event)) (w10:Int) (tt:Unit):St:=bg 121 [(2,(vI 2))] [] [] 0
def LQ (c:ae) (w6:Int) (y7:(List Event)) (w10:Int) (t0:(Unit⊕Unit)):Ex×St:=match t0 with | .inl tt=>(.ex 4,LO c w6 y7 w10 tt) | .inr tt=>(.ret,OM c w6 y7 w10 tt)
theorem ON (n:Nat) (c:ae) (w6:Int) (y7:(List Event)) (w10:Int):∀ sa r,iD n c w6 y7 w10 sa=some r→aV Tryz.prog OG (Jj c w6 y7 w10 sa) (rk (Jj c w6 y7 w10) (LQ c w6 y7 w10) r):=by
 intro sa r h
 unfold iD at h
 rcases aD h with ⟨ha1,h⟩ | ⟨ha1,h⟩
 ·
  exact kQ h (nA e_ [rV 23 [(83,(vI (c.Order.length:Int))),(84,vF)]]) [wK 6 [1,6] [] 0] Fy (cG rfl kp) (fun z=>(aL eI c.Order (aB ha1 z))) (by kernel_rfl)
 obtain ⟨xa2,gxa2,h⟩:=ab h
 have c269_:=fun (R:Prop) (z:R)=>(aL eI c.Order (aB ha1 (aM eI gxa2 z)))
 let e270_:LR:=[rV 23 [(83,(vI (c.Order.length:Int))),(84,vT)],rR 25 [(90,[(vI xa2)])]]
 rcases ap h with ⟨ha3,h⟩ | ⟨ha3,h⟩
 ·
  exact kQ h (nA e_ (e270_++[rV 26 [(94,vT)]])) [wK 1 [2] [1] 0] Fy (cG rfl gC) (fun z=>(c269_ _ (aB ha3 z))) (by kernel_rfl)
 rcases ap h with ⟨ha4,h⟩ | ⟨ha4,h⟩
 ·
  exact kQ h (nA e_ (e270_++[rV 26 [(94,vF),(99,vT)]])) [wK 1 [2] [1] 0] Fy (cG rfl gC) (fun z=>(c269_ _ (aB ha3 (aB ha4 z)))) (by kernel_rfl)
 obtain ⟨xa5,gxa5,h⟩:=ab h
 have c271_:=fun (R:Prop) (z:R)=>(aB ha3 (aB ha4 (aM eo gxa5 (aN eo gxa5 z))))
 rcases ap h with ⟨ha6,h⟩ | ⟨ha6,h⟩
 ·
  exact kQ h (nA e_ (e270_++[(26,⟨[],[],[(102,[.v (.bool xa5)]),(103,[.v (.bool xa5)])],[(94,vF),(99,vF),(105,vT)],[],[],[],[],[]⟩)])) [wK 1 [2] [1] 0] Fy (cG rfl gC) (fun z=>(c269_ _ (c271_ _ (aB ha6 z)))) (by kernel_rfl)
 obtain ⟨xa7,gxa7,h⟩:=ab h
 obtain ⟨ya8,gya8,h⟩:=ab h
 have c272_:=fun (R:Prop) (z:R)=>(aB ha6 (aM Event.enc gxa7 (aI (lv n xa7 ya8 gya8) z)))
 rcases ap h with ⟨ha9,h⟩ | ⟨ha9,h⟩
 ·
  exact kQ h (nA e_ (e270_++[(26,⟨[],[],[(102,[.v (.bool xa5)]),(103,[.v (.bool xa5)]),(108,(Event.enc xa7))],[(94,vF),(99,vF),(105,vF),(112,vT)],[(110,.v (.bool ya8))],[],[],[],[]⟩)])) [wK 1 [2] [1] 0] Fy (cG rfl gC) (fun z=>(c269_ _ (c271_ _ (c272_ _ (aB ha9 z))))) (by kernel_rfl)
 exact kQ h (nA e_ (e270_++[(26,⟨[],[],[(102,[.v (.bool xa5)]),(103,[.v (.bool xa5)]),(108,(Event.enc xa7))],[(94,vF),(99,vF),(105,vF),(112,vF)],[(110,.v (.bool ya8))],[],[],[],[]⟩),(28,⟨[],[],[(115,[.v (.bool xa5)]),(1000115,[.v (.bool xa5)])],[],[],[],[(1000115,(0,(sa.1.set (xa2).toNat true).map eo))],[],[]⟩)])) [wK 0 [1,3,5,6,8,9] [] 1] Fy dx (fun z=>(c269_ _ (c271_ _ (c272_ _ (aB ha9 (aM eo gxa5 (aN eo gxa5 (aI (fO eo sa.1 ((xa2).toNat) true) z)))))))) (by kernel_rfl)

theorem qg (n:Nat) (c:ae) (r:Int) (h:fG n c=some r):ax Tryz.prog 28 [(bD ae.enc c)] (eF ((vI r))):=by
 unfold fG at h
 obtain ⟨y1,gy1,h⟩:=ab h
 have c273_:=fun (R:Prop) (z:R)=>(aI (ya n c.First y1 gy1) z)
 rcases ap h with ⟨h2,h⟩ | ⟨h2,h⟩
 ·
  obtain rfl:=aK h
  exact kP (nA e_ [bi 1 [(15,vT)] [(13,.v (.bool y1))]]) ny (fun z=>(c273_ _ (aB h2 z))) (by kernel_rfl)
 have c274_:=fun (R:Prop) (z:R)=>(aB h2 (aL (cY Event.enc) c.Harts z))
 rcases ap h with ⟨h3,h⟩ | ⟨h3,h⟩
 ·
  obtain rfl:=aK h
  exact kP (nA e_ [bi 1 [(15,vF),(18,(vI (c.Harts.length:Int))),(21,vT)] [(13,.v (.bool y1))]]) ny (fun z=>(c273_ _ (c274_ _ (aB h3 z)))) (by kernel_rfl)
 have c275_:=fun (R:Prop) (z:R)=>(aB h3 (aL (cY Event.enc) c.Harts z))
 rcases ap h with ⟨h4,h⟩ | ⟨h4,h⟩
 ·
  obtain rfl:=aK h
  exact kP (nA e_ [bi 1 [(15,vF),(18,(vI (c.Harts.length:Int))),(21,vF),(24,(vI (c.Harts.length:Int))),(26,vT)] [(13,.v (.bool y1))]]) ny (fun z=>(c273_ _ (c274_ _ (c275_ _ (aB h4 z))))) (by kernel_rfl)
 obtain ⟨t5,gt5,h⟩:=ab h
 let e276_:LR:=[bi 1 [(15,vF),(18,(vI (c.Harts.length:Int))),(21,vF),(24,(vI (c.Harts.length:Int))),(26,vF)] [(13,.v (.bool y1))]]
 rcases t5 with w6 | w6
 ·
  obtain ⟨y7,gy7,h⟩:=ab h
  have c277_:=fun (R:Prop) (z:R)=>(aB h4 (aI (eP (pl:=ak 28) (Jf c) (LM c) (OI n c) n _ (.inl w6) gt5) (aI (r9 n c y7 gy7) (aL eI c.From z))))
  let e278_:LR:=[bi 10 [] [(55,.sl (y7.map Event.enc))]]
  rcases ap h with ⟨h8,h⟩ | ⟨h8,h⟩
  ·
   obtain rfl:=aK h
   exact kP ⟨e_,(e276_++(e278_++[rV 11 [(58,(vI (c.From.length:Int))),(60,vT)]])),[],[(5,(⟨[1,3,4],[],0,[],[],[]⟩,l0,(.ex 0),Fx c w6))],[]⟩ ny (fun z=>(c273_ _ (c274_ _ (c275_ _ (c277_ _ (aB h8 z)))))) (by kernel_rfl)
  obtain ⟨t9,gt9,h⟩:=ab h
  let e279_:LR:=[rV 11 [(58,(vI (c.From.length:Int))),(60,vF)]]
  rcases t9 with w10 | w10
  ·
   obtain ⟨h11,h⟩:=ep h
   obtain ⟨t12,gt12,h⟩:=ab h
   have c280_:=fun (R:Prop) (z:R)=>(aB h8 (aI (eP (pl:=ak 28) (Jh c w6 y7) (LN c w6 y7) (OL n c w6 y7) n _ (.inl w10) gt9) (aI h11 (aI (lW eo _ false:List.replicate (w6).toNat [vF]=(List.replicate (w6).toNat false).map eo) z))))
   let e281_:LR:=[(21,⟨[],[79],[],[],[],[],[(79,(0,(List.replicate (w6).toNat false).map eo))],[],[]⟩)]
   rcases t12 with w13 | w13
   ·
    have c282_:=fun (R:Prop) (z:R)=>(aI (eP (pl:=ak 28) (Jj c w6 y7 w10) (LQ c w6 y7 w10) (ON n c w6 y7 w10) n _ (.inl w13) gt12) (aL eI c.Order z))
    rcases ap h with ⟨h14,h⟩ | ⟨h14,h⟩
    ·
     obtain rfl:=aK h
     exact kP ⟨e_,(e276_++(e278_++(e279_++(e281_++[rV 29 [(118,(vI (c.Order.length:Int))),(120,vT)]])))),[],[(5,(⟨[1,3,4],[],0,[],[],[]⟩,l0,(.ex 0),Fx c w6)),(15,(⟨[1,3,5,6,7],[],0,[],[],[]⟩,l0,(.ex 2),Ji c w6 y7 w10)),(23,(⟨[1,3,5,6,8,9],[],1,[],[],[]⟩,l0,(.ex 4),LO c w6 y7 w10 w13))],[]⟩ ny (fun z=>(c273_ _ (c274_ _ (c275_ _ (c277_ _ (c280_ _ (c282_ _ (aB h14 z)))))))) (by kernel_rfl)
    obtain rfl:=aK h
    exact kP ⟨e_,(e276_++(e278_++(e279_++(e281_++[rV 29 [(118,(vI (c.Order.length:Int))),(120,vF)]])))),[],[(5,(⟨[1,3,4],[],0,[],[],[]⟩,l0,(.ex 0),Fx c w6)),(15,(⟨[1,3,5,6,7],[],0,[],[],[]⟩,l0,(.ex 2),Ji c w6 y7 w10)),(23,(⟨[1,3,5,6,8,9],[],1,[],[],[]⟩,l0,(.ex 4),LO c w6 y7 w10 w13))],[]⟩ ny (fun z=>(c273_ _ (c274_ _ (c275_ _ (c277_ _ (c280_ _ (c282_ _ (aB h14 z)))))))) (by kernel_rfl)
   ·
    obtain rfl:=aK h
    exact kP ⟨e_,(e276_++(e278_++(e279_++(e281_++[])))),[],[(5,(⟨[1,3,4],[],0,[],[],[]⟩,l0,(.ex 0),Fx c w6)),(15,(⟨[1,3,5,6,7],[],0,[],[],[]⟩,l0,(.ex 2),Ji c w6 y7 w10)),(23,(⟨[1,3,5,6,8,9],[],1,[],[],[]⟩,l0,.ret,OM c w6 y7 w10 w13))],[]⟩ ny (fun z=>(c273_ _ (c274_ _ (c275_ _ (c277_ _ (c280_ _ (aI (eP (pl:=ak 28) (Jj c w6 y7 w10) (LQ c w6 y7 w10) (ON n c w6 y7 w10) n _ (.inr w13) gt12) z))))))) (by kernel_rfl)
  ·
   obtain rfl:=aK h
   exact kP ⟨e_,(e276_++(e278_++(e279_++[]))),[],[(5,(⟨[1,3,4],[],0,[],[],[]⟩,l0,(.ex 0),Fx c w6)),(15,(⟨[1,3,5,6,7],[],0,[],[],[]⟩,l0,.ret,OJ c w6 y7 w10))],[]⟩ ny (fun z=>(c273_ _ (c274_ _ (c275_ _ (c277_ _ (aB h8 (aI (eP (pl:=ak 28) (Jh c w6 y7) (LN c w6 y7) (OL n c w6 y7) n _ (.inr w10) gt9) z))))))) (by kernel_rfl)
 ·
  obtain rfl:=aK h
  exact kP ⟨e_,(e276_++[]),[],[(5,(⟨[1,3,4],[],0,[],[],[]⟩,l0,.ret,OH c w6))],[]⟩ ny (fun z=>(c273_ _ (c274_ _ (c275_ _ (aB h4 (aI (eP (pl:=ak 28) (Jf c) (LM c) (OI n c) n _ (.inr w6) gt5) z)))))) (by kernel_rfl)

def HB:List (Nat×PT):=[]
theorem HC:ay (ak 15) HB (aj Tryz.prog 15)=true:=by kernel_rfl
theorem B2 (n:Nat) (c:ae) (r:(List Event)) (h:uZ n c=some r):ax Tryz.prog 15 [(bD ae.enc c)] (eF (.sl (r.map Event.enc))):=by
 unfold uZ at h
 obtain ⟨y1,gy1,h⟩:=ab h
 have c283_:=fun (R:Prop) (z:R)=>(aI (qg n c y1 gy1) z)
 rcases ap h with ⟨h2,h⟩ | ⟨h2,h⟩
 ·
  obtain rfl:=aK h
  exact kP (nA HB [bi 1 [(5,vT)] [(4,(vI y1))]]) HC (fun z=>(c283_ _ (aB h2 (aG.nil:aG .nilsl (.sl (([]:List Event).map Event.enc)))))) (by kernel_rfl)
 obtain ⟨y3,gy3,h⟩:=ab h
 obtain rfl:=aK h
 exact kP (nA HB [bi 1 [(5,vF)] [(4,(vI y1))],bi 3 [] [(7,.sl (y3.map Event.enc))]]) HC (fun z=>(c283_ _ (aB h2 (aI (r9 n c y3 gy3) z)))) (by kernel_rfl)

end
end Go.Proofs.YtomahedcdcnnhaaGreatDoor
