/- What the functions compute, they compute: printed by a program, path by path. No conditions. -/
import Derived.Test.YtomahedcdcnnhaaGreatDoorP2
import Derived.KernelRfl
namespace Go.Proofs.YtomahedcdcnnhaaGreatDoor
open Go A
set_option linter.unusedVariables false
set_option maxRecDepth 100000
set_option maxHeartbeats 0
section
variable (pc:Nat→List AV→(AV→Prop)→Prop) (sc:Nat→List AV→List Ob→(AV→List Ob→Prop)→Prop) (lp:bz→Code→St→(Ex→St→Prop)→Prop) (cd:yb)

def iA:List (Nat×PT):=[(12,(ei [0,1,2,3,4,5,6,7,8])),(16,(ei [0,1,2,3,4,5,6,7,8,9,10,11,12,13,14,15,16,17,18,19,20,21,22,23,24,25,26]))]
theorem IU:ax (al 41) iA (aj Tryz.prog 41)=true:=by kernel_rfl
noncomputable def Nn:Code:=sub (aj Tryz.prog 41) [1,0,1,0,0]
noncomputable def P9:Code:=sub Nn [1,1,0,0,1,1,1,1,1,1,0,0]
theorem IV:ax (al 41) iA P9=true:=by kernel_rfl
def zw (oA:(List Cell)) (oB:(List (List Event))) (oC:(List Int)) (oD:(List Int)) (oE:(List (Int×(List Int)))) (oF:(List Event)) (oG:(List Int)) (xa2:Event) (sb:Int×Int×Int×Int×(List Int)×Int×Int):St:=ba 114 [(0,.ptr (.O 2) 0 0),(2,.ptr (.L 2) 0 0),(3,(vI sb.2.1)),(4,.ptr (.L 4) 0 0),(5,(vI sb.2.2.1)),(6,(vI sb.2.2.2.1)),(14,.sl (oF.map Event.enc)),(15,(vI (oF.length:Int))),(16,(vI sb.1)),(68,.sl (sb.2.2.2.2.1.map eI)),(69,(vI sb.2.2.2.2.2.1)),(70,(vI sb.2.2.2.2.2.2))] [(4,(Event.enc xa2)),(2,[vF,(vI 0),(vI 0),(vI 0)])] [.arr true 4 [[.sl (oA.map Cell.enc),.sl (oB.map (dA Event.enc)),.sl (oC.map eI),.sl (oD.map eI)]],.mapo true (oE.map (dB (aS .u64) (eN eI))),.arr false 4 [[.ptr (.O 0) 0 0,.sl (oF.map Event.enc),.sl (oG.map eI),.mp 1]],.arr false 1 [[.fn 39 [.ptr (.O 2) 0 0] []],[.fn 40 [.ptr (.O 2) 0 0] []],[.fn 41 [.ptr (.O 2) 0 0] []]]] 4
def IW (oA:(List Cell)) (oB:(List (List Event))) (oC:(List Int)) (oD:(List Int)) (oE:(List (Int×(List Int)))) (oF:(List Event)) (oG:(List Int)) (xa2:Event) (tt:Int):St:=ba 114 [(0,.ptr (.O 2) 0 0),(2,.ptr (.L 2) 0 0),(14,.sl (oF.map Event.enc)),(15,(vI (oF.length:Int))),(16,(vI tt))] [(2,[vF,(vI 0),(vI 0),(vI 0)])] [.arr true 4 [[.sl (oA.map Cell.enc),.sl (oB.map (dA Event.enc)),.sl (oC.map eI),.sl (oD.map eI)]],.mapo true (oE.map (dB (aS .u64) (eN eI))),.arr false 4 [[.ptr (.O 0) 0 0,.sl (oF.map Event.enc),.sl (oG.map eI),.mp 1]],.arr false 1 [[.fn 39 [.ptr (.O 2) 0 0] []],[.fn 40 [.ptr (.O 2) 0 0] []],[.fn 41 [.ptr (.O 2) 0 0] []]]] 4
def IX (oA:(List Cell)) (oB:(List (List Event))) (oC:(List Int)) (oD:(List Int)) (oE:(List (Int×(List Int)))) (oF:(List Event)) (oG:(List Int)) (xa2:Event) (tt:Bool×Int×Int×Int):St:=ba 114 [(2,.ptr (.L 2) 0 0)] [(2,[.v (.bool tt.1),(vI tt.2.1),(vI tt.2.2.1),(vI tt.2.2.2)])] [.arr true 4 [[.sl (oA.map Cell.enc),.sl (oB.map (dA Event.enc)),.sl (oC.map eI),.sl (oD.map eI)]],.mapo true (oE.map (dB (aS .u64) (eN eI))),.arr false 4 [[.ptr (.O 0) 0 0,.sl (oF.map Event.enc),.sl (oG.map eI),.mp 1]],.arr false 1 [[.fn 39 [.ptr (.O 2) 0 0] []],[.fn 40 [.ptr (.O 2) 0 0] []],[.fn 41 [.ptr (.O 2) 0 0] []]]] 4
def BJ (oA:(List Cell)) (oB:(List (List Event))) (oC:(List Int)) (oD:(List Int)) (oE:(List (Int×(List Int)))) (oF:(List Event)) (oG:(List Int)) (xa2:Event) (t0:(Int⊕(Bool×Int×Int×Int))):Ex×St:=match t0 with | .inl tt=>(.ex 2,IW oA oB oC oD oE oF oG xa2 tt) | .inr tt=>(.ret,IX oA oB oC oD oE oF oG xa2 tt)
theorem De (n:Nat) (oA:(List Cell)) (oB:(List (List Event))) (oC:(List Int)) (oD:(List Int)) (oE:(List (Int×(List Int)))) (oF:(List Event)) (oG:(List Int)) (xa2:Event):∀ sb r,bm n oA oB oC oD oE oF oG xa2 sb=some r→aQ Tryz.prog P9 (zw oA oB oC oD oE oF oG xa2 sb) (rk (zw oA oB oC oD oE oF oG xa2) (BJ oA oB oC oD oE oF oG xa2) r):=by
 intro sb r h
 unfold bm at h
 rcases aA h with ⟨hb1,h⟩ | ⟨hb1,h⟩
 ·
  exact kQ h (nA iA [rV 13 [(71,vF)]]) [wK 4 [0,2,14,15,16] [4] 4] IV (cn rfl i3) (fun z=>(aB hb1 z))
 obtain ⟨xb2,gxb2,h⟩:=ab h
 obtain ⟨xb3,gxb3,h⟩:=ab h
 have c180_:=fun (R:Prop) (z:R)=>(aB hb1 (aM eI gxb2 (aM eI gxb3 z)))
 let e181_:LR:=[rV 13 [(71,vT)],rR 14 [(72,[(vI xb2)])],rR 15 [(79,[(vI xb3)])]]
 rcases aA h with ⟨hb4,h⟩ | ⟨hb4,h⟩
 ·
  exact kQ h (nA iA (e181_++[rV 16 [(84,vF)]])) [wK 0 [0,2,3,4,5,6,14,15,16,68,69,70] [] 4] IV cR (fun z=>(c180_ _ (aB hb4 z)))
 obtain ⟨xb5,gxb5,h⟩:=ab h
 have c182_:=fun (R:Prop) (z:R)=>c180_ _ (aB hb4 (aM eI gxb5 z))
 rcases aA h with ⟨hb6,h⟩ | ⟨hb6,h⟩
 ·
  exact kQ h (nA iA (e181_++[(16,⟨[],[],[(91,[(vI xb5)])],[(84,vT),(95,vF)],[],[],[],[],[]⟩)])) [wK 0 [0,2,3,4,5,6,14,15,16,68,69,70] [] 4] IV cR (fun z=>(c182_ _ (aB hb6 z)))
 obtain ⟨xb7,gxb7,h⟩:=ab h
 have c183_:=fun (R:Prop) (z:R)=>c182_ _ (aB hb6 (aM Event.enc gxb7 z))
 rcases aA h with ⟨hb8,h⟩ | ⟨hb8,h⟩
 ·
  exact kQ h (nA iA (e181_++[(16,⟨[],[],[(91,[(vI xb5)]),(101,(Event.enc xb7))],[(84,vT),(95,vT),(107,vF)],[],[],[],[],[]⟩)])) [wK 0 [0,2,3,4,5,6,14,15,16,68,69,70] [] 4] IV cR (fun z=>(c183_ _ (aB hb8 z)))
 obtain ⟨yb9,gyb9,h⟩:=ab h
 exact kQ h (nA iA (e181_++[(16,⟨[],[],[(91,[(vI xb5)]),(101,(Event.enc xb7))],[(84,vT),(95,vT),(107,vT)],[],[],[],[],[]⟩),aZ 17 [] [(110,(bq bg.enc yb9))]])) [wK 1 [2] [4] 4] IV (cn rfl gF) (fun z=>(c183_ _ (aB hb8 (aI (iy n 4 sb.2.2.1 xb2 yb9 gyb9) z))))

theorem yw:ax (al 41) iA Nn=true:=by kernel_rfl
def KI (oA:(List Cell)) (oB:(List (List Event))) (oC:(List Int)) (oD:(List Int)) (oE:(List (Int×(List Int)))) (oF:(List Event)) (oG:(List Int)) (sa:Int):St:=ba 114 [(0,.ptr (.O 2) 0 0),(2,.ptr (.L 2) 0 0),(14,.sl (oF.map Event.enc)),(15,(vI (oF.length:Int))),(16,(vI sa))] [(2,[vF,(vI 0),(vI 0),(vI 0)])] [.arr true 4 [[.sl (oA.map Cell.enc),.sl (oB.map (dA Event.enc)),.sl (oC.map eI),.sl (oD.map eI)]],.mapo true (oE.map (dB (aS .u64) (eN eI))),.arr false 4 [[.ptr (.O 0) 0 0,.sl (oF.map Event.enc),.sl (oG.map eI),.mp 1]],.arr false 1 [[.fn 39 [.ptr (.O 2) 0 0] []],[.fn 40 [.ptr (.O 2) 0 0] []],[.fn 41 [.ptr (.O 2) 0 0] []]]] 4
def P_ (oA:(List Cell)) (oB:(List (List Event))) (oC:(List Int)) (oD:(List Int)) (oE:(List (Int×(List Int)))) (oF:(List Event)) (oG:(List Int)) (tt:Unit):St:=ba 114 [(2,.ptr (.L 2) 0 0)] [(2,[vF,(vI 0),(vI 0),(vI 0)])] [.arr true 4 [[.sl (oA.map Cell.enc),.sl (oB.map (dA Event.enc)),.sl (oC.map eI),.sl (oD.map eI)]],.mapo true (oE.map (dB (aS .u64) (eN eI))),.arr false 4 [[.ptr (.O 0) 0 0,.sl (oF.map Event.enc),.sl (oG.map eI),.mp 1]],.arr false 1 [[.fn 39 [.ptr (.O 2) 0 0] []],[.fn 40 [.ptr (.O 2) 0 0] []],[.fn 41 [.ptr (.O 2) 0 0] []]]] 4
def Qa (oA:(List Cell)) (oB:(List (List Event))) (oC:(List Int)) (oD:(List Int)) (oE:(List (Int×(List Int)))) (oF:(List Event)) (oG:(List Int)) (tt:Bool×Int×Int×Int):St:=ba 114 [(2,.ptr (.L 2) 0 0)] [(2,[.v (.bool tt.1),(vI tt.2.1),(vI tt.2.2.1),(vI tt.2.2.2)])] [.arr true 4 [[.sl (oA.map Cell.enc),.sl (oB.map (dA Event.enc)),.sl (oC.map eI),.sl (oD.map eI)]],.mapo true (oE.map (dB (aS .u64) (eN eI))),.arr false 4 [[.ptr (.O 0) 0 0,.sl (oF.map Event.enc),.sl (oG.map eI),.mp 1]],.arr false 1 [[.fn 39 [.ptr (.O 2) 0 0] []],[.fn 40 [.ptr (.O 2) 0 0] []],[.fn 41 [.ptr (.O 2) 0 0] []]]] 4
def Np (oA:(List Cell)) (oB:(List (List Event))) (oC:(List Int)) (oD:(List Int)) (oE:(List (Int×(List Int)))) (oF:(List Event)) (oG:(List Int)) (t0:(Unit⊕(Bool×Int×Int×Int))):Ex×St:=match t0 with | .inl tt=>(.ex 0,P_ oA oB oC oD oE oF oG tt) | .inr tt=>(.ret,Qa oA oB oC oD oE oF oG tt)
theorem Qb (n:Nat) (oA:(List Cell)) (oB:(List (List Event))) (oC:(List Int)) (oD:(List Int)) (oE:(List (Int×(List Int)))) (oF:(List Event)) (oG:(List Int)):∀ sa r,eQ n oA oB oC oD oE oF oG sa=some r→aQ Tryz.prog Nn (KI oA oB oC oD oE oF oG sa) (rk (KI oA oB oC oD oE oF oG) (Np oA oB oC oD oE oF oG) r):=by
 intro sa r h
 unfold eQ at h
 rcases aA h with ⟨ha1,h⟩ | ⟨ha1,h⟩
 ·
  exact kQ h (nA iA [rV 2 [(17,vF)]]) [wK 2 [2] [] 4] yw (cn rfl i3) (fun z=>(aB ha1 z))
 obtain ⟨xa2,gxa2,h⟩:=ab h
 have c184_:=fun (R:Prop) (z:R)=>(aB ha1 (aM Event.enc gxa2 z))
 let e185_:LR:=[rV 2 [(17,vT)],rR 3 [(19,(Event.enc xa2))]]
 rcases ao h with ⟨ha3,h⟩ | ⟨ha3,h⟩
 ·
  exact kQ h (nA iA (e185_++[rV 4 [(23,vT)]])) [wK 0 [0,2,14,15,16] [4] 4] yw cR (fun z=>(c184_ _ (aB ha3 z)))
 obtain ⟨xa4,gxa4,h⟩:=ab h
 have c186_:=fun (R:Prop) (z:R)=>c184_ _ (aB ha3 (aM eI gxa4 z))
 let e187_:LR:=e185_++[rV 4 [(23,vF)],rR 7 [(39,[(vI xa4)])]]
 rcases aA h with ⟨ha5,h⟩ | ⟨ha5,h⟩
 ·
  let e193_:LR:=[rV 8 [(42,vF)]]
  rcases ko h with ⟨ha6,h⟩ | ⟨za6,ha7,h⟩
  ·
   obtain ⟨ta7,gta7,h⟩:=ab h
   have c194_:=fun (R:Prop) (z:R)=>c186_ _ (aB ha5 (aI (r6 oE xa2.Addr ha6:∀ k':AV→Prop,k' (.nilsl)→cU Tryz.prog 40 ((vU xa2.Addr)) (oE.map (dB (aS .u64) (eN eI))) fun _ r=>fj Tryz.prog 24 false (oE.map (dB (aS .u64) (eN eI))) r k') z))
   rcases ta7 with wa8 | wa8
   ·
    exact kQ h ⟨iA,(e185_++(e187_++(e193_++[aZ 12 [] [(68,.nilsl)]]))),[],[(13,(⟨[0,2,3,4,5,6,14,15,16,68,69,70],[],4,[],[],[]⟩,⟨[(68,.sl (([]:List Int).map eI))],[],[]⟩,(.ex 2),IW oA oB oC oD oE oF oG xa2 wa8))],[]⟩ [wK 0 [0,2,14,15,16] [] 4] yw cR (fun z=>(c194_ _ (aI (ce.nil:ce (.nilsl) (.sl (([]:List Int).map eI))) (aI (eo (pl:=al 41) (zw oA oB oC oD oE oF oG xa2) (BJ oA oB oC oD oE oF oG xa2) (De n oA oB oC oD oE oF oG xa2) n _ (.inl wa8) gta7) z))))
   ·
    exact kQ h ⟨iA,(e185_++(e187_++(e193_++[aZ 12 [] [(68,.nilsl)]]))),[],[(13,(⟨[0,2,3,4,5,6,14,15,16,68,69,70],[],4,[],[],[]⟩,⟨[(68,.sl (([]:List Int).map eI))],[],[]⟩,.ret,IX oA oB oC oD oE oF oG xa2 wa8))],[]⟩ [wK 1 [2] [] 4] yw (cn rfl gF) (fun z=>(c194_ _ (aI (ce.nil:ce (.nilsl) (.sl (([]:List Int).map eI))) (aI (eo (pl:=al 41) (zw oA oB oC oD oE oF oG xa2) (BJ oA oB oC oD oE oF oG xa2) (De n oA oB oC oD oE oF oG xa2) n _ (.inr wa8) gta7) z))))
  ·
   obtain ⟨ta8,gta8,h⟩:=ab h
   have c195_:=fun (R:Prop) (z:R)=>c186_ _ (aB ha5 (aI (r7 oE xa2.Addr ha7:∀ k':AV→Prop,k' (.sl (za6.map eI))→cU Tryz.prog 40 ((vU xa2.Addr)) (oE.map (dB (aS .u64) (eN eI))) fun _ r=>fj Tryz.prog 24 false (oE.map (dB (aS .u64) (eN eI))) r k') (aL eI za6 z)))
   rcases ta8 with wa9 | wa9
   ·
    exact kQ h ⟨iA,(e185_++(e187_++(e193_++[aZ 12 [(69,(vI (za6.length:Int)))] [(68,.sl (za6.map eI))]]))),[],[(13,(⟨[0,2,3,4,5,6,14,15,16,68,69,70],[],4,[],[],[]⟩,l0,(.ex 2),IW oA oB oC oD oE oF oG xa2 wa9))],[]⟩ [wK 0 [0,2,14,15,16] [] 4] yw cR (fun z=>(c195_ _ (aI (eo (pl:=al 41) (zw oA oB oC oD oE oF oG xa2) (BJ oA oB oC oD oE oF oG xa2) (De n oA oB oC oD oE oF oG xa2) n _ (.inl wa9) gta8) z)))
   ·
    exact kQ h ⟨iA,(e185_++(e187_++(e193_++[aZ 12 [(69,(vI (za6.length:Int)))] [(68,.sl (za6.map eI))]]))),[],[(13,(⟨[0,2,3,4,5,6,14,15,16,68,69,70],[],4,[],[],[]⟩,l0,.ret,IX oA oB oC oD oE oF oG xa2 wa9))],[]⟩ [wK 1 [2] [] 4] yw (cn rfl gF) (fun z=>(c195_ _ (aI (eo (pl:=al 41) (zw oA oB oC oD oE oF oG xa2) (BJ oA oB oC oD oE oF oG xa2) (De n oA oB oC oD oE oF oG xa2) n _ (.inr wa9) gta8) z)))
 obtain ⟨xa6,gxa6,h⟩:=ab h
 obtain ⟨xa7,gxa7,h⟩:=ab h
 have c188_:=fun (R:Prop) (z:R)=>c186_ _ (aB ha5 (aM eI gxa6 (aM eI gxa7 z)))
 let e189_:LR:=e187_++[rV 8 [(42,vT)],rR 9 [(48,[(vI xa6)])]]
 rcases ao h with ⟨ha8,h⟩ | ⟨ha8,h⟩
 ·
  obtain ⟨ya9,gya9,h⟩:=ab h
  exact kQ h (nA iA (e189_++[(10,⟨[],[],[(56,[(vI xa7)])],[(58,vT)],[],[],[],[],[]⟩),aZ 11 [] [(61,(bq bg.enc ya9))]])) [wK 1 [2] [4] 4] yw (cn rfl gF) (fun z=>(c188_ _ (aB ha8 (aI (iy n 4 (ah .i64 (dM .i64 sa xa2.At) xa2.Pair) xa4 ya9 gya9) z))))
 let e190_:LR:=[(10,⟨[],[],[(56,[(vI xa7)])],[(58,vF)],[],[],[],[],[]⟩)]
 rcases ko h with ⟨ha9,h⟩ | ⟨za9,ha10,h⟩
 ·
  obtain ⟨ta10,gta10,h⟩:=ab h
  have c191_:=fun (R:Prop) (z:R)=>c188_ _ (aB ha8 (aI (r6 oE xa2.Addr ha9:∀ k':AV→Prop,k' (.nilsl)→cU Tryz.prog 40 ((vU xa2.Addr)) (oE.map (dB (aS .u64) (eN eI))) fun _ r=>fj Tryz.prog 24 false (oE.map (dB (aS .u64) (eN eI))) r k') z))
  rcases ta10 with wa11 | wa11
  ·
   exact kQ h ⟨iA,(e185_++(e187_++(e189_++(e190_++[aZ 12 [] [(68,.nilsl)]])))),[],[(13,(⟨[0,2,3,4,5,6,14,15,16,68,69,70],[],4,[],[],[]⟩,⟨[(68,.sl (([]:List Int).map eI))],[],[]⟩,(.ex 2),IW oA oB oC oD oE oF oG xa2 wa11))],[]⟩ [wK 0 [0,2,14,15,16] [] 4] yw cR (fun z=>(c191_ _ (aI (ce.nil:ce (.nilsl) (.sl (([]:List Int).map eI))) (aI (eo (pl:=al 41) (zw oA oB oC oD oE oF oG xa2) (BJ oA oB oC oD oE oF oG xa2) (De n oA oB oC oD oE oF oG xa2) n _ (.inl wa11) gta10) z))))
  ·
   exact kQ h ⟨iA,(e185_++(e187_++(e189_++(e190_++[aZ 12 [] [(68,.nilsl)]])))),[],[(13,(⟨[0,2,3,4,5,6,14,15,16,68,69,70],[],4,[],[],[]⟩,⟨[(68,.sl (([]:List Int).map eI))],[],[]⟩,.ret,IX oA oB oC oD oE oF oG xa2 wa11))],[]⟩ [wK 1 [2] [] 4] yw (cn rfl gF) (fun z=>(c191_ _ (aI (ce.nil:ce (.nilsl) (.sl (([]:List Int).map eI))) (aI (eo (pl:=al 41) (zw oA oB oC oD oE oF oG xa2) (BJ oA oB oC oD oE oF oG xa2) (De n oA oB oC oD oE oF oG xa2) n _ (.inr wa11) gta10) z))))
 ·
  obtain ⟨ta11,gta11,h⟩:=ab h
  have c192_:=fun (R:Prop) (z:R)=>c188_ _ (aB ha8 (aI (r7 oE xa2.Addr ha10:∀ k':AV→Prop,k' (.sl (za9.map eI))→cU Tryz.prog 40 ((vU xa2.Addr)) (oE.map (dB (aS .u64) (eN eI))) fun _ r=>fj Tryz.prog 24 false (oE.map (dB (aS .u64) (eN eI))) r k') (aL eI za9 z)))
  rcases ta11 with wa12 | wa12
  ·
   exact kQ h ⟨iA,(e185_++(e187_++(e189_++(e190_++[aZ 12 [(69,(vI (za9.length:Int)))] [(68,.sl (za9.map eI))]])))),[],[(13,(⟨[0,2,3,4,5,6,14,15,16,68,69,70],[],4,[],[],[]⟩,l0,(.ex 2),IW oA oB oC oD oE oF oG xa2 wa12))],[]⟩ [wK 0 [0,2,14,15,16] [] 4] yw cR (fun z=>(c192_ _ (aI (eo (pl:=al 41) (zw oA oB oC oD oE oF oG xa2) (BJ oA oB oC oD oE oF oG xa2) (De n oA oB oC oD oE oF oG xa2) n _ (.inl wa12) gta11) z)))
  ·
   exact kQ h ⟨iA,(e185_++(e187_++(e189_++(e190_++[aZ 12 [(69,(vI (za9.length:Int)))] [(68,.sl (za9.map eI))]])))),[],[(13,(⟨[0,2,3,4,5,6,14,15,16,68,69,70],[],4,[],[],[]⟩,l0,.ret,IX oA oB oC oD oE oF oG xa2 wa12))],[]⟩ [wK 1 [2] [] 4] yw (cn rfl gF) (fun z=>(c192_ _ (aI (eo (pl:=al 41) (zw oA oB oC oD oE oF oG xa2) (BJ oA oB oC oD oE oF oG xa2) (De n oA oB oC oD oE oF oG xa2) n _ (.inr wa12) gta11) z)))

def kO (oA:(List Cell)) (oB:(List (List Event))) (oC:(List Int)) (oD:(List Int)) (oE:(List (Int×(List Int)))) (oF:(List Event)) (oG:(List Int)) (y:(Bool×Int×Int×Int)):AV×List Ob:=(.agg [.v (.bool y.1),(vI y.2.1),(vI y.2.2.1),(vI y.2.2.2)],[.arr true 4 [[.sl (oA.map Cell.enc),.sl (oB.map (dA Event.enc)),.sl (oC.map eI),.sl (oD.map eI)]],.mapo true (oE.map (dB (aS .u64) (eN eI))),.arr false 4 [[.ptr (.O 0) 0 0,.sl (oF.map Event.enc),.sl (oG.map eI),.mp 1]],.arr false 1 [[.fn 39 [.ptr (.O 2) 0 0] []],[.fn 40 [.ptr (.O 2) 0 0] []],[.fn 41 [.ptr (.O 2) 0 0] []]]])
theorem jB (n:Nat) (oA:(List Cell)) (oB:(List (List Event))) (oC:(List Int)) (oD:(List Int)) (oE:(List (Int×(List Int)))) (oF:(List Event)) (oG:(List Int)) (y:(Bool×Int×Int×Int)) (h:eH n oA oB oC oD oE oF oG=some y):SD Tryz.prog 41 [.ptr (.O 2) 0 0] [.arr true 4 [[.sl (oA.map Cell.enc),.sl (oB.map (dA Event.enc)),.sl (oC.map eI),.sl (oD.map eI)]],.mapo true (oE.map (dB (aS .u64) (eN eI))),.arr false 4 [[.ptr (.O 0) 0 0,.sl (oF.map Event.enc),.sl (oG.map eI),.mp 1]],.arr false 1 [[.fn 39 [.ptr (.O 2) 0 0] []],[.fn 40 [.ptr (.O 2) 0 0] []],[.fn 41 [.ptr (.O 2) 0 0] []]]] (fun r' o'=>r'=(kO oA oB oC oD oE oF oG y).1∧o'=(kO oA oB oC oD oE oF oG y).2):=by
 unfold eH at h
 obtain ⟨t1,gt1,h⟩:=ab h
 rcases t1 with w2 | w2
 ·
  obtain ⟨y3,gy3,h⟩:=ab h
  obtain rfl:=aF h
  exact kS ⟨iA,[rV 1 [(15,(vI (oF.length:Int)))],aZ 20 [] [(113,(bq bg.enc y3))]],[],[(2,(⟨[0,2,14,15,16],[],4,[],[],[]⟩,l0,(.ex 0),P_ oA oB oC oD oE oF oG w2))],[]⟩ IU ⟨rfl,rfl⟩ (fun z=>(aL Event.enc oF (aI (eo (pl:=al 41) (KI oA oB oC oD oE oF oG) (Np oA oB oC oD oE oF oG) (Qb n oA oB oC oD oE oF oG) n _ (.inl w2) gt1) (aI (jz n y3 gy3) z))))
 ·
  obtain rfl:=aF h
  exact kS ⟨iA,[rV 1 [(15,(vI (oF.length:Int)))]],[],[(2,(⟨[0,2,14,15,16],[],4,[],[],[]⟩,l0,.ret,Qa oA oB oC oD oE oF oG w2))],[]⟩ IU ⟨rfl,rfl⟩ (fun z=>(aL Event.enc oF (aI (eo (pl:=al 41) (KI oA oB oC oD oE oF oG) (Np oA oB oC oD oE oF oG) (Qb n oA oB oC oD oE oF oG) n _ (.inr w2) gt1) z)))

def kT:List (Nat×PT):=[]
theorem yx:ax (al 20) kT (aj Tryz.prog 20)=true:=by kernel_rfl
noncomputable def sj:Code:=sub (aj Tryz.prog 20) [1,1,1,0,1,0,0]
theorem zx:ax (al 20) kT sj=true:=by kernel_rfl
theorem j4 (c:af) (wb2:(List (Int×(List Int)))×(List Event)×(List Int)) (y3:(Bool×Int×Int×Int)) (K:Ex→St→Prop):oR pc sc lp cd (nA kT [(7,⟨[],[],[],[],[],[(24,(.agg [.v (.bool y3.1),(vI y3.2.1),(vI y3.2.2.1),(vI y3.2.2.2)],[.arr true 4 [(af.enc c)],.mapo true (wb2.1.map (dB (aS .u64) (eN eI))),.arr false 4 [[.ptr (.O 0) 0 0,.sl (wb2.2.1.map Event.enc),.sl (wb2.2.2.map eI),.mp 1]],.arr false 1 [[.fn 39 [.ptr (.O 2) 0 0] []],[.fn 40 [.ptr (.O 2) 0 0] []],[.fn 41 [.ptr (.O 2) 0 0] []]]]))],[],[],[]⟩),rV 8 [(27,vT)]]) (al 20) [wK 1 [2] [6] 0] sj (ba 31 [(2,.ptr (.L 2) 0 0),(17,.mf 3),(18,(vI 3)),(19,(vI 0))] [(2,[vF,(vI 0),(vI 0),(vI 0)])] [.arr true 4 [(af.enc c)],.mapo true (wb2.1.map (dB (aS .u64) (eN eI))),.arr false 4 [[.ptr (.O 0) 0 0,.sl (wb2.2.1.map Event.enc),.sl (wb2.2.2.map eI),.mp 1]],.arr false 1 [[.fn 39 [.ptr (.O 2) 0 0] []],[.fn 40 [.ptr (.O 2) 0 0] []],[.fn 41 [.ptr (.O 2) 0 0] []]]] 0) K
  = ((sc 39 [.ptr (.O 2) 0 0] [.arr true 4 [(af.enc c)],.mapo true (wb2.1.map (dB (aS .u64) (eN eI))),.arr false 4 [[.ptr (.O 0) 0 0,.sl (wb2.2.1.map Event.enc),.sl (wb2.2.2.map eI),.mp 1]],.arr false 1 [[.fn 39 [.ptr (.O 2) 0 0] []],[.fn 40 [.ptr (.O 2) 0 0] []],[.fn 41 [.ptr (.O 2) 0 0] []]]] (fun r' o'=>r'=.agg [.v (.bool y3.1),(vI y3.2.1),(vI y3.2.2.1),(vI y3.2.2.2)]∧o'=[.arr true 4 [(af.enc c)],.mapo true (wb2.1.map (dB (aS .u64) (eN eI))),.arr false 4 [[.ptr (.O 0) 0 0,.sl (wb2.2.1.map Event.enc),.sl (wb2.2.2.map eI),.mp 1]],.arr false 1 [[.fn 39 [.ptr (.O 2) 0 0] []],[.fn 40 [.ptr (.O 2) 0 0] []],[.fn 41 [.ptr (.O 2) 0 0] []]]]))∧(Kh (!y3.1) true)∧K .ret (ba 31 [(2,.ptr (.L 2) 0 0)] [(2,[.v (.bool y3.1),(vI y3.2.1),(vI y3.2.2.1),(vI y3.2.2.2)])] [] 0)):=by kernel_rfl
theorem j5 (c:af) (wb2:(List (Int×(List Int)))×(List Event)×(List Int)) (y3:(Bool×Int×Int×Int)) (K:Ex→St→Prop):oR pc sc lp cd (nA kT [(7,⟨[],[],[],[],[],[(24,(.agg [.v (.bool y3.1),(vI y3.2.1),(vI y3.2.2.1),(vI y3.2.2.2)],[.arr true 4 [(af.enc c)],.mapo true (wb2.1.map (dB (aS .u64) (eN eI))),.arr false 4 [[.ptr (.O 0) 0 0,.sl (wb2.2.1.map Event.enc),.sl (wb2.2.2.map eI),.mp 1]],.arr false 1 [[.fn 39 [.ptr (.O 2) 0 0] []],[.fn 40 [.ptr (.O 2) 0 0] []],[.fn 41 [.ptr (.O 2) 0 0] []]]]))],[],[],[]⟩),rV 8 [(27,vF)]]) (al 20) [wK 0 [2,17,18,19] [6] 4] sj (ba 31 [(2,.ptr (.L 2) 0 0),(17,.mf 3),(18,(vI 3)),(19,(vI 0))] [(2,[vF,(vI 0),(vI 0),(vI 0)])] [.arr true 4 [(af.enc c)],.mapo true (wb2.1.map (dB (aS .u64) (eN eI))),.arr false 4 [[.ptr (.O 0) 0 0,.sl (wb2.2.1.map Event.enc),.sl (wb2.2.2.map eI),.mp 1]],.arr false 1 [[.fn 39 [.ptr (.O 2) 0 0] []],[.fn 40 [.ptr (.O 2) 0 0] []],[.fn 41 [.ptr (.O 2) 0 0] []]]] 0) K
  = ((sc 39 [.ptr (.O 2) 0 0] [.arr true 4 [(af.enc c)],.mapo true (wb2.1.map (dB (aS .u64) (eN eI))),.arr false 4 [[.ptr (.O 0) 0 0,.sl (wb2.2.1.map Event.enc),.sl (wb2.2.2.map eI),.mp 1]],.arr false 1 [[.fn 39 [.ptr (.O 2) 0 0] []],[.fn 40 [.ptr (.O 2) 0 0] []],[.fn 41 [.ptr (.O 2) 0 0] []]]] (fun r' o'=>r'=.agg [.v (.bool y3.1),(vI y3.2.1),(vI y3.2.2.1),(vI y3.2.2.2)]∧o'=[.arr true 4 [(af.enc c)],.mapo true (wb2.1.map (dB (aS .u64) (eN eI))),.arr false 4 [[.ptr (.O 0) 0 0,.sl (wb2.2.1.map Event.enc),.sl (wb2.2.2.map eI),.mp 1]],.arr false 1 [[.fn 39 [.ptr (.O 2) 0 0] []],[.fn 40 [.ptr (.O 2) 0 0] []],[.fn 41 [.ptr (.O 2) 0 0] []]]]))∧(Kh (!y3.1) false)∧K .nrm (ba 31 [(2,.ptr (.L 2) 0 0),(17,.mf 3),(18,(vI 3)),(19,(vI 1))] [(2,[vF,(vI 0),(vI 0),(vI 0)])] [.arr true 4 [(af.enc c)],.mapo true (wb2.1.map (dB (aS .u64) (eN eI))),.arr false 4 [[.ptr (.O 0) 0 0,.sl (wb2.2.1.map Event.enc),.sl (wb2.2.2.map eI),.mp 1]],.arr false 1 [[.fn 39 [.ptr (.O 2) 0 0] []],[.fn 40 [.ptr (.O 2) 0 0] []],[.fn 41 [.ptr (.O 2) 0 0] []]]] 0)):=by kernel_rfl
theorem j6 (c:af) (wb2:(List (Int×(List Int)))×(List Event)×(List Int)) (y5:(Bool×Int×Int×Int)) (K:Ex→St→Prop):oR pc sc lp cd (nA kT [(7,⟨[],[],[],[],[],[(24,(.agg [.v (.bool y5.1),(vI y5.2.1),(vI y5.2.2.1),(vI y5.2.2.2)],[.arr true 4 [(af.enc c)],.mapo true (wb2.1.map (dB (aS .u64) (eN eI))),.arr false 4 [[.ptr (.O 0) 0 0,.sl (wb2.2.1.map Event.enc),.sl (wb2.2.2.map eI),.mp 1]],.arr false 1 [[.fn 39 [.ptr (.O 2) 0 0] []],[.fn 40 [.ptr (.O 2) 0 0] []],[.fn 41 [.ptr (.O 2) 0 0] []]]]))],[],[],[]⟩),rV 8 [(27,vT)]]) (al 20) [wK 1 [2] [6] 0] sj (ba 31 [(2,.ptr (.L 2) 0 0),(17,.mf 3),(18,(vI 3)),(19,(vI 1))] [(2,[vF,(vI 0),(vI 0),(vI 0)])] [.arr true 4 [(af.enc c)],.mapo true (wb2.1.map (dB (aS .u64) (eN eI))),.arr false 4 [[.ptr (.O 0) 0 0,.sl (wb2.2.1.map Event.enc),.sl (wb2.2.2.map eI),.mp 1]],.arr false 1 [[.fn 39 [.ptr (.O 2) 0 0] []],[.fn 40 [.ptr (.O 2) 0 0] []],[.fn 41 [.ptr (.O 2) 0 0] []]]] 0) K
  = ((sc 40 [.ptr (.O 2) 0 0] [.arr true 4 [(af.enc c)],.mapo true (wb2.1.map (dB (aS .u64) (eN eI))),.arr false 4 [[.ptr (.O 0) 0 0,.sl (wb2.2.1.map Event.enc),.sl (wb2.2.2.map eI),.mp 1]],.arr false 1 [[.fn 39 [.ptr (.O 2) 0 0] []],[.fn 40 [.ptr (.O 2) 0 0] []],[.fn 41 [.ptr (.O 2) 0 0] []]]] (fun r' o'=>r'=.agg [.v (.bool y5.1),(vI y5.2.1),(vI y5.2.2.1),(vI y5.2.2.2)]∧o'=[.arr true 4 [(af.enc c)],.mapo true (wb2.1.map (dB (aS .u64) (eN eI))),.arr false 4 [[.ptr (.O 0) 0 0,.sl (wb2.2.1.map Event.enc),.sl (wb2.2.2.map eI),.mp 1]],.arr false 1 [[.fn 39 [.ptr (.O 2) 0 0] []],[.fn 40 [.ptr (.O 2) 0 0] []],[.fn 41 [.ptr (.O 2) 0 0] []]]]))∧(Kh (!y5.1) true)∧K .ret (ba 31 [(2,.ptr (.L 2) 0 0)] [(2,[.v (.bool y5.1),(vI y5.2.1),(vI y5.2.2.1),(vI y5.2.2.2)])] [] 0)):=by kernel_rfl
theorem j7 (c:af) (wb2:(List (Int×(List Int)))×(List Event)×(List Int)) (y3:(Bool×Int×Int×Int)) (K:Ex→St→Prop):oR pc sc lp cd (nA kT [(7,⟨[],[],[],[],[],[(24,(.agg [.v (.bool y3.1),(vI y3.2.1),(vI y3.2.2.1),(vI y3.2.2.2)],[.arr true 4 [(af.enc c)],.mapo true (wb2.1.map (dB (aS .u64) (eN eI))),.arr false 4 [[.ptr (.O 0) 0 0,.sl (wb2.2.1.map Event.enc),.sl (wb2.2.2.map eI),.mp 1]],.arr false 1 [[.fn 39 [.ptr (.O 2) 0 0] []],[.fn 40 [.ptr (.O 2) 0 0] []],[.fn 41 [.ptr (.O 2) 0 0] []]]]))],[],[],[]⟩),rV 8 [(27,vF)]]) (al 20) [wK 0 [2,17,18,19] [6] 4] sj (ba 31 [(2,.ptr (.L 2) 0 0),(17,.mf 3),(18,(vI 3)),(19,(vI 0))] [(2,[vF,(vI 0),(vI 0),(vI 0)])] [.arr true 4 [(af.enc c)],.mapo true (wb2.1.map (dB (aS .u64) (eN eI))),.arr false 4 [[.ptr (.O 0) 0 0,.sl (wb2.2.1.map Event.enc),.sl (wb2.2.2.map eI),.mp 1]],.arr false 1 [[.fn 39 [.ptr (.O 2) 0 0] []],[.fn 40 [.ptr (.O 2) 0 0] []],[.fn 41 [.ptr (.O 2) 0 0] []]]] 0) K
  = ((sc 39 [.ptr (.O 2) 0 0] [.arr true 4 [(af.enc c)],.mapo true (wb2.1.map (dB (aS .u64) (eN eI))),.arr false 4 [[.ptr (.O 0) 0 0,.sl (wb2.2.1.map Event.enc),.sl (wb2.2.2.map eI),.mp 1]],.arr false 1 [[.fn 39 [.ptr (.O 2) 0 0] []],[.fn 40 [.ptr (.O 2) 0 0] []],[.fn 41 [.ptr (.O 2) 0 0] []]]] (fun r' o'=>r'=.agg [.v (.bool y3.1),(vI y3.2.1),(vI y3.2.2.1),(vI y3.2.2.2)]∧o'=[.arr true 4 [(af.enc c)],.mapo true (wb2.1.map (dB (aS .u64) (eN eI))),.arr false 4 [[.ptr (.O 0) 0 0,.sl (wb2.2.1.map Event.enc),.sl (wb2.2.2.map eI),.mp 1]],.arr false 1 [[.fn 39 [.ptr (.O 2) 0 0] []],[.fn 40 [.ptr (.O 2) 0 0] []],[.fn 41 [.ptr (.O 2) 0 0] []]]]))∧(Kh (!y3.1) false)∧K .nrm (ba 31 [(2,.ptr (.L 2) 0 0),(17,.mf 3),(18,(vI 3)),(19,(vI 1))] [(2,[vF,(vI 0),(vI 0),(vI 0)])] [.arr true 4 [(af.enc c)],.mapo true (wb2.1.map (dB (aS .u64) (eN eI))),.arr false 4 [[.ptr (.O 0) 0 0,.sl (wb2.2.1.map Event.enc),.sl (wb2.2.2.map eI),.mp 1]],.arr false 1 [[.fn 39 [.ptr (.O 2) 0 0] []],[.fn 40 [.ptr (.O 2) 0 0] []],[.fn 41 [.ptr (.O 2) 0 0] []]]] 0)):=by kernel_rfl
theorem j8 (c:af) (wb2:(List (Int×(List Int)))×(List Event)×(List Int)) (y5:(Bool×Int×Int×Int)) (K:Ex→St→Prop):oR pc sc lp cd (nA kT [(7,⟨[],[],[],[],[],[(24,(.agg [.v (.bool y5.1),(vI y5.2.1),(vI y5.2.2.1),(vI y5.2.2.2)],[.arr true 4 [(af.enc c)],.mapo true (wb2.1.map (dB (aS .u64) (eN eI))),.arr false 4 [[.ptr (.O 0) 0 0,.sl (wb2.2.1.map Event.enc),.sl (wb2.2.2.map eI),.mp 1]],.arr false 1 [[.fn 39 [.ptr (.O 2) 0 0] []],[.fn 40 [.ptr (.O 2) 0 0] []],[.fn 41 [.ptr (.O 2) 0 0] []]]]))],[],[],[]⟩),rV 8 [(27,vF)]]) (al 20) [wK 0 [2,17,18,19] [6] 4] sj (ba 31 [(2,.ptr (.L 2) 0 0),(17,.mf 3),(18,(vI 3)),(19,(vI 1))] [(2,[vF,(vI 0),(vI 0),(vI 0)])] [.arr true 4 [(af.enc c)],.mapo true (wb2.1.map (dB (aS .u64) (eN eI))),.arr false 4 [[.ptr (.O 0) 0 0,.sl (wb2.2.1.map Event.enc),.sl (wb2.2.2.map eI),.mp 1]],.arr false 1 [[.fn 39 [.ptr (.O 2) 0 0] []],[.fn 40 [.ptr (.O 2) 0 0] []],[.fn 41 [.ptr (.O 2) 0 0] []]]] 0) K
  = ((sc 40 [.ptr (.O 2) 0 0] [.arr true 4 [(af.enc c)],.mapo true (wb2.1.map (dB (aS .u64) (eN eI))),.arr false 4 [[.ptr (.O 0) 0 0,.sl (wb2.2.1.map Event.enc),.sl (wb2.2.2.map eI),.mp 1]],.arr false 1 [[.fn 39 [.ptr (.O 2) 0 0] []],[.fn 40 [.ptr (.O 2) 0 0] []],[.fn 41 [.ptr (.O 2) 0 0] []]]] (fun r' o'=>r'=.agg [.v (.bool y5.1),(vI y5.2.1),(vI y5.2.2.1),(vI y5.2.2.2)]∧o'=[.arr true 4 [(af.enc c)],.mapo true (wb2.1.map (dB (aS .u64) (eN eI))),.arr false 4 [[.ptr (.O 0) 0 0,.sl (wb2.2.1.map Event.enc),.sl (wb2.2.2.map eI),.mp 1]],.arr false 1 [[.fn 39 [.ptr (.O 2) 0 0] []],[.fn 40 [.ptr (.O 2) 0 0] []],[.fn 41 [.ptr (.O 2) 0 0] []]]]))∧(Kh (!y5.1) false)∧K .nrm (ba 31 [(2,.ptr (.L 2) 0 0),(17,.mf 3),(18,(vI 3)),(19,(vI 2))] [(2,[vF,(vI 0),(vI 0),(vI 0)])] [.arr true 4 [(af.enc c)],.mapo true (wb2.1.map (dB (aS .u64) (eN eI))),.arr false 4 [[.ptr (.O 0) 0 0,.sl (wb2.2.1.map Event.enc),.sl (wb2.2.2.map eI),.mp 1]],.arr false 1 [[.fn 39 [.ptr (.O 2) 0 0] []],[.fn 40 [.ptr (.O 2) 0 0] []],[.fn 41 [.ptr (.O 2) 0 0] []]]] 0)):=by kernel_rfl
theorem j9 (c:af) (wb2:(List (Int×(List Int)))×(List Event)×(List Int)) (y7:(Bool×Int×Int×Int)) (K:Ex→St→Prop):oR pc sc lp cd (nA kT [(7,⟨[],[],[],[],[],[(24,(.agg [.v (.bool y7.1),(vI y7.2.1),(vI y7.2.2.1),(vI y7.2.2.2)],[.arr true 4 [(af.enc c)],.mapo true (wb2.1.map (dB (aS .u64) (eN eI))),.arr false 4 [[.ptr (.O 0) 0 0,.sl (wb2.2.1.map Event.enc),.sl (wb2.2.2.map eI),.mp 1]],.arr false 1 [[.fn 39 [.ptr (.O 2) 0 0] []],[.fn 40 [.ptr (.O 2) 0 0] []],[.fn 41 [.ptr (.O 2) 0 0] []]]]))],[],[],[]⟩),rV 8 [(27,vT)]]) (al 20) [wK 1 [2] [6] 0] sj (ba 31 [(2,.ptr (.L 2) 0 0),(17,.mf 3),(18,(vI 3)),(19,(vI 2))] [(2,[vF,(vI 0),(vI 0),(vI 0)])] [.arr true 4 [(af.enc c)],.mapo true (wb2.1.map (dB (aS .u64) (eN eI))),.arr false 4 [[.ptr (.O 0) 0 0,.sl (wb2.2.1.map Event.enc),.sl (wb2.2.2.map eI),.mp 1]],.arr false 1 [[.fn 39 [.ptr (.O 2) 0 0] []],[.fn 40 [.ptr (.O 2) 0 0] []],[.fn 41 [.ptr (.O 2) 0 0] []]]] 0) K
  = ((sc 41 [.ptr (.O 2) 0 0] [.arr true 4 [(af.enc c)],.mapo true (wb2.1.map (dB (aS .u64) (eN eI))),.arr false 4 [[.ptr (.O 0) 0 0,.sl (wb2.2.1.map Event.enc),.sl (wb2.2.2.map eI),.mp 1]],.arr false 1 [[.fn 39 [.ptr (.O 2) 0 0] []],[.fn 40 [.ptr (.O 2) 0 0] []],[.fn 41 [.ptr (.O 2) 0 0] []]]] (fun r' o'=>r'=.agg [.v (.bool y7.1),(vI y7.2.1),(vI y7.2.2.1),(vI y7.2.2.2)]∧o'=[.arr true 4 [(af.enc c)],.mapo true (wb2.1.map (dB (aS .u64) (eN eI))),.arr false 4 [[.ptr (.O 0) 0 0,.sl (wb2.2.1.map Event.enc),.sl (wb2.2.2.map eI),.mp 1]],.arr false 1 [[.fn 39 [.ptr (.O 2) 0 0] []],[.fn 40 [.ptr (.O 2) 0 0] []],[.fn 41 [.ptr (.O 2) 0 0] []]]]))∧(Kh (!y7.1) true)∧K .ret (ba 31 [(2,.ptr (.L 2) 0 0)] [(2,[.v (.bool y7.1),(vI y7.2.1),(vI y7.2.2.1),(vI y7.2.2.2)])] [] 0)):=by kernel_rfl
theorem j_ (c:af) (wb2:(List (Int×(List Int)))×(List Event)×(List Int)) (y3:(Bool×Int×Int×Int)) (K:Ex→St→Prop):oR pc sc lp cd (nA kT [(7,⟨[],[],[],[],[],[(24,(.agg [.v (.bool y3.1),(vI y3.2.1),(vI y3.2.2.1),(vI y3.2.2.2)],[.arr true 4 [(af.enc c)],.mapo true (wb2.1.map (dB (aS .u64) (eN eI))),.arr false 4 [[.ptr (.O 0) 0 0,.sl (wb2.2.1.map Event.enc),.sl (wb2.2.2.map eI),.mp 1]],.arr false 1 [[.fn 39 [.ptr (.O 2) 0 0] []],[.fn 40 [.ptr (.O 2) 0 0] []],[.fn 41 [.ptr (.O 2) 0 0] []]]]))],[],[],[]⟩),rV 8 [(27,vF)]]) (al 20) [wK 0 [2,17,18,19] [6] 4] sj (ba 31 [(2,.ptr (.L 2) 0 0),(17,.mf 3),(18,(vI 3)),(19,(vI 0))] [(2,[vF,(vI 0),(vI 0),(vI 0)])] [.arr true 4 [(af.enc c)],.mapo true (wb2.1.map (dB (aS .u64) (eN eI))),.arr false 4 [[.ptr (.O 0) 0 0,.sl (wb2.2.1.map Event.enc),.sl (wb2.2.2.map eI),.mp 1]],.arr false 1 [[.fn 39 [.ptr (.O 2) 0 0] []],[.fn 40 [.ptr (.O 2) 0 0] []],[.fn 41 [.ptr (.O 2) 0 0] []]]] 0) K
  = ((sc 39 [.ptr (.O 2) 0 0] [.arr true 4 [(af.enc c)],.mapo true (wb2.1.map (dB (aS .u64) (eN eI))),.arr false 4 [[.ptr (.O 0) 0 0,.sl (wb2.2.1.map Event.enc),.sl (wb2.2.2.map eI),.mp 1]],.arr false 1 [[.fn 39 [.ptr (.O 2) 0 0] []],[.fn 40 [.ptr (.O 2) 0 0] []],[.fn 41 [.ptr (.O 2) 0 0] []]]] (fun r' o'=>r'=.agg [.v (.bool y3.1),(vI y3.2.1),(vI y3.2.2.1),(vI y3.2.2.2)]∧o'=[.arr true 4 [(af.enc c)],.mapo true (wb2.1.map (dB (aS .u64) (eN eI))),.arr false 4 [[.ptr (.O 0) 0 0,.sl (wb2.2.1.map Event.enc),.sl (wb2.2.2.map eI),.mp 1]],.arr false 1 [[.fn 39 [.ptr (.O 2) 0 0] []],[.fn 40 [.ptr (.O 2) 0 0] []],[.fn 41 [.ptr (.O 2) 0 0] []]]]))∧(Kh (!y3.1) false)∧K .nrm (ba 31 [(2,.ptr (.L 2) 0 0),(17,.mf 3),(18,(vI 3)),(19,(vI 1))] [(2,[vF,(vI 0),(vI 0),(vI 0)])] [.arr true 4 [(af.enc c)],.mapo true (wb2.1.map (dB (aS .u64) (eN eI))),.arr false 4 [[.ptr (.O 0) 0 0,.sl (wb2.2.1.map Event.enc),.sl (wb2.2.2.map eI),.mp 1]],.arr false 1 [[.fn 39 [.ptr (.O 2) 0 0] []],[.fn 40 [.ptr (.O 2) 0 0] []],[.fn 41 [.ptr (.O 2) 0 0] []]]] 0)):=by kernel_rfl
theorem kg (c:af) (wb2:(List (Int×(List Int)))×(List Event)×(List Int)) (y5:(Bool×Int×Int×Int)) (K:Ex→St→Prop):oR pc sc lp cd (nA kT [(7,⟨[],[],[],[],[],[(24,(.agg [.v (.bool y5.1),(vI y5.2.1),(vI y5.2.2.1),(vI y5.2.2.2)],[.arr true 4 [(af.enc c)],.mapo true (wb2.1.map (dB (aS .u64) (eN eI))),.arr false 4 [[.ptr (.O 0) 0 0,.sl (wb2.2.1.map Event.enc),.sl (wb2.2.2.map eI),.mp 1]],.arr false 1 [[.fn 39 [.ptr (.O 2) 0 0] []],[.fn 40 [.ptr (.O 2) 0 0] []],[.fn 41 [.ptr (.O 2) 0 0] []]]]))],[],[],[]⟩),rV 8 [(27,vF)]]) (al 20) [wK 0 [2,17,18,19] [6] 4] sj (ba 31 [(2,.ptr (.L 2) 0 0),(17,.mf 3),(18,(vI 3)),(19,(vI 1))] [(2,[vF,(vI 0),(vI 0),(vI 0)])] [.arr true 4 [(af.enc c)],.mapo true (wb2.1.map (dB (aS .u64) (eN eI))),.arr false 4 [[.ptr (.O 0) 0 0,.sl (wb2.2.1.map Event.enc),.sl (wb2.2.2.map eI),.mp 1]],.arr false 1 [[.fn 39 [.ptr (.O 2) 0 0] []],[.fn 40 [.ptr (.O 2) 0 0] []],[.fn 41 [.ptr (.O 2) 0 0] []]]] 0) K
  = ((sc 40 [.ptr (.O 2) 0 0] [.arr true 4 [(af.enc c)],.mapo true (wb2.1.map (dB (aS .u64) (eN eI))),.arr false 4 [[.ptr (.O 0) 0 0,.sl (wb2.2.1.map Event.enc),.sl (wb2.2.2.map eI),.mp 1]],.arr false 1 [[.fn 39 [.ptr (.O 2) 0 0] []],[.fn 40 [.ptr (.O 2) 0 0] []],[.fn 41 [.ptr (.O 2) 0 0] []]]] (fun r' o'=>r'=.agg [.v (.bool y5.1),(vI y5.2.1),(vI y5.2.2.1),(vI y5.2.2.2)]∧o'=[.arr true 4 [(af.enc c)],.mapo true (wb2.1.map (dB (aS .u64) (eN eI))),.arr false 4 [[.ptr (.O 0) 0 0,.sl (wb2.2.1.map Event.enc),.sl (wb2.2.2.map eI),.mp 1]],.arr false 1 [[.fn 39 [.ptr (.O 2) 0 0] []],[.fn 40 [.ptr (.O 2) 0 0] []],[.fn 41 [.ptr (.O 2) 0 0] []]]]))∧(Kh (!y5.1) false)∧K .nrm (ba 31 [(2,.ptr (.L 2) 0 0),(17,.mf 3),(18,(vI 3)),(19,(vI 2))] [(2,[vF,(vI 0),(vI 0),(vI 0)])] [.arr true 4 [(af.enc c)],.mapo true (wb2.1.map (dB (aS .u64) (eN eI))),.arr false 4 [[.ptr (.O 0) 0 0,.sl (wb2.2.1.map Event.enc),.sl (wb2.2.2.map eI),.mp 1]],.arr false 1 [[.fn 39 [.ptr (.O 2) 0 0] []],[.fn 40 [.ptr (.O 2) 0 0] []],[.fn 41 [.ptr (.O 2) 0 0] []]]] 0)):=by kernel_rfl
theorem kh (c:af) (wb2:(List (Int×(List Int)))×(List Event)×(List Int)) (y7:(Bool×Int×Int×Int)) (K:Ex→St→Prop):oR pc sc lp cd (nA kT [(7,⟨[],[],[],[],[],[(24,(.agg [.v (.bool y7.1),(vI y7.2.1),(vI y7.2.2.1),(vI y7.2.2.2)],[.arr true 4 [(af.enc c)],.mapo true (wb2.1.map (dB (aS .u64) (eN eI))),.arr false 4 [[.ptr (.O 0) 0 0,.sl (wb2.2.1.map Event.enc),.sl (wb2.2.2.map eI),.mp 1]],.arr false 1 [[.fn 39 [.ptr (.O 2) 0 0] []],[.fn 40 [.ptr (.O 2) 0 0] []],[.fn 41 [.ptr (.O 2) 0 0] []]]]))],[],[],[]⟩),rV 8 [(27,vF)]]) (al 20) [wK 0 [2,17,18,19] [6] 4] sj (ba 31 [(2,.ptr (.L 2) 0 0),(17,.mf 3),(18,(vI 3)),(19,(vI 2))] [(2,[vF,(vI 0),(vI 0),(vI 0)])] [.arr true 4 [(af.enc c)],.mapo true (wb2.1.map (dB (aS .u64) (eN eI))),.arr false 4 [[.ptr (.O 0) 0 0,.sl (wb2.2.1.map Event.enc),.sl (wb2.2.2.map eI),.mp 1]],.arr false 1 [[.fn 39 [.ptr (.O 2) 0 0] []],[.fn 40 [.ptr (.O 2) 0 0] []],[.fn 41 [.ptr (.O 2) 0 0] []]]] 0) K
  = ((sc 41 [.ptr (.O 2) 0 0] [.arr true 4 [(af.enc c)],.mapo true (wb2.1.map (dB (aS .u64) (eN eI))),.arr false 4 [[.ptr (.O 0) 0 0,.sl (wb2.2.1.map Event.enc),.sl (wb2.2.2.map eI),.mp 1]],.arr false 1 [[.fn 39 [.ptr (.O 2) 0 0] []],[.fn 40 [.ptr (.O 2) 0 0] []],[.fn 41 [.ptr (.O 2) 0 0] []]]] (fun r' o'=>r'=.agg [.v (.bool y7.1),(vI y7.2.1),(vI y7.2.2.1),(vI y7.2.2.2)]∧o'=[.arr true 4 [(af.enc c)],.mapo true (wb2.1.map (dB (aS .u64) (eN eI))),.arr false 4 [[.ptr (.O 0) 0 0,.sl (wb2.2.1.map Event.enc),.sl (wb2.2.2.map eI),.mp 1]],.arr false 1 [[.fn 39 [.ptr (.O 2) 0 0] []],[.fn 40 [.ptr (.O 2) 0 0] []],[.fn 41 [.ptr (.O 2) 0 0] []]]]))∧(Kh (!y7.1) false)∧K .nrm (ba 31 [(2,.ptr (.L 2) 0 0),(17,.mf 3),(18,(vI 3)),(19,(vI 3))] [(2,[vF,(vI 0),(vI 0),(vI 0)])] [.arr true 4 [(af.enc c)],.mapo true (wb2.1.map (dB (aS .u64) (eN eI))),.arr false 4 [[.ptr (.O 0) 0 0,.sl (wb2.2.1.map Event.enc),.sl (wb2.2.2.map eI),.mp 1]],.arr false 1 [[.fn 39 [.ptr (.O 2) 0 0] []],[.fn 40 [.ptr (.O 2) 0 0] []],[.fn 41 [.ptr (.O 2) 0 0] []]]] 0)):=by kernel_rfl
theorem ki (c:af) (wb2:(List (Int×(List Int)))×(List Event)×(List Int)) (K:Ex→St→Prop):oR pc sc lp cd (nA kT []) (al 20) [wK 2 [2] [] 0] sj (ba 31 [(2,.ptr (.L 2) 0 0),(17,.mf 3),(18,(vI 3)),(19,(vI 3))] [(2,[vF,(vI 0),(vI 0),(vI 0)])] [.arr true 4 [(af.enc c)],.mapo true (wb2.1.map (dB (aS .u64) (eN eI))),.arr false 4 [[.ptr (.O 0) 0 0,.sl (wb2.2.1.map Event.enc),.sl (wb2.2.2.map eI),.mp 1]],.arr false 1 [[.fn 39 [.ptr (.O 2) 0 0] []],[.fn 40 [.ptr (.O 2) 0 0] []],[.fn 41 [.ptr (.O 2) 0 0] []]]] 0) K
  = (K (.ex 0) (ba 31 [(2,.ptr (.L 2) 0 0)] [(2,[vF,(vI 0),(vI 0),(vI 0)])] [] 0)):=by kernel_rfl
theorem lb (n:Nat) (c:af) (r:bg) (h:gI n c=some r):aw Tryz.prog 20 [(bq af.enc c)] (ew ((bq bg.enc r))):=by
 unfold gI at h
 obtain ⟨y1,gy1,h⟩:=ab h
 rcases y1 with wa2 | wb2
 ·
  obtain ⟨y3,gy3,h⟩:=ab h
  obtain rfl:=aF h
  exact kP (nA kT [(1,⟨[],[],[],[],[],[(7,(.nilp,[.arr true 4 [(af.enc c)]]))],[],[],[]⟩),aZ 3 [] [(10,(bq bg.enc y3))]]) yx (fun z=>(aI (qb n c.gc c.am c.la c.bt (.inl wa2) gy1) (aI (iy n 1 (-1) (-1) y3 gy3) z)))
 ·
  obtain ⟨y3,gy3,h⟩:=ab h
  have c196_:=fun (R:Prop) (z:R)=>(aI (qb n c.gc c.am c.la c.bt (.inr wb2) gy1) z)
  rcases ao h with ⟨h4,h⟩ | ⟨h4,h⟩
  ·
   obtain rfl:=aF h
   exact kP ⟨kT,[(1,⟨[],[],[],[],[],[(7,(.ptr (.O 2) 0 0,[.arr true 4 [(af.enc c)],.mapo true (wb2.1.map (dB (aS .u64) (eN eI))),.arr false 4 [[.ptr (.O 0) 0 0,.sl (wb2.2.1.map Event.enc),.sl (wb2.2.2.map eI),.mp 1]]]))],[],[],[]⟩)],[],[(5,(⟨[2,17,18,19],[],4,[],[],[]⟩,l0,.ret,ba 31 [(2,.ptr (.L 2) 0 0)] [(2,[.v (.bool y3.1),(vI y3.2.1),(vI y3.2.2.1),(vI y3.2.2.2)])] [] 0))],[]⟩ yx (fun z=>(c196_ _ (aI ((cJ.round (cfg:=cfg) (DD zx (Eq.mpr (j4 pP sP lP dP c wb2 y3 _) ⟨dL n c.gc c.am c.la c.bt wb2.1 wb2.2.1 wb2.2.2 y3 gy3,cB h4,⟨rfl,rfl⟩⟩) ⟨rfl,rfl⟩)):lP (al 20) sj (ba 31 [(2,.ptr (.L 2) 0 0),(17,.mf 3),(18,(vI 3)),(19,(vI 0))] [(2,[vF,(vI 0),(vI 0),(vI 0)])] [.arr true 4 [(af.enc c)],.mapo true (wb2.1.map (dB (aS .u64) (eN eI))),.arr false 4 [[.ptr (.O 0) 0 0,.sl (wb2.2.1.map Event.enc),.sl (wb2.2.2.map eI),.mp 1]],.arr false 1 [[.fn 39 [.ptr (.O 2) 0 0] []],[.fn 40 [.ptr (.O 2) 0 0] []],[.fn 41 [.ptr (.O 2) 0 0] []]]] 0) (fun e' S'=>e'=.ret∧S'=ba 31 [(2,.ptr (.L 2) 0 0)] [(2,[.v (.bool y3.1),(vI y3.2.1),(vI y3.2.2.1),(vI y3.2.2.2)])] [] 0)) z)))
  obtain ⟨y5,gy5,h⟩:=ab h
  rcases ao h with ⟨h6,h⟩ | ⟨h6,h⟩
  ·
   obtain rfl:=aF h
   exact kP ⟨kT,[(1,⟨[],[],[],[],[],[(7,(.ptr (.O 2) 0 0,[.arr true 4 [(af.enc c)],.mapo true (wb2.1.map (dB (aS .u64) (eN eI))),.arr false 4 [[.ptr (.O 0) 0 0,.sl (wb2.2.1.map Event.enc),.sl (wb2.2.2.map eI),.mp 1]]]))],[],[],[]⟩)],[],[(5,(⟨[2,17,18,19],[],4,[],[],[]⟩,l0,.ret,ba 31 [(2,.ptr (.L 2) 0 0)] [(2,[.v (.bool y5.1),(vI y5.2.1),(vI y5.2.2.1),(vI y5.2.2.2)])] [] 0))],[]⟩ yx (fun z=>(c196_ _ (aI ((cJ.round (cfg:=cfg) (DD zx (Eq.mpr (j5 pP sP lP dP c wb2 y3 _) ⟨dL n c.gc c.am c.la c.bt wb2.1 wb2.2.1 wb2.2.2 y3 gy3,cB h4,⟨rfl,rfl⟩⟩) (cJ.round (cfg:=cfg) (DD zx (Eq.mpr (j6 pP sP lP dP c wb2 y5 _) ⟨fL n c.gc c.am c.la c.bt wb2.1 wb2.2.1 wb2.2.2 y5 gy5,cB h6,⟨rfl,rfl⟩⟩) ⟨rfl,rfl⟩)))):lP (al 20) sj (ba 31 [(2,.ptr (.L 2) 0 0),(17,.mf 3),(18,(vI 3)),(19,(vI 0))] [(2,[vF,(vI 0),(vI 0),(vI 0)])] [.arr true 4 [(af.enc c)],.mapo true (wb2.1.map (dB (aS .u64) (eN eI))),.arr false 4 [[.ptr (.O 0) 0 0,.sl (wb2.2.1.map Event.enc),.sl (wb2.2.2.map eI),.mp 1]],.arr false 1 [[.fn 39 [.ptr (.O 2) 0 0] []],[.fn 40 [.ptr (.O 2) 0 0] []],[.fn 41 [.ptr (.O 2) 0 0] []]]] 0) (fun e' S'=>e'=.ret∧S'=ba 31 [(2,.ptr (.L 2) 0 0)] [(2,[.v (.bool y5.1),(vI y5.2.1),(vI y5.2.2.1),(vI y5.2.2.2)])] [] 0)) z)))
  obtain ⟨y7,gy7,h⟩:=ab h
  rcases ao h with ⟨h8,h⟩ | ⟨h8,h⟩
  ·
   obtain rfl:=aF h
   exact kP ⟨kT,[(1,⟨[],[],[],[],[],[(7,(.ptr (.O 2) 0 0,[.arr true 4 [(af.enc c)],.mapo true (wb2.1.map (dB (aS .u64) (eN eI))),.arr false 4 [[.ptr (.O 0) 0 0,.sl (wb2.2.1.map Event.enc),.sl (wb2.2.2.map eI),.mp 1]]]))],[],[],[]⟩)],[],[(5,(⟨[2,17,18,19],[],4,[],[],[]⟩,l0,.ret,ba 31 [(2,.ptr (.L 2) 0 0)] [(2,[.v (.bool y7.1),(vI y7.2.1),(vI y7.2.2.1),(vI y7.2.2.2)])] [] 0))],[]⟩ yx (fun z=>(c196_ _ (aI ((cJ.round (cfg:=cfg) (DD zx (Eq.mpr (j7 pP sP lP dP c wb2 y3 _) ⟨dL n c.gc c.am c.la c.bt wb2.1 wb2.2.1 wb2.2.2 y3 gy3,cB h4,⟨rfl,rfl⟩⟩) (cJ.round (cfg:=cfg) (DD zx (Eq.mpr (j8 pP sP lP dP c wb2 y5 _) ⟨fL n c.gc c.am c.la c.bt wb2.1 wb2.2.1 wb2.2.2 y5 gy5,cB h6,⟨rfl,rfl⟩⟩) (cJ.round (cfg:=cfg) (DD zx (Eq.mpr (j9 pP sP lP dP c wb2 y7 _) ⟨jB n c.gc c.am c.la c.bt wb2.1 wb2.2.1 wb2.2.2 y7 gy7,cB h8,⟨rfl,rfl⟩⟩) ⟨rfl,rfl⟩)))))):lP (al 20) sj (ba 31 [(2,.ptr (.L 2) 0 0),(17,.mf 3),(18,(vI 3)),(19,(vI 0))] [(2,[vF,(vI 0),(vI 0),(vI 0)])] [.arr true 4 [(af.enc c)],.mapo true (wb2.1.map (dB (aS .u64) (eN eI))),.arr false 4 [[.ptr (.O 0) 0 0,.sl (wb2.2.1.map Event.enc),.sl (wb2.2.2.map eI),.mp 1]],.arr false 1 [[.fn 39 [.ptr (.O 2) 0 0] []],[.fn 40 [.ptr (.O 2) 0 0] []],[.fn 41 [.ptr (.O 2) 0 0] []]]] 0) (fun e' S'=>e'=.ret∧S'=ba 31 [(2,.ptr (.L 2) 0 0)] [(2,[.v (.bool y7.1),(vI y7.2.1),(vI y7.2.2.1),(vI y7.2.2.2)])] [] 0)) z)))
  obtain ⟨y9,gy9,h⟩:=ab h
  obtain rfl:=aF h
  exact kP ⟨kT,[(1,⟨[],[],[],[],[],[(7,(.ptr (.O 2) 0 0,[.arr true 4 [(af.enc c)],.mapo true (wb2.1.map (dB (aS .u64) (eN eI))),.arr false 4 [[.ptr (.O 0) 0 0,.sl (wb2.2.1.map Event.enc),.sl (wb2.2.2.map eI),.mp 1]]]))],[],[],[]⟩),aZ 11 [] [(30,(bq bg.enc y9))]],[],[(5,(⟨[2,17,18,19],[],4,[],[],[]⟩,l0,(.ex 0),ba 31 [(2,.ptr (.L 2) 0 0)] [(2,[vF,(vI 0),(vI 0),(vI 0)])] [] 0))],[]⟩ yx (fun z=>(c196_ _ (aI ((cJ.round (cfg:=cfg) (DD zx (Eq.mpr (j_ pP sP lP dP c wb2 y3 _) ⟨dL n c.gc c.am c.la c.bt wb2.1 wb2.2.1 wb2.2.2 y3 gy3,cB h4,⟨rfl,rfl⟩⟩) (cJ.round (cfg:=cfg) (DD zx (Eq.mpr (kg pP sP lP dP c wb2 y5 _) ⟨fL n c.gc c.am c.la c.bt wb2.1 wb2.2.1 wb2.2.2 y5 gy5,cB h6,⟨rfl,rfl⟩⟩) (cJ.round (cfg:=cfg) (DD zx (Eq.mpr (kh pP sP lP dP c wb2 y7 _) ⟨jB n c.gc c.am c.la c.bt wb2.1 wb2.2.1 wb2.2.2 y7 gy7,cB h8,⟨rfl,rfl⟩⟩) (cJ.round (cfg:=cfg) (DD zx (Eq.mpr (ki pP sP lP dP c wb2 _) ⟨rfl,rfl⟩) ⟨rfl,rfl⟩)))))))):lP (al 20) sj (ba 31 [(2,.ptr (.L 2) 0 0),(17,.mf 3),(18,(vI 3)),(19,(vI 0))] [(2,[vF,(vI 0),(vI 0),(vI 0)])] [.arr true 4 [(af.enc c)],.mapo true (wb2.1.map (dB (aS .u64) (eN eI))),.arr false 4 [[.ptr (.O 0) 0 0,.sl (wb2.2.1.map Event.enc),.sl (wb2.2.2.map eI),.mp 1]],.arr false 1 [[.fn 39 [.ptr (.O 2) 0 0] []],[.fn 40 [.ptr (.O 2) 0 0] []],[.fn 41 [.ptr (.O 2) 0 0] []]]] 0) (fun e' S'=>e'=(.ex 0)∧S'=ba 31 [(2,.ptr (.L 2) 0 0)] [(2,[vF,(vI 0),(vI 0),(vI 0)])] [] 0)) (aI (jz n y9 gy9) z))))

def UG:List Nat:=[2,3,4,5,6,7,8,11,13,14,16,29,30,31,32,36,37,38,39,40,41,42,45,47,48,51,52,53,54,55,56,57,58,59,60,64,65,66,67,69,71,72,73,74,75,76,77,78,79,80,81,82,83,84,85,86,87,88,92,93,94,95,96,97,98,99,100,101,102,103,105,106,107,110,114,125,126,127,128,129,130,132,133,134,135,136,137,138,139,140,141,163]
noncomputable def Nq:A.sA:={ P:=Tryz.prog,pure:=fun f=>!(fP UG f),pol:=fun f=>{ esc:=match f with | 20=>[1] | 23=>[2] | 37=>[23] | 60=>[1] | 61=>[1] | 64=>[1] | 82=>[24] | 84=>[7] | 98=>[12] | 109=>[8] | _=>[],ms:=match f with | 11=>[56] | 29=>[7,10,15,16,17,43,44,45] | 36=>[38] | 64=>[54] | 66=>[13] | 82=>[32] | 135=>[6,11] | _=>[],bx:=match f with | 3=>[3,12] | 4=>[1,6,8,12] | 5=>[3,5,7] | 6=>[3,9] | 8=>[2] | 9=>[1] | 10=>[1] | 11=>[1,3] | 13=>[1,2,3] | 14=>[3,7] | 15=>[1] | 16=>[1] | 17=>[1] | 18=>[1] | 20=>[2,6] | 21=>[1,2,3] | 22=>[1] | 24=>[2,5] | 25=>[1,3] | 26=>[1] | 27=>[2,3] | 28=>[1] | 29=>[2] | 31=>[1,2] | 32=>[3] | 36=>[1,6] | 37=>[6] | 38=>[6] | 39=>[2,4] | 40=>[2,4] | 41=>[2,4] | 42=>[0] | 43=>[6] | 44=>[3,7,10] | 45=>[3,8,13] | 46=>[1] | 47=>[5,8] | 54=>[6] | 55=>[3,7] | 56=>[2] | 57=>[4,9,10,13,15,17] | 58=>[1,2] | 59=>[1,2] | 61=>[5] | 62=>[1] | 63=>[1] | 64=>[6] | 68=>[2,3] | 69=>[1] | 71=>[3,7,8] | 72=>[3] | 74=>[1,2] | 75=>[4] | 76=>[7] | 78=>[7,9] | 79=>[8] | 80=>[1,2] | 82=>[7] | 85=>[2,3] | 87=>[1,4,5] | 90=>[1] | 94=>[0] | 100=>[2,3,5,6] | 104=>[2] | 111=>[2] | 131=>[1,2] | 135=>[1] | _=>[],st:=UG } }
set_option maxRecDepth 1000000 in
set_option maxHeartbeats 0 in
theorem GZ:A.Lv Nq 2000 25 [.agg [vF,(vI 2),(vI 0),(vI 2)]] (.v (.string ⟨#[111,114,100,101,114,32,48,32,50]⟩))=(AV.v (.string ⟨#[111,114,100,101,114,32,48,32,50]⟩)=AV.v (.string ⟨#[111,114,100,101,114,32,48,32,50]⟩)):=by kernel_rfl
theorem IY:Nq.P.follows .mixedOrders=true:=by kernel_rfl
set_option maxRecDepth 1000000 in
theorem yy (n:Nat) (j:bg) (r:ByteArray) (h:rn n j=some r):aw Tryz.prog 25 [.agg (bg.enc j)] (ew (.v (.string r))):=by
  unfold rn at h
  split at h
  · rename_i hb
    have e:=bg.beq_eq hb
    subst e
    have e:=Option.some.inj h
    subst e
    exact aw.ofN (.none rfl rfl) (cfg:=Nq) (n:=2000) (CY Ih) IY (Eq.mpr GZ rfl)
  cases h

def Nr:List (Nat×PT):=[]
theorem LQ:ax (al 7) Nr (aj Tryz.prog 7)=true:=by kernel_rfl
theorem rh (n:Nat) (r:Bool) (h:nr n=some r):aw Tryz.prog 7 [] (ew (.v (.bool r))):=by
 unfold nr at h
 obtain ⟨y1,gy1,h⟩:=ab h
 obtain ⟨y2,gy2,h⟩:=ab h
 have c197_:=fun (R:Prop) (z:R)=>(aI (oZ n false y1 gy1) (aI (lb n y1 y2 gy2) z))
 rcases aA h with ⟨h3,h⟩ | ⟨h3,h⟩
 ·
  obtain rfl:=aF h
  exact kP (nA Nr [(1,⟨[],[4],[],[(4,vF)],[(1,(bq af.enc y1)),(2,(bq bg.enc y2))],[],[],[],[]⟩)]) LQ (fun z=>(c197_ _ (aI ((nL y2 (bg.mk true 0 (-1) (-1))).trans (congrArg (fun b=>some (Value.bool b)) h3):pw Tryz.prog .eql 48 [(.bool y2.OK),(.int .i64 y2.Why),(.int .i64 y2.A_),(.int .i64 y2.B)] [(.bool true),(.int .i64 0),(.int .i64 (-1)),(.int .i64 (-1))]=some (.bool false)) (aI (rfl:AV.v (.bool false)=AV.v (.bool false)) z))))
 obtain ⟨y4,gy4,h⟩:=ab h
 obtain ⟨y5,gy5,h⟩:=ab h
 obtain ⟨y6,gy6,h⟩:=ab h
 obtain rfl:=aF h
 exact kP (nA Nr [(1,⟨[],[4],[],[(4,vT)],[(1,(bq af.enc y1)),(2,(bq bg.enc y2)),(6,(bq af.enc y4)),(7,(bq bg.enc y5)),(8,.v (.string y6))],[],[],[],[]⟩)]) LQ (fun z=>(c197_ _ (aI ((nL y2 (bg.mk true 0 (-1) (-1))).trans (congrArg (fun b=>some (Value.bool b)) h3):pw Tryz.prog .eql 48 [(.bool y2.OK),(.int .i64 y2.Why),(.int .i64 y2.A_),(.int .i64 y2.B)] [(.bool true),(.int .i64 0),(.int .i64 (-1)),(.int .i64 (-1))]=some (.bool true)) (aI (rfl:AV.v (.bool true)=AV.v (.bool true)) (aI (oZ n true y4 gy4) (aI (lb n y4 y5 gy5) (aI (yy n y5 y6 gy6) z)))))))

def FT:List (Nat×PT):=[]
theorem EF:ax (al 56) FT (aj Tryz.prog 56)=true:=by kernel_rfl
theorem tw (n:Nat) (d:dg) (most:Int) (r:Bool) (h:kq n d most=some r):aw Tryz.prog 56 [(bq dg.enc d),(vI most)] (ew (.v (.bool r))):=by
 unfold kq at h
 rcases aA h with ⟨h1,h⟩ | ⟨h1,h⟩
 ·
  obtain rfl:=aF h
  exact kP (nA FT [rV 1 [(7,(vI (d.Addr.length:Int))),(10,vF)]]) EF (fun z=>(aL eI d.Addr (aB h1 z)))
 have c198_:=fun (R:Prop) (z:R)=>(aL eI d.Addr (aB h1 (aL eI d.Data z)))
 rcases aA h with ⟨h2,h⟩ | ⟨h2,h⟩
 ·
  obtain rfl:=aF h
  exact kP (nA FT [rV 1 [(7,(vI (d.Addr.length:Int))),(10,vT),(13,(vI (d.Data.length:Int))),(17,vF)]]) EF (fun z=>(c198_ _ (aB h2 z)))
 obtain rfl:=aF h
 exact kP (nA FT [rV 1 [(7,(vI (d.Addr.length:Int))),(10,vT),(13,(vI (d.Data.length:Int))),(17,vT),(20,(vI (d.Way.length:Int)))]]) EF (fun z=>(c198_ _ (aB h2 (aL eI d.Way z))))

def vG:List (Nat×PT):=[]
theorem EG:ax (al 30) vG (aj Tryz.prog 30)=true:=by kernel_rfl
noncomputable def Qd:Code:=sub (aj Tryz.prog 30) [1,1,0,1,0,0]
theorem Ns:ax (al 30) vG Qd=true:=by kernel_rfl
def KJ (l:(List Event)) (sa:Int):St:=ba 23 [(0,.sl (l.map Event.enc)),(5,(vI sa))] [] [] 0
def Qe (l:(List Event)) (tt:Unit):St:=ba 23 [] [] [] 0
def Qf (l:(List Event)) (tt:Unit):St:=ba 23 [(4,vF)] [] [] 0
def Nt (l:(List Event)) (t0:(Unit⊕Unit)):Ex×St:=match t0 with | .inl tt=>(.ex 0,Qe l tt) | .inr tt=>(.ret,Qf l tt)
theorem Qg (n:Nat) (l:(List Event)):∀ sa r,fY n l sa=some r→aQ Tryz.prog Qd (KJ l sa) (rk (KJ l) (Nt l) r):=by
 intro sa r h
 unfold fY at h
 rcases aA h with ⟨ha1,h⟩ | ⟨ha1,h⟩
 ·
  exact kQ h (nA vG [rV 4 [(12,(vI (l.length:Int))),(13,vF)]]) [wK 2 [] [] 0] Ns (cn rfl i3) (fun z=>(aL Event.enc l (aB ha1 z)))
 obtain ⟨xa2,gxa2,h⟩:=ab h
 obtain ⟨ya3,gya3,h⟩:=ab h
 have c199_:=fun (R:Prop) (z:R)=>(aL Event.enc l (aB ha1 (aM Event.enc gxa2 (aI (tw n xa2.dg 60 ya3 gya3) z))))
 rcases aA h with ⟨ha4,h⟩ | ⟨ha4,h⟩
 ·
  exact kQ h (nA vG [rV 4 [(12,(vI (l.length:Int))),(13,vT)],(6,⟨[],[],[(18,(Event.enc xa2))],[(22,vF)],[(21,.v (.bool ya3))],[],[],[],[]⟩)]) [wK 0 [0,5] [] 0] Ns cR (fun z=>(c199_ _ (aB ha4 z)))
 exact kQ h (nA vG [rV 4 [(12,(vI (l.length:Int))),(13,vT)],(6,⟨[],[],[(18,(Event.enc xa2))],[(22,vT)],[(21,.v (.bool ya3))],[],[],[],[]⟩)]) [wK 1 [4] [] 0] Ns (cn rfl gF) (fun z=>(c199_ _ (aB ha4 z)))

theorem qP (n:Nat) (l:(List Event)) (most:Int) (r:Bool) (h:gp n l most=some r):aw Tryz.prog 30 [.sl (l.map Event.enc),(vI most)] (ew (.v (.bool r))):=by
 unfold gp at h
 rcases ao h with ⟨h1,h⟩ | ⟨h1,h⟩
 ·
  obtain rfl:=aF h
  exact kP (nA vG [rV 1 [(7,(vI (l.length:Int))),(9,vT)]]) EG (fun z=>(aL Event.enc l (aB h1 z)))
 obtain ⟨t2,gt2,h⟩:=ab h
 have c200_:=fun (R:Prop) (z:R)=>(aL Event.enc l (aB h1 z))
 rcases t2 with w3 | w3
 ·
  obtain rfl:=aF h
  exact kP ⟨vG,[rV 1 [(7,(vI (l.length:Int))),(9,vF)]],[],[(4,(⟨[0,5],[],0,[],[],[]⟩,l0,(.ex 0),Qe l w3))],[]⟩ EG (fun z=>(c200_ _ (aI (eo (pl:=al 30) (KJ l) (Nt l) (Qg n l) n _ (.inl w3) gt2) z)))
 ·
  obtain rfl:=aF h
  exact kP ⟨vG,[rV 1 [(7,(vI (l.length:Int))),(9,vF)]],[],[(4,(⟨[0,5],[],0,[],[],[]⟩,l0,.ret,Qf l w3))],[]⟩ EG (fun z=>(c200_ _ (aI (eo (pl:=al 30) (KJ l) (Nt l) (Qg n l) n _ (.inr w3) gt2) z)))

def wd:List (Nat×PT):=[]
theorem AB:ax (al 8) wd (aj Tryz.prog 8)=true:=by kernel_rfl
noncomputable def Qh:Code:=sub (aj Tryz.prog 8) [1,1,0,1,0,0]
theorem KL:ax (al 8) wd Qh=true:=by kernel_rfl
def KM (c:af) (most:Int) (sa:Int×Int):St:=ba 66 [(1,(vI most)),(2,.ptr (.L 2) 0 0),(5,(vI sa.1)),(6,(vI sa.2))] [(2,(af.enc c))] [] 0
def G0 (c:af) (most:Int) (tt:Int):St:=ba 66 [(1,(vI most)),(2,.ptr (.L 2) 0 0),(5,(vI tt))] [(2,(af.enc c))] [] 0
def Qi (c:af) (most:Int) (tt:Unit):St:=ba 66 [(4,vF)] [] [] 0
def Nu (c:af) (most:Int) (t0:(Int⊕Unit)):Ex×St:=match t0 with | .inl tt=>(.ex 0,G0 c most tt) | .inr tt=>(.ret,Qi c most tt)
theorem Qj (n:Nat) (c:af) (most:Int):∀ sa r,gT n c most sa=some r→aQ Tryz.prog Qh (KM c most sa) (rk (KM c most) (Nu c most) r):=by
 intro sa r h
 unfold gT at h
 rcases aA h with ⟨ha1,h⟩ | ⟨ha1,h⟩
 ·
  exact kQ h (nA wd [rV 3 [(10,(vI (c.am.length:Int))),(12,vF)]]) [wK 2 [1,2,5] [] 0] KL (cn rfl i3) (fun z=>(aL (dA Event.enc) c.am (aB ha1 z)))
 have c201_:=fun (R:Prop) (z:R)=>(aL (dA Event.enc) c.am (aB ha1 z))
 rcases aA h with ⟨ha2,h⟩ | ⟨ha2,h⟩
 ·
  exact kQ h (nA wd [rV 3 [(10,(vI (c.am.length:Int))),(12,vT),(15,vF)]]) [wK 2 [1,2,5] [] 0] KL (cn rfl i3) (fun z=>(c201_ _ (aB ha2 z)))
 obtain ⟨xa3,gxa3,h⟩:=ab h
 obtain ⟨ya4,gya4,h⟩:=ab h
 have d0_:DC (c.am.map (dA Event.enc)) sa.2=some [.sl (xa3.map Event.enc)]:=nf (dA Event.enc) gxa3
 have c202_:=fun (R:Prop) (z:R)=>c201_ _ (aB ha2 (aI d0_ (aL Event.enc xa3 (aI d0_ (aI (qP n xa3 most ya4 gya4) z)))))
 rcases aA h with ⟨ha5,h⟩ | ⟨ha5,h⟩
 ·
  exact kQ h (nA wd [rV 3 [(10,(vI (c.am.length:Int))),(12,vT),(15,vT)],(5,⟨[],[],[(22,[.sl (xa3.map Event.enc)])],[(24,(vI (xa3.length:Int)))],[],[],[],[],[]⟩),(6,⟨[],[],[(29,[.sl (xa3.map Event.enc)])],[(33,vF)],[(32,.v (.bool ya4))],[],[],[],[]⟩)]) [wK 0 [1,2,5,6] [] 0] KL cR (fun z=>(c202_ _ (aB ha5 z)))
 exact kQ h (nA wd [rV 3 [(10,(vI (c.am.length:Int))),(12,vT),(15,vT)],(5,⟨[],[],[(22,[.sl (xa3.map Event.enc)])],[(24,(vI (xa3.length:Int)))],[],[],[],[],[]⟩),(6,⟨[],[],[(29,[.sl (xa3.map Event.enc)])],[(33,vT)],[(32,.v (.bool ya4))],[],[],[],[]⟩)]) [wK 1 [4] [2] 0] KL (cn rfl gF) (fun z=>(c202_ _ (aB ha5 z)))

theorem tz (n:Nat) (c:af) (most:Int) (r:Bool) (h:im n c most=some r):aw Tryz.prog 8 [(bq af.enc c),(vI most)] (ew (.v (.bool r))):=by
 unfold im at h
 obtain ⟨t1,gt1,h⟩:=ab h
 rcases t1 with w2 | w2
 ·
  have c203_:=fun (R:Prop) (z:R)=>(aI (eo (pl:=al 8) (KM c most) (Nu c most) (Qj n c most) n _ (.inl w2) gt1) (aL (dA Event.enc) c.am z))
  rcases aA h with ⟨h3,h⟩ | ⟨h3,h⟩
  ·
   obtain rfl:=aF h
   exact kP ⟨wd,[rV 8 [(36,(vI (c.am.length:Int))),(38,vF)]],[],[(3,(⟨[1,2,5,6],[],0,[],[],[]⟩,l0,(.ex 0),G0 c most w2))],[]⟩ AB (fun z=>(c203_ _ (aB h3 z)))
  rcases aA h with ⟨h4,h⟩ | ⟨h4,h⟩
  ·
   obtain rfl:=aF h
   exact kP ⟨wd,[rV 8 [(36,(vI (c.am.length:Int))),(38,vT),(43,vF)]],[],[(3,(⟨[1,2,5,6],[],0,[],[],[]⟩,l0,(.ex 0),G0 c most w2))],[]⟩ AB (fun z=>(c203_ _ (aB h3 (aB h4 z))))
  have c204_:=fun (R:Prop) (z:R)=>c203_ _ (aB h3 (aB h4 (aL Cell.enc c.gc z)))
  rcases aA h with ⟨h5,h⟩ | ⟨h5,h⟩
  ·
   obtain rfl:=aF h
   exact kP ⟨wd,[rV 8 [(36,(vI (c.am.length:Int))),(38,vT),(43,vT),(46,(vI (c.gc.length:Int))),(50,vF)]],[],[(3,(⟨[1,2,5,6],[],0,[],[],[]⟩,l0,(.ex 0),G0 c most w2))],[]⟩ AB (fun z=>(c204_ _ (aB h5 z)))
  have c205_:=fun (R:Prop) (z:R)=>c204_ _ (aB h5 (aL eI c.la z))
  rcases aA h with ⟨h6,h⟩ | ⟨h6,h⟩
  ·
   obtain rfl:=aF h
   exact kP ⟨wd,[rV 8 [(36,(vI (c.am.length:Int))),(38,vT),(43,vT),(46,(vI (c.gc.length:Int))),(50,vT),(53,(vI (c.la.length:Int))),(58,vF)]],[],[(3,(⟨[1,2,5,6],[],0,[],[],[]⟩,l0,(.ex 0),G0 c most w2))],[]⟩ AB (fun z=>(c205_ _ (aB h6 z)))
  obtain rfl:=aF h
  exact kP ⟨wd,[rV 8 [(36,(vI (c.am.length:Int))),(38,vT),(43,vT),(46,(vI (c.gc.length:Int))),(50,vT),(53,(vI (c.la.length:Int))),(58,vT),(61,(vI (c.bt.length:Int)))]],[],[(3,(⟨[1,2,5,6],[],0,[],[],[]⟩,l0,(.ex 0),G0 c most w2))],[]⟩ AB (fun z=>(c205_ _ (aB h6 (aL eI c.bt z))))
 ·
  obtain rfl:=aF h
  exact kP ⟨wd,[],[],[(3,(⟨[1,2,5,6],[],0,[],[],[]⟩,l0,.ret,Qi c most w2))],[]⟩ AB (fun z=>(aI (eo (pl:=al 8) (KM c most) (Nu c most) (Qj n c most) n _ (.inr w2) gt1) z))

def Qk:List (Nat×PT):=[]
theorem Ql:ax (al 9) Qk (aj Tryz.prog 9)=true:=by kernel_rfl
theorem tA (n:Nat) (c:af) (r:Bool) (h:nt n c=some r):aw Tryz.prog 9 [(bq af.enc c)] (ew (.v (.bool r))):=by
 unfold nt at h
 obtain ⟨y1,gy1,h⟩:=ab h
 obtain rfl:=aF h
 exact kP (nA Qk [aZ 1 [] [(4,(bq bg.enc y1))]]) Ql (fun z=>(aI (lb n c y1 gy1) z))

def tB:List (Nat×PT):=[(4,(ei [0,1,2,3,4,5,6,7,8,9,10,11,12,13,14,15,16,17,18,19,20,21,22,23,24]))]
theorem IZ:ax (al 53) tB (aj Tryz.prog 53)=true:=by kernel_rfl
noncomputable def Qm:Code:=sub (aj Tryz.prog 53) [1,0,1,0,0]
theorem I0:ax (al 53) tB Qm=true:=by kernel_rfl
def KN (l:(List Cell)) (sa:Int):St:=ba 35 [(0,.sl (l.map Cell.enc)),(3,(vI sa))] [] [] 0
def Qn (l:(List Cell)) (tt:Unit):St:=ba 35 [] [] [] 0
def Qo (l:(List Cell)) (tt:Unit):St:=ba 35 [(2,vF)] [] [] 0
def Nv (l:(List Cell)) (t0:(Unit⊕Unit)):Ex×St:=match t0 with | .inl tt=>(.ex 0,Qn l tt) | .inr tt=>(.ret,Qo l tt)
theorem Qp (n:Nat) (l:(List Cell)):∀ sa r,lq n l sa=some r→aQ Tryz.prog Qm (KN l sa) (rk (KN l) (Nv l) r):=by
 intro sa r h
 unfold lq at h
 rcases aA h with ⟨ha1,h⟩ | ⟨ha1,h⟩
 ·
  exact kQ h (nA tB [rV 2 [(6,(vI (l.length:Int))),(7,vF)]]) [wK 2 [] [] 0] I0 (cn rfl i3) (fun z=>(aL Cell.enc l (aB ha1 z)))
 obtain ⟨xa2,gxa2,h⟩:=ab h
 have c206_:=fun (R:Prop) (z:R)=>(aL Cell.enc l (aB ha1 (aM Cell.enc gxa2 z)))
 let e207_:LR:=[rV 2 [(6,(vI (l.length:Int))),(7,vT)]]
 rcases ao h with ⟨ha3,h⟩ | ⟨ha3,h⟩
 ·
  exact kQ h (nA tB (e207_++[(4,⟨[],[],[(12,(Cell.enc xa2))],[(17,vT)],[],[],[],[],[]⟩)])) [wK 1 [2] [] 0] I0 (cn rfl gF) (fun z=>(c206_ _ (aB ha3 z)))
 rcases aA h with ⟨ha4,h⟩ | ⟨ha4,h⟩
 ·
  exact kQ h (nA tB (e207_++[(4,⟨[],[],[(12,(Cell.enc xa2))],[(17,vF),(20,vF)],[],[],[],[],[]⟩)])) [wK 0 [0,3] [] 0] I0 cR (fun z=>(c206_ _ (aB ha3 (aB ha4 z))))
 obtain ⟨xa5,gxa5,h⟩:=ab h
 have c208_:=fun (R:Prop) (z:R)=>c206_ _ (aB ha3 (aB ha4 (aM Cell.enc gxa5 (aM Cell.enc gxa2 z))))
 rcases aA h with ⟨ha6,h⟩ | ⟨ha6,h⟩
 ·
  exact kQ h (nA tB (e207_++[(4,⟨[],[],[(12,(Cell.enc xa2)),(24,(Cell.enc xa5)),(29,(Cell.enc xa2))],[(17,vF),(20,vT),(34,vF)],[],[],[],[],[]⟩)])) [wK 0 [0,3] [] 0] I0 cR (fun z=>(c208_ _ (aB ha6 z)))
 exact kQ h (nA tB (e207_++[(4,⟨[],[],[(12,(Cell.enc xa2)),(24,(Cell.enc xa5)),(29,(Cell.enc xa2))],[(17,vF),(20,vT),(34,vT)],[],[],[],[],[]⟩)])) [wK 1 [2] [] 0] I0 (cn rfl gF) (fun z=>(c208_ _ (aB ha6 z)))

theorem zy (n:Nat) (l:(List Cell)) (r:Bool) (h:jR n l=some r):aw Tryz.prog 53 [.sl (l.map Cell.enc)] (ew (.v (.bool r))):=by
 unfold jR at h
 obtain ⟨t1,gt1,h⟩:=ab h
 rcases t1 with w2 | w2
 ·
  obtain rfl:=aF h
  exact kP ⟨tB,[],[],[(2,(⟨[0,3],[],0,[],[],[]⟩,l0,(.ex 0),Qn l w2))],[]⟩ IZ (fun z=>(aI (eo (pl:=al 53) (KN l) (Nv l) (Qp n l) n _ (.inl w2) gt1) z))
 ·
  obtain rfl:=aF h
  exact kP ⟨tB,[],[],[(2,(⟨[0,3],[],0,[],[],[]⟩,l0,.ret,Qo l w2))],[]⟩ IZ (fun z=>(aI (eo (pl:=al 53) (KN l) (Nv l) (Qp n l) n _ (.inr w2) gt1) z))

def FU:List (Nat×PT):=[]
theorem EH:ax (al 17) FU (aj Tryz.prog 17)=true:=by kernel_rfl
theorem dq (n:Nat) (e:Event) (r:Bool) (h:dG n e=some r):aw Tryz.prog 17 [(bq Event.enc e)] (ew (.v (.bool r))):=by
 unfold dG at h
 rcases ao h with ⟨h1,h⟩ | ⟨h1,h⟩
 ·
  obtain rfl:=aF h
  exact kP (nA FU [rV 1 [(6,vT)]]) EH (fun z=>(aB h1 z))
 rcases ao h with ⟨h2,h⟩ | ⟨h2,h⟩
 ·
  obtain rfl:=aF h
  exact kP (nA FU [rV 1 [(6,vF),(11,vT)]]) EH (fun z=>(aB h1 (aB h2 z)))
 obtain rfl:=aF h
 exact kP (nA FU [rV 1 [(6,vF),(11,vF)]]) EH (fun z=>(aB h1 (aB h2 z)))

def FV:List (Nat×PT):=[]
theorem EI:ax (al 18) FV (aj Tryz.prog 18)=true:=by kernel_rfl
theorem bH (n:Nat) (e:Event) (r:Bool) (h:cj n e=some r):aw Tryz.prog 18 [(bq Event.enc e)] (ew (.v (.bool r))):=by
 unfold cj at h
 rcases ao h with ⟨h1,h⟩ | ⟨h1,h⟩
 ·
  obtain rfl:=aF h
  exact kP (nA FV [rV 1 [(6,vT)]]) EI (fun z=>(aB h1 z))
 rcases ao h with ⟨h2,h⟩ | ⟨h2,h⟩
 ·
  obtain rfl:=aF h
  exact kP (nA FV [rV 1 [(6,vF),(11,vT)]]) EI (fun z=>(aB h1 (aB h2 z)))
 obtain rfl:=aF h
 exact kP (nA FV [rV 1 [(6,vF),(11,vF)]]) EI (fun z=>(aB h1 (aB h2 z)))

def I1:List (Nat×PT):=[]
theorem I2:ax (al 16) I1 (aj Tryz.prog 16)=true:=by kernel_rfl
theorem fM (n:Nat) (e:Event) (r:Bool) (h:eJ n e=some r):aw Tryz.prog 16 [(bq Event.enc e)] (ew (.v (.bool r))):=by
 unfold eJ at h
 obtain ⟨y1,gy1,h⟩:=ab h
 have c209_:=fun (R:Prop) (z:R)=>(aI (dq n e y1 gy1) z)
 rcases ao h with ⟨h2,h⟩ | ⟨h2,h⟩
 ·
  obtain rfl:=aF h
  exact kP (nA I1 [aZ 1 [(5,vT)] [(4,.v (.bool y1))]]) I2 (fun z=>(c209_ _ (aB h2 z)))
 obtain ⟨y3,gy3,h⟩:=ab h
 obtain rfl:=aF h
 exact kP (nA I1 [aZ 1 [(5,vF)] [(4,.v (.bool y1)),(7,.v (.bool y3))]]) I2 (fun z=>(c209_ _ (aB h2 (aI (bH n e y3 gy3) z))))

def tC:List (Nat×PT):=[(4,(ei [0,1,2,3,4,5,6,7,8,9,10,11,12,13,14,15,16,17,18,19,20]))]
theorem I3:ax (al 99) tC (aj Tryz.prog 99)=true:=by kernel_rfl
noncomputable def Qq:Code:=sub (aj Tryz.prog 99) [1,0,1,0,0]
theorem I4:ax (al 99) tC Qq=true:=by kernel_rfl
def KO (l:(List Int)) (sa:Int):St:=ba 31 [(0,.sl (l.map eI)),(3,(vI sa))] [] [] 0
def Qr (l:(List Int)) (tt:Unit):St:=ba 31 [] [] [] 0
def Qs (l:(List Int)) (tt:Unit):St:=ba 31 [(2,vF)] [] [] 0
def Nw (l:(List Int)) (t0:(Unit⊕Unit)):Ex×St:=match t0 with | .inl tt=>(.ex 0,Qr l tt) | .inr tt=>(.ret,Qs l tt)
theorem Qt (n:Nat) (l:(List Int)):∀ sa r,ed n l sa=some r→aQ Tryz.prog Qq (KO l sa) (rk (KO l) (Nw l) r):=by
 intro sa r h
 unfold ed at h
 rcases aA h with ⟨ha1,h⟩ | ⟨ha1,h⟩
 ·
  exact kQ h (nA tC [rV 2 [(6,(vI (l.length:Int))),(7,vF)]]) [wK 2 [] [] 0] I4 (cn rfl i3) (fun z=>(aL eI l (aB ha1 z)))
 obtain ⟨xa2,gxa2,h⟩:=ab h
 have c210_:=fun (R:Prop) (z:R)=>(aL eI l (aB ha1 (aM eI gxa2 z)))
 let e211_:LR:=[rV 2 [(6,(vI (l.length:Int))),(7,vT)]]
 rcases ao h with ⟨ha3,h⟩ | ⟨ha3,h⟩
 ·
  exact kQ h (nA tC (e211_++[(4,⟨[],[],[(12,[(vI xa2)])],[(15,vT)],[],[],[],[],[]⟩)])) [wK 1 [2] [] 0] I4 (cn rfl gF) (fun z=>(c210_ _ (aB ha3 z)))
 rcases aA h with ⟨ha4,h⟩ | ⟨ha4,h⟩
 ·
  exact kQ h (nA tC (e211_++[(4,⟨[],[],[(12,[(vI xa2)])],[(15,vF),(18,vF)],[],[],[],[],[]⟩)])) [wK 0 [0,3] [] 0] I4 cR (fun z=>(c210_ _ (aB ha3 (aB ha4 z))))
 obtain ⟨xa5,gxa5,h⟩:=ab h
 have c212_:=fun (R:Prop) (z:R)=>c210_ _ (aB ha3 (aB ha4 (aM eI gxa5 (aM eI gxa2 z))))
 rcases aA h with ⟨ha6,h⟩ | ⟨ha6,h⟩
 ·
  exact kQ h (nA tC (e211_++[(4,⟨[],[],[(12,[(vI xa2)]),(22,[(vI xa5)]),(26,[(vI xa2)])],[(15,vF),(18,vT),(30,vF)],[],[],[],[],[]⟩)])) [wK 0 [0,3] [] 0] I4 cR (fun z=>(c212_ _ (aB ha6 z)))
 exact kQ h (nA tC (e211_++[(4,⟨[],[],[(12,[(vI xa2)]),(22,[(vI xa5)]),(26,[(vI xa2)])],[(15,vF),(18,vT),(30,vT)],[],[],[],[],[]⟩)])) [wK 1 [2] [] 0] I4 (cn rfl gF) (fun z=>(c212_ _ (aB ha6 z)))

theorem yz (n:Nat) (l:(List Int)) (r:Bool) (h:lQ n l=some r):aw Tryz.prog 99 [.sl (l.map eI)] (ew (.v (.bool r))):=by
 unfold lQ at h
 obtain ⟨t1,gt1,h⟩:=ab h
 rcases t1 with w2 | w2
 ·
  obtain rfl:=aF h
  exact kP ⟨tC,[],[],[(2,(⟨[0,3],[],0,[],[],[]⟩,l0,(.ex 0),Qr l w2))],[]⟩ I3 (fun z=>(aI (eo (pl:=al 99) (KO l) (Nw l) (Qt n l) n _ (.inl w2) gt1) z))
 ·
  obtain rfl:=aF h
  exact kP ⟨tC,[],[],[(2,(⟨[0,3],[],0,[],[],[]⟩,l0,.ret,Qs l w2))],[]⟩ I3 (fun z=>(aI (eo (pl:=al 99) (KO l) (Nw l) (Qt n l) n _ (.inr w2) gt1) z))

def FW:List (Nat×PT):=[]
theorem EJ:ax (al 86) FW (aj Tryz.prog 86)=true:=by kernel_rfl
theorem ni (n:Nat) (l:(List Int)) (at_:Int) (r:Bool) (h:jS n l at_=some r):aw Tryz.prog 86 [.sl (l.map eI),(vI at_)] (ew (.v (.bool r))):=by
 unfold jS at h
 obtain ⟨y1,gy1,h⟩:=ab h
 have c213_:=fun (R:Prop) (z:R)=>(aI (yz n l y1 gy1) z)
 rcases aA h with ⟨h2,h⟩ | ⟨h2,h⟩
 ·
  obtain rfl:=aF h
  exact kP (nA FW [aZ 1 [(7,vF)] [(6,.v (.bool y1))]]) EJ (fun z=>(c213_ _ (aB h2 z)))
 have c214_:=fun (R:Prop) (z:R)=>c213_ _ (aB h2 (aL eI l z))
 rcases ao h with ⟨h3,h⟩ | ⟨h3,h⟩
 ·
  obtain rfl:=aF h
  exact kP (nA FW [aZ 1 [(7,vT),(9,(vI (l.length:Int))),(11,vT)] [(6,.v (.bool y1))]]) EJ (fun z=>(c214_ _ (aB h3 z)))
 obtain ⟨x4,gx4,h⟩:=ab h
 obtain rfl:=aF h
 exact kP (nA FW [(1,⟨[],[],[(16,[(vI x4)])],[(7,vT),(9,(vI (l.length:Int))),(11,vF),(14,(vI (l.length:Int)))],[(6,.v (.bool y1))],[],[],[],[]⟩)]) EJ (fun z=>(c214_ _ (aB h3 (aL eI l (aM eI gx4 z)))))

def bw:List (Nat×PT):=[]
theorem cI:ax (al 69) bw (aj Tryz.prog 69)=true:=by kernel_rfl
noncomputable def Qu:Code:=sub (aj Tryz.prog 69) [1,1,1,1]
noncomputable def Nx:Code:=sub (aj Tryz.prog 69) [1,1,1,0,1,1,1]
noncomputable def Ny:Code:=sub Nx [1]
noncomputable def Qv:Code:=sub Ny [1]
theorem Qw:ax (al 69) bw Qu=true:=by kernel_rfl
def Tn (sa:Bool):St:=ba 216 [(4,.v (.bool sa))] [] [] 0
def iJ (tt:Int):St:=ba 216 [(2,(vI tt))] [] [] 0
def To (tt:Int):Ex×St:=(.ret,iJ tt)
theorem i4 (n:Nat):∀ sa t,az n sa=some t→aQ Tryz.prog Qu (Tn sa) (pk (To) t):=by
 intro sa t h
 unfold az at h
 rcases ao h with ⟨ha1,h⟩ | ⟨ha1,h⟩
 ·
  exact kQ h (nA bw [rV 9 [(215,vT)]]) [wK 1 [2] [] 0] Qw (li rfl) (fun z=>(aB ha1 z))
 exact kQ h (nA bw [rV 9 [(215,vF)]]) [wK 1 [2] [] 0] Qw (li rfl) (fun z=>(aB ha1 z))

theorem G1:ax (al 69) bw Qv=true:=by kernel_rfl
def Tp (e:Event) (sd:Bool):St:=ba 216 [(1,.ptr (.L 1) 0 0),(4,.v (.bool sd))] [(1,(Event.enc e))] [] 0
def BK (e:Event) (tt:Bool):St:=ba 216 [(4,.v (.bool tt))] [] [] 0
def Tq (e:Event) (tt:Bool):Ex×St:=(.nrm,BK e tt)
theorem Df (n:Nat) (e:Event):∀ sd t,bK n e sd=some t→aQ Tryz.prog Qv (Tp e sd) (pk (Tq e) t):=by
 intro sd t h
 unfold bK at h
 rcases aA h with ⟨hd1,h⟩ | ⟨hd1,h⟩
 ·
  exact kQ h (nA bw [rV 8 [(179,vF)]]) [wK 0 [4] [1] 0] G1 (li rfl) (fun z=>(aB hd1 z))
 obtain ⟨yd2,gyd2,h⟩:=ab h
 have c215_:=fun (R:Prop) (z:R)=>(aB hd1 (aI (ni n e.dg.Addr e.At yd2 gyd2) z))
 rcases aA h with ⟨hd3,h⟩ | ⟨hd3,h⟩
 ·
  exact kQ h (nA bw [aZ 8 [(179,vT),(187,vF)] [(185,.v (.bool yd2))]]) [wK 0 [4] [1] 0] G1 (li rfl) (fun z=>(c215_ _ (aB hd3 z)))
 obtain ⟨yd4,gyd4,h⟩:=ab h
 have c216_:=fun (R:Prop) (z:R)=>c215_ _ (aB hd3 (aI (ni n e.dg.Data e.At yd4 gyd4) z))
 rcases aA h with ⟨hd5,h⟩ | ⟨hd5,h⟩
 ·
  exact kQ h (nA bw [aZ 8 [(179,vT),(187,vT),(195,vF)] [(185,.v (.bool yd2)),(193,.v (.bool yd4))]]) [wK 0 [4] [1] 0] G1 (li rfl) (fun z=>(c216_ _ (aB hd5 z)))
 obtain ⟨yd6,gyd6,h⟩:=ab h
 have c217_:=fun (R:Prop) (z:R)=>c216_ _ (aB hd5 (aI (ni n e.dg.Way e.At yd6 gyd6) z))
 rcases aA h with ⟨hd7,h⟩ | ⟨hd7,h⟩
 ·
  exact kQ h (nA bw [aZ 8 [(179,vT),(187,vT),(195,vT),(203,vF)] [(185,.v (.bool yd2)),(193,.v (.bool yd4)),(201,.v (.bool yd6))]]) [wK 0 [4] [1] 0] G1 (li rfl) (fun z=>(c217_ _ (aB hd7 z)))
 obtain ⟨yd8,gyd8,h⟩:=ab h
 have c218_:=fun (R:Prop) (z:R)=>c217_ _ (aB hd7 (aI (bH n e yd8 gyd8) z))
 rcases ao h with ⟨hd9,h⟩ | ⟨hd9,h⟩
 ·
  exact kQ h (nA bw [aZ 8 [(179,vT),(187,vT),(195,vT),(203,vT),(206,vT)] [(185,.v (.bool yd2)),(193,.v (.bool yd4)),(201,.v (.bool yd6)),(205,.v (.bool yd8))]]) [wK 0 [4] [1] 0] G1 (li rfl) (fun z=>(c218_ _ (aB hd9 z)))
 exact kQ h (nA bw [aZ 8 [(179,vT),(187,vT),(195,vT),(203,vT),(206,vF),(210,(vI (e.dg.Data.length:Int)))] [(185,.v (.bool yd2)),(193,.v (.bool yd4)),(201,.v (.bool yd6)),(205,.v (.bool yd8))]]) [wK 0 [4] [1] 0] G1 (li rfl) (fun z=>(c218_ _ (aB hd9 (aL eI e.dg.Data z))))

theorem Dh:ax (al 69) bw Ny=true:=by kernel_rfl
def Tr (e:Event) (sb:Bool):St:=ba 216 [(1,.ptr (.L 1) 0 0),(4,.v (.bool sb))] [(1,(Event.enc e))] [] 0
def EK (e:Event) (tt:Bool):St:=ba 216 [(4,.v (.bool tt))] [] [] 0
def Ts (e:Event) (tt:Bool):Ex×St:=(.nrm,EK e tt)
theorem G2 (n:Nat) (e:Event):∀ sb t,cq n e sb=some t→aQ Tryz.prog Ny (Tr e sb) (pk (Ts e) t):=by
 intro sb t h
 unfold cq at h
 rcases aA h with ⟨hb1,h⟩ | ⟨hb1,h⟩
 ·
  obtain ⟨tb2,gtb2,h⟩:=ab h
  exact kQ h ⟨bw,[rV 7 [(151,vF)]],[],[],[(8,(⟨[1,4],[],0,[],[],[]⟩,l0,.nrm,BK e tb2))]⟩ [wK 0 [4] [] 0] Dh (li rfl) (fun z=>(aB hb1 (aI (Df n e _ tb2 gtb2) z)))
 rcases aA h with ⟨hb2,h⟩ | ⟨hb2,h⟩
 ·
  have c221_:=fun (R:Prop) (z:R)=>(aB hb1 (aB hb2 z))
  rcases ao h with ⟨hb3,h⟩ | ⟨hb3,h⟩
  ·
   obtain ⟨tb4,gtb4,h⟩:=ab h
   exact kQ h ⟨bw,[rV 7 [(151,vT),(155,vF),(171,vT)]],[],[],[(8,(⟨[1,4],[],0,[],[],[]⟩,l0,.nrm,BK e tb4))]⟩ [wK 0 [4] [] 0] Dh (li rfl) (fun z=>(c221_ _ (aB hb3 (aI (Df n e _ tb4 gtb4) z))))
  obtain ⟨tb4,gtb4,h⟩:=ab h
  exact kQ h ⟨bw,[rV 7 [(151,vT),(155,vF),(171,vF)]],[],[],[(8,(⟨[1,4],[],0,[],[],[]⟩,l0,.nrm,BK e tb4))]⟩ [wK 0 [4] [] 0] Dh (li rfl) (fun z=>(c221_ _ (aB hb3 (aI (Df n e _ tb4 gtb4) z))))
 have c219_:=fun (R:Prop) (z:R)=>(aB hb1 (aB hb2 z))
 rcases aA h with ⟨hb3,h⟩ | ⟨hb3,h⟩
 ·
  rcases ao h with ⟨hb4,h⟩ | ⟨hb4,h⟩
  ·
   obtain ⟨tb5,gtb5,h⟩:=ab h
   exact kQ h ⟨bw,[rV 7 [(151,vT),(155,vT),(160,vF),(171,vT)]],[],[],[(8,(⟨[1,4],[],0,[],[],[]⟩,l0,.nrm,BK e tb5))]⟩ [wK 0 [4] [] 0] Dh (li rfl) (fun z=>(c219_ _ (aB hb3 (aB hb4 (aI (Df n e _ tb5 gtb5) z)))))
  obtain ⟨tb5,gtb5,h⟩:=ab h
  exact kQ h ⟨bw,[rV 7 [(151,vT),(155,vT),(160,vF),(171,vF)]],[],[],[(8,(⟨[1,4],[],0,[],[],[]⟩,l0,.nrm,BK e tb5))]⟩ [wK 0 [4] [] 0] Dh (li rfl) (fun z=>(c219_ _ (aB hb3 (aB hb4 (aI (Df n e _ tb5 gtb5) z)))))
 rcases ao h with ⟨hb4,h⟩ | ⟨hb4,h⟩
 ·
  obtain ⟨tb5,gtb5,h⟩:=ab h
  exact kQ h ⟨bw,[rV 7 [(151,vT),(155,vT),(160,vT),(167,vT)]],[],[],[(8,(⟨[1,4],[],0,[],[],[]⟩,l0,.nrm,BK e tb5))]⟩ [wK 0 [4] [] 0] Dh (li rfl) (fun z=>(c219_ _ (aB hb3 (aB hb4 (aI (Df n e _ tb5 gtb5) z)))))
 have c220_:=fun (R:Prop) (z:R)=>c219_ _ (aB hb3 (aB hb4 z))
 rcases ao h with ⟨hb5,h⟩ | ⟨hb5,h⟩
 ·
  obtain ⟨tb6,gtb6,h⟩:=ab h
  exact kQ h ⟨bw,[rV 7 [(151,vT),(155,vT),(160,vT),(167,vF),(171,vT)]],[],[],[(8,(⟨[1,4],[],0,[],[],[]⟩,l0,.nrm,BK e tb6))]⟩ [wK 0 [4] [] 0] Dh (li rfl) (fun z=>(c220_ _ (aB hb5 (aI (Df n e _ tb6 gtb6) z))))
 obtain ⟨tb6,gtb6,h⟩:=ab h
 exact kQ h ⟨bw,[rV 7 [(151,vT),(155,vT),(160,vT),(167,vF),(171,vF)]],[],[],[(8,(⟨[1,4],[],0,[],[],[]⟩,l0,.nrm,BK e tb6))]⟩ [wK 0 [4] [] 0] Dh (li rfl) (fun z=>(c220_ _ (aB hb5 (aI (Df n e _ tb6 gtb6) z))))

theorem G3:ax (al 69) bw Nx=true:=by kernel_rfl
def Tt (e:Event) (sa:Bool):St:=ba 216 [(1,.ptr (.L 1) 0 0),(4,.v (.bool sa))] [(1,(Event.enc e))] [] 0
def qj (e:Event) (tt:Bool):St:=ba 216 [(4,.v (.bool tt))] [] [] 0
def Tu (e:Event) (tt:Bool):Ex×St:=(.nrm,qj e tt)
theorem qQ (n:Nat) (e:Event):∀ sa t,aX n e sa=some t→aQ Tryz.prog Nx (Tt e sa) (pk (Tu e) t):=by
 intro sa t h
 unfold aX at h
 rcases aA h with ⟨ha1,h⟩ | ⟨ha1,h⟩
 ·
  obtain ⟨ta2,gta2,h⟩:=ab h
  exact kQ h ⟨bw,[rV 6 [(130,vF)]],[],[],[(7,(⟨[1,4],[],0,[],[],[]⟩,l0,.nrm,EK e ta2))]⟩ [wK 0 [4] [] 0] G3 (li rfl) (fun z=>(aB ha1 (aI (G2 n e _ ta2 gta2) z)))
 rcases aA h with ⟨ha2,h⟩ | ⟨ha2,h⟩
 ·
  have c223_:=fun (R:Prop) (z:R)=>(aB ha1 (aB ha2 z))
  rcases ao h with ⟨ha3,h⟩ | ⟨ha3,h⟩
  ·
   obtain ⟨ta4,gta4,h⟩:=ab h
   exact kQ h ⟨bw,[rV 6 [(130,vT),(134,vF),(143,vT)]],[],[],[(7,(⟨[1,4],[],0,[],[],[]⟩,l0,.nrm,EK e ta4))]⟩ [wK 0 [4] [] 0] G3 (li rfl) (fun z=>(c223_ _ (aB ha3 (aI (G2 n e _ ta4 gta4) z))))
  obtain ⟨ta4,gta4,h⟩:=ab h
  exact kQ h ⟨bw,[rV 6 [(130,vT),(134,vF),(143,vF)]],[],[],[(7,(⟨[1,4],[],0,[],[],[]⟩,l0,.nrm,EK e ta4))]⟩ [wK 0 [4] [] 0] G3 (li rfl) (fun z=>(c223_ _ (aB ha3 (aI (G2 n e _ ta4 gta4) z))))
 have c222_:=fun (R:Prop) (z:R)=>(aB ha1 (aB ha2 z))
 rcases ao h with ⟨ha3,h⟩ | ⟨ha3,h⟩
 ·
  obtain ⟨ta4,gta4,h⟩:=ab h
  exact kQ h ⟨bw,[rV 6 [(130,vT),(134,vT),(139,vT)]],[],[],[(7,(⟨[1,4],[],0,[],[],[]⟩,l0,.nrm,EK e ta4))]⟩ [wK 0 [4] [] 0] G3 (li rfl) (fun z=>(c222_ _ (aB ha3 (aI (G2 n e _ ta4 gta4) z))))
 rcases ao h with ⟨ha4,h⟩ | ⟨ha4,h⟩
 ·
  obtain ⟨ta5,gta5,h⟩:=ab h
  exact kQ h ⟨bw,[rV 6 [(130,vT),(134,vT),(139,vF),(143,vT)]],[],[],[(7,(⟨[1,4],[],0,[],[],[]⟩,l0,.nrm,EK e ta5))]⟩ [wK 0 [4] [] 0] G3 (li rfl) (fun z=>(c222_ _ (aB ha3 (aB ha4 (aI (G2 n e _ ta5 gta5) z)))))
 obtain ⟨ta5,gta5,h⟩:=ab h
 exact kQ h ⟨bw,[rV 6 [(130,vT),(134,vT),(139,vF),(143,vF)]],[],[],[(7,(⟨[1,4],[],0,[],[],[]⟩,l0,.nrm,EK e ta5))]⟩ [wK 0 [4] [] 0] G3 (li rfl) (fun z=>(c222_ _ (aB ha3 (aB ha4 (aI (G2 n e _ ta5 gta5) z)))))

theorem yA (n:Nat) (e:Event) (r:Int) (h:fw n e=some r):aw Tryz.prog 69 [(bq Event.enc e)] (ew ((vI r))):=by
 unfold fw at h
 have c224_:=fun (R:Prop) (z:R)=>(aL eI e.dg.Addr (aL eI e.dg.Data (aL eI e.dg.Way z)))
 let e225_:LR:=[rV 1 [(8,(vI (e.dg.Addr.length:Int))),(12,(vI (e.dg.Data.length:Int))),(17,(vI (e.dg.Way.length:Int)))]]
 rcases aA h with ⟨h1,h⟩ | ⟨h1,h⟩
 ·
  rcases ao h with ⟨h2,h⟩ | ⟨h2,h⟩
  ·
   obtain ⟨t3,gt3,h⟩:=ab h
   obtain rfl:=aF h
   exact kP ⟨bw,(e225_++[rV 2 [(22,vF)],rV 3 [(34,vT)]]),[],[],[(9,(⟨[4],[1],0,[],[],[]⟩,l0,.ret,iJ t3))]⟩ cI (fun z=>(c224_ _ (aB h1 (aB h2 (aI (i4 n _ t3 gt3) z)))))
  obtain ⟨t3,gt3,h⟩:=ab h
  obtain ⟨t4,gt4,h⟩:=ab h
  obtain rfl:=aF h
  exact kP ⟨bw,(e225_++[rV 2 [(22,vF)],rV 3 [(34,vF)]]),[],[],[(6,(⟨[1,4],[],0,[],[],[]⟩,l0,.nrm,qj e t3)),(9,(⟨[4],[],0,[],[],[]⟩,l0,.ret,iJ t4))]⟩ cI (fun z=>(c224_ _ (aB h1 (aB h2 (aI (qQ n e _ t3 gt3) (aI (i4 n _ t4 gt4) z))))))
 rcases aA h with ⟨h2,h⟩ | ⟨h2,h⟩
 ·
  have c241_:=fun (R:Prop) (z:R)=>c224_ _ (aB h1 (aB h2 z))
  rcases ao h with ⟨h3,h⟩ | ⟨h3,h⟩
  ·
   obtain ⟨t4,gt4,h⟩:=ab h
   obtain rfl:=aF h
   exact kP ⟨bw,(e225_++[rV 2 [(22,vT),(27,vF)],rV 3 [(34,vT)]]),[],[],[(9,(⟨[4],[1],0,[],[],[]⟩,l0,.ret,iJ t4))]⟩ cI (fun z=>(c241_ _ (aB h3 (aI (i4 n _ t4 gt4) z))))
  obtain ⟨t4,gt4,h⟩:=ab h
  obtain ⟨t5,gt5,h⟩:=ab h
  obtain rfl:=aF h
  exact kP ⟨bw,(e225_++[rV 2 [(22,vT),(27,vF)],rV 3 [(34,vF)]]),[],[],[(6,(⟨[1,4],[],0,[],[],[]⟩,l0,.nrm,qj e t4)),(9,(⟨[4],[],0,[],[],[]⟩,l0,.ret,iJ t5))]⟩ cI (fun z=>(c241_ _ (aB h3 (aI (qQ n e _ t4 gt4) (aI (i4 n _ t5 gt5) z)))))
 have c226_:=fun (R:Prop) (z:R)=>c224_ _ (aB h1 (aB h2 z))
 let e227_:LR:=[rV 2 [(22,vT),(27,vT)]]
 rcases ao h with ⟨h3,h⟩ | ⟨h3,h⟩
 ·
  let e228_:LR:=[rV 3 [(34,vT)]]
  rcases aA h with ⟨h4,h⟩ | ⟨h4,h⟩
  ·
   obtain ⟨t5,gt5,h⟩:=ab h
   obtain rfl:=aF h
   exact kP ⟨bw,(e225_++(e227_++(e228_++[rV 4 [(36,vF)]]))),[],[],[(9,(⟨[4],[1],0,[],[],[]⟩,l0,.ret,iJ t5))]⟩ cI (fun z=>(c226_ _ (aB h3 (aB h4 (aI (i4 n _ t5 gt5) z)))))
  have c229_:=fun (R:Prop) (z:R)=>c226_ _ (aB h3 (aB h4 z))
  rcases aA h with ⟨h5,h⟩ | ⟨h5,h⟩
  ·
   obtain ⟨t6,gt6,h⟩:=ab h
   obtain rfl:=aF h
   exact kP ⟨bw,(e225_++(e227_++(e228_++[rV 4 [(36,vT),(41,vF)]]))),[],[],[(9,(⟨[4],[1],0,[],[],[]⟩,l0,.ret,iJ t6))]⟩ cI (fun z=>(c229_ _ (aB h5 (aI (i4 n _ t6 gt6) z))))
  rcases aA h with ⟨h6,h⟩ | ⟨h6,h⟩
  ·
   obtain ⟨t7,gt7,h⟩:=ab h
   obtain rfl:=aF h
   exact kP ⟨bw,(e225_++(e227_++(e228_++[rV 4 [(36,vT),(41,vT),(46,vF)]]))),[],[],[(9,(⟨[4],[1],0,[],[],[]⟩,l0,.ret,iJ t7))]⟩ cI (fun z=>(c229_ _ (aB h5 (aB h6 (aI (i4 n _ t7 gt7) z)))))
  have c230_:=fun (R:Prop) (z:R)=>c229_ _ (aB h5 (aB h6 z))
  rcases aA h with ⟨h7,h⟩ | ⟨h7,h⟩
  ·
   obtain ⟨t8,gt8,h⟩:=ab h
   obtain rfl:=aF h
   exact kP ⟨bw,(e225_++(e227_++(e228_++[rV 4 [(36,vT),(41,vT),(46,vT),(51,vF)]]))),[],[],[(9,(⟨[4],[1],0,[],[],[]⟩,l0,.ret,iJ t8))]⟩ cI (fun z=>(c230_ _ (aB h7 (aI (i4 n _ t8 gt8) z))))
  rcases aA h with ⟨h8,h⟩ | ⟨h8,h⟩
  ·
   obtain ⟨t9,gt9,h⟩:=ab h
   obtain rfl:=aF h
   exact kP ⟨bw,(e225_++(e227_++(e228_++[rV 4 [(36,vT),(41,vT),(46,vT),(51,vT),(56,vF)]]))),[],[],[(9,(⟨[4],[1],0,[],[],[]⟩,l0,.ret,iJ t9))]⟩ cI (fun z=>(c230_ _ (aB h7 (aB h8 (aI (i4 n _ t9 gt9) z)))))
  have c231_:=fun (R:Prop) (z:R)=>c230_ _ (aB h7 (aB h8 z))
  rcases aA h with ⟨h9,h⟩ | ⟨h9,h⟩
  ·
   obtain ⟨t10,gt10,h⟩:=ab h
   obtain rfl:=aF h
   exact kP ⟨bw,(e225_++(e227_++(e228_++[rV 4 [(36,vT),(41,vT),(46,vT),(51,vT),(56,vT),(61,vF)]]))),[],[],[(9,(⟨[4],[1],0,[],[],[]⟩,l0,.ret,iJ t10))]⟩ cI (fun z=>(c231_ _ (aB h9 (aI (i4 n _ t10 gt10) z))))
  rcases aA h with ⟨h10,h⟩ | ⟨h10,h⟩
  ·
   obtain ⟨t11,gt11,h⟩:=ab h
   obtain rfl:=aF h
   exact kP ⟨bw,(e225_++(e227_++(e228_++[rV 4 [(36,vT),(41,vT),(46,vT),(51,vT),(56,vT),(61,vT),(66,vF)]]))),[],[],[(9,(⟨[4],[1],0,[],[],[]⟩,l0,.ret,iJ t11))]⟩ cI (fun z=>(c231_ _ (aB h9 (aB h10 (aI (i4 n _ t11 gt11) z)))))
  have c232_:=fun (R:Prop) (z:R)=>c231_ _ (aB h9 (aB h10 z))
  rcases aA h with ⟨h11,h⟩ | ⟨h11,h⟩
  ·
   obtain ⟨t12,gt12,h⟩:=ab h
   obtain rfl:=aF h
   exact kP ⟨bw,(e225_++(e227_++(e228_++[rV 4 [(36,vT),(41,vT),(46,vT),(51,vT),(56,vT),(61,vT),(66,vT),(70,vF)]]))),[],[],[(9,(⟨[4],[1],0,[],[],[]⟩,l0,.ret,iJ t12))]⟩ cI (fun z=>(c232_ _ (aB h11 (aI (i4 n _ t12 gt12) z))))
  rcases aA h with ⟨h12,h⟩ | ⟨h12,h⟩
  ·
   obtain ⟨t13,gt13,h⟩:=ab h
   obtain rfl:=aF h
   exact kP ⟨bw,(e225_++(e227_++(e228_++[rV 4 [(36,vT),(41,vT),(46,vT),(51,vT),(56,vT),(61,vT),(66,vT),(70,vT),(75,vF)]]))),[],[],[(9,(⟨[4],[1],0,[],[],[]⟩,l0,.ret,iJ t13))]⟩ cI (fun z=>(c232_ _ (aB h11 (aB h12 (aI (i4 n _ t13 gt13) z)))))
  have c233_:=fun (R:Prop) (z:R)=>c232_ _ (aB h11 (aB h12 z))
  rcases aA h with ⟨h13,h⟩ | ⟨h13,h⟩
  ·
   obtain ⟨t14,gt14,h⟩:=ab h
   obtain rfl:=aF h
   exact kP ⟨bw,(e225_++(e227_++(e228_++[rV 4 [(36,vT),(41,vT),(46,vT),(51,vT),(56,vT),(61,vT),(66,vT),(70,vT),(75,vT),(80,vF)]]))),[],[],[(9,(⟨[4],[1],0,[],[],[]⟩,l0,.ret,iJ t14))]⟩ cI (fun z=>(c233_ _ (aB h13 (aI (i4 n _ t14 gt14) z))))
  rcases ao h with ⟨h14,h⟩ | ⟨h14,h⟩
  ·
   obtain ⟨t15,gt15,h⟩:=ab h
   obtain rfl:=aF h
   exact kP ⟨bw,(e225_++(e227_++(e228_++[rV 4 [(36,vT),(41,vT),(46,vT),(51,vT),(56,vT),(61,vT),(66,vT),(70,vT),(75,vT),(80,vT),(85,vT)]]))),[],[],[(9,(⟨[4],[1],0,[],[],[]⟩,l0,.ret,iJ t15))]⟩ cI (fun z=>(c233_ _ (aB h13 (aB h14 (aI (i4 n _ t15 gt15) z)))))
  obtain ⟨t15,gt15,h⟩:=ab h
  obtain rfl:=aF h
  exact kP ⟨bw,(e225_++(e227_++(e228_++[rV 4 [(36,vT),(41,vT),(46,vT),(51,vT),(56,vT),(61,vT),(66,vT),(70,vT),(75,vT),(80,vT),(85,vF)]]))),[],[],[(9,(⟨[4],[1],0,[],[],[]⟩,l0,.ret,iJ t15))]⟩ cI (fun z=>(c233_ _ (aB h13 (aB h14 (aI (i4 n _ t15 gt15) z)))))
 let e234_:LR:=[rV 3 [(34,vF)]]
 rcases aA h with ⟨h4,h⟩ | ⟨h4,h⟩
 ·
  obtain ⟨t5,gt5,h⟩:=ab h
  obtain ⟨t6,gt6,h⟩:=ab h
  obtain rfl:=aF h
  exact kP ⟨bw,(e225_++(e227_++(e234_++[rV 5 [(91,vF)]]))),[],[],[(6,(⟨[1,4],[],0,[],[],[]⟩,l0,.nrm,qj e t5)),(9,(⟨[4],[],0,[],[],[]⟩,l0,.ret,iJ t6))]⟩ cI (fun z=>(c226_ _ (aB h3 (aB h4 (aI (qQ n e _ t5 gt5) (aI (i4 n _ t6 gt6) z))))))
 obtain ⟨y5,gy5,h⟩:=ab h
 have c235_:=fun (R:Prop) (z:R)=>c226_ _ (aB h3 (aB h4 (aI (fM n e y5 gy5) z)))
 rcases aA h with ⟨h6,h⟩ | ⟨h6,h⟩
 ·
  obtain ⟨t7,gt7,h⟩:=ab h
  obtain ⟨t8,gt8,h⟩:=ab h
  obtain rfl:=aF h
  exact kP ⟨bw,(e225_++(e227_++(e234_++[aZ 5 [(91,vT),(95,vF)] [(93,.v (.bool y5))]]))),[],[],[(6,(⟨[1,4],[],0,[],[],[]⟩,l0,.nrm,qj e t7)),(9,(⟨[4],[],0,[],[],[]⟩,l0,.ret,iJ t8))]⟩ cI (fun z=>(c235_ _ (aB h6 (aI (qQ n e _ t7 gt7) (aI (i4 n _ t8 gt8) z)))))
 rcases aA h with ⟨h7,h⟩ | ⟨h7,h⟩
 ·
  obtain ⟨t8,gt8,h⟩:=ab h
  obtain ⟨t9,gt9,h⟩:=ab h
  obtain rfl:=aF h
  exact kP ⟨bw,(e225_++(e227_++(e234_++[aZ 5 [(91,vT),(95,vT),(101,vF)] [(93,.v (.bool y5))]]))),[],[],[(6,(⟨[1,4],[],0,[],[],[]⟩,l0,.nrm,qj e t8)),(9,(⟨[4],[],0,[],[],[]⟩,l0,.ret,iJ t9))]⟩ cI (fun z=>(c235_ _ (aB h6 (aB h7 (aI (qQ n e _ t8 gt8) (aI (i4 n _ t9 gt9) z))))))
 obtain ⟨y8,gy8,h⟩:=ab h
 have c236_:=fun (R:Prop) (z:R)=>c235_ _ (aB h6 (aB h7 (aI (dq n e y8 gy8) z)))
 rcases ao h with ⟨h9,h⟩ | ⟨h9,h⟩
 ·
  obtain ⟨y10,gy10,h⟩:=ab h
  have c237_:=fun (R:Prop) (z:R)=>c236_ _ (aB h9 (aI (bH n e y10 gy10) z))
  rcases ao h with ⟨h11,h⟩ | ⟨h11,h⟩
  ·
   rcases ao h with ⟨h12,h⟩ | ⟨h12,h⟩
   ·
    obtain ⟨t13,gt13,h⟩:=ab h
    obtain ⟨t14,gt14,h⟩:=ab h
    obtain rfl:=aF h
    exact kP ⟨bw,(e225_++(e227_++(e234_++[aZ 5 [(91,vT),(95,vT),(101,vT),(104,vT),(113,vT),(124,vT)] [(93,.v (.bool y5)),(103,.v (.bool y8)),(112,.v (.bool y10))]]))),[],[],[(6,(⟨[1,4],[],0,[],[],[]⟩,l0,.nrm,qj e t13)),(9,(⟨[4],[],0,[],[],[]⟩,l0,.ret,iJ t14))]⟩ cI (fun z=>(c237_ _ (aB h11 (aB h12 (aI (qQ n e _ t13 gt13) (aI (i4 n _ t14 gt14) z))))))
   obtain ⟨t13,gt13,h⟩:=ab h
   obtain ⟨t14,gt14,h⟩:=ab h
   obtain rfl:=aF h
   exact kP ⟨bw,(e225_++(e227_++(e234_++[aZ 5 [(91,vT),(95,vT),(101,vT),(104,vT),(113,vT),(124,vF)] [(93,.v (.bool y5)),(103,.v (.bool y8)),(112,.v (.bool y10))]]))),[],[],[(6,(⟨[1,4],[],0,[],[],[]⟩,l0,.nrm,qj e t13)),(9,(⟨[4],[],0,[],[],[]⟩,l0,.ret,iJ t14))]⟩ cI (fun z=>(c237_ _ (aB h11 (aB h12 (aI (qQ n e _ t13 gt13) (aI (i4 n _ t14 gt14) z))))))
  rcases aA h with ⟨h12,h⟩ | ⟨h12,h⟩
  ·
   obtain ⟨t13,gt13,h⟩:=ab h
   obtain ⟨t14,gt14,h⟩:=ab h
   obtain rfl:=aF h
   exact kP ⟨bw,(e225_++(e227_++(e234_++[aZ 5 [(91,vT),(95,vT),(101,vT),(104,vT),(113,vF),(119,vF)] [(93,.v (.bool y5)),(103,.v (.bool y8)),(112,.v (.bool y10))]]))),[],[],[(6,(⟨[1,4],[],0,[],[],[]⟩,l0,.nrm,qj e t13)),(9,(⟨[4],[],0,[],[],[]⟩,l0,.ret,iJ t14))]⟩ cI (fun z=>(c237_ _ (aB h11 (aB h12 (aI (qQ n e _ t13 gt13) (aI (i4 n _ t14 gt14) z))))))
  have c238_:=fun (R:Prop) (z:R)=>c237_ _ (aB h11 (aB h12 z))
  rcases ao h with ⟨h13,h⟩ | ⟨h13,h⟩
  ·
   obtain ⟨t14,gt14,h⟩:=ab h
   obtain ⟨t15,gt15,h⟩:=ab h
   obtain rfl:=aF h
   exact kP ⟨bw,(e225_++(e227_++(e234_++[aZ 5 [(91,vT),(95,vT),(101,vT),(104,vT),(113,vF),(119,vT),(124,vT)] [(93,.v (.bool y5)),(103,.v (.bool y8)),(112,.v (.bool y10))]]))),[],[],[(6,(⟨[1,4],[],0,[],[],[]⟩,l0,.nrm,qj e t14)),(9,(⟨[4],[],0,[],[],[]⟩,l0,.ret,iJ t15))]⟩ cI (fun z=>(c238_ _ (aB h13 (aI (qQ n e _ t14 gt14) (aI (i4 n _ t15 gt15) z)))))
  obtain ⟨t14,gt14,h⟩:=ab h
  obtain ⟨t15,gt15,h⟩:=ab h
  obtain rfl:=aF h
  exact kP ⟨bw,(e225_++(e227_++(e234_++[aZ 5 [(91,vT),(95,vT),(101,vT),(104,vT),(113,vF),(119,vT),(124,vF)] [(93,.v (.bool y5)),(103,.v (.bool y8)),(112,.v (.bool y10))]]))),[],[],[(6,(⟨[1,4],[],0,[],[],[]⟩,l0,.nrm,qj e t14)),(9,(⟨[4],[],0,[],[],[]⟩,l0,.ret,iJ t15))]⟩ cI (fun z=>(c238_ _ (aB h13 (aI (qQ n e _ t14 gt14) (aI (i4 n _ t15 gt15) z)))))
 rcases aA h with ⟨h10,h⟩ | ⟨h10,h⟩
 ·
  obtain ⟨t11,gt11,h⟩:=ab h
  obtain ⟨t12,gt12,h⟩:=ab h
  obtain rfl:=aF h
  exact kP ⟨bw,(e225_++(e227_++(e234_++[aZ 5 [(91,vT),(95,vT),(101,vT),(104,vF),(110,vF)] [(93,.v (.bool y5)),(103,.v (.bool y8))]]))),[],[],[(6,(⟨[1,4],[],0,[],[],[]⟩,l0,.nrm,qj e t11)),(9,(⟨[4],[],0,[],[],[]⟩,l0,.ret,iJ t12))]⟩ cI (fun z=>(c236_ _ (aB h9 (aB h10 (aI (qQ n e _ t11 gt11) (aI (i4 n _ t12 gt12) z))))))
 obtain ⟨y11,gy11,h⟩:=ab h
 have c239_:=fun (R:Prop) (z:R)=>c236_ _ (aB h9 (aB h10 (aI (bH n e y11 gy11) z)))
 rcases ao h with ⟨h12,h⟩ | ⟨h12,h⟩
 ·
  rcases ao h with ⟨h13,h⟩ | ⟨h13,h⟩
  ·
   obtain ⟨t14,gt14,h⟩:=ab h
   obtain ⟨t15,gt15,h⟩:=ab h
   obtain rfl:=aF h
   exact kP ⟨bw,(e225_++(e227_++(e234_++[aZ 5 [(91,vT),(95,vT),(101,vT),(104,vF),(110,vT),(113,vT),(124,vT)] [(93,.v (.bool y5)),(103,.v (.bool y8)),(112,.v (.bool y11))]]))),[],[],[(6,(⟨[1,4],[],0,[],[],[]⟩,l0,.nrm,qj e t14)),(9,(⟨[4],[],0,[],[],[]⟩,l0,.ret,iJ t15))]⟩ cI (fun z=>(c239_ _ (aB h12 (aB h13 (aI (qQ n e _ t14 gt14) (aI (i4 n _ t15 gt15) z))))))
  obtain ⟨t14,gt14,h⟩:=ab h
  obtain ⟨t15,gt15,h⟩:=ab h
  obtain rfl:=aF h
  exact kP ⟨bw,(e225_++(e227_++(e234_++[aZ 5 [(91,vT),(95,vT),(101,vT),(104,vF),(110,vT),(113,vT),(124,vF)] [(93,.v (.bool y5)),(103,.v (.bool y8)),(112,.v (.bool y11))]]))),[],[],[(6,(⟨[1,4],[],0,[],[],[]⟩,l0,.nrm,qj e t14)),(9,(⟨[4],[],0,[],[],[]⟩,l0,.ret,iJ t15))]⟩ cI (fun z=>(c239_ _ (aB h12 (aB h13 (aI (qQ n e _ t14 gt14) (aI (i4 n _ t15 gt15) z))))))
 rcases aA h with ⟨h13,h⟩ | ⟨h13,h⟩
 ·
  obtain ⟨t14,gt14,h⟩:=ab h
  obtain ⟨t15,gt15,h⟩:=ab h
  obtain rfl:=aF h
  exact kP ⟨bw,(e225_++(e227_++(e234_++[aZ 5 [(91,vT),(95,vT),(101,vT),(104,vF),(110,vT),(113,vF),(119,vF)] [(93,.v (.bool y5)),(103,.v (.bool y8)),(112,.v (.bool y11))]]))),[],[],[(6,(⟨[1,4],[],0,[],[],[]⟩,l0,.nrm,qj e t14)),(9,(⟨[4],[],0,[],[],[]⟩,l0,.ret,iJ t15))]⟩ cI (fun z=>(c239_ _ (aB h12 (aB h13 (aI (qQ n e _ t14 gt14) (aI (i4 n _ t15 gt15) z))))))
 have c240_:=fun (R:Prop) (z:R)=>c239_ _ (aB h12 (aB h13 z))
 rcases ao h with ⟨h14,h⟩ | ⟨h14,h⟩
 ·
  obtain ⟨t15,gt15,h⟩:=ab h
  obtain ⟨t16,gt16,h⟩:=ab h
  obtain rfl:=aF h
  exact kP ⟨bw,(e225_++(e227_++(e234_++[aZ 5 [(91,vT),(95,vT),(101,vT),(104,vF),(110,vT),(113,vF),(119,vT),(124,vT)] [(93,.v (.bool y5)),(103,.v (.bool y8)),(112,.v (.bool y11))]]))),[],[],[(6,(⟨[1,4],[],0,[],[],[]⟩,l0,.nrm,qj e t15)),(9,(⟨[4],[],0,[],[],[]⟩,l0,.ret,iJ t16))]⟩ cI (fun z=>(c240_ _ (aB h14 (aI (qQ n e _ t15 gt15) (aI (i4 n _ t16 gt16) z)))))
 obtain ⟨t15,gt15,h⟩:=ab h
 obtain ⟨t16,gt16,h⟩:=ab h
 obtain rfl:=aF h
 exact kP ⟨bw,(e225_++(e227_++(e234_++[aZ 5 [(91,vT),(95,vT),(101,vT),(104,vF),(110,vT),(113,vF),(119,vT),(124,vF)] [(93,.v (.bool y5)),(103,.v (.bool y8)),(112,.v (.bool y11))]]))),[],[],[(6,(⟨[1,4],[],0,[],[],[]⟩,l0,.nrm,qj e t15)),(9,(⟨[4],[],0,[],[],[]⟩,l0,.ret,iJ t16))]⟩ cI (fun z=>(c240_ _ (aB h14 (aI (qQ n e _ t15 gt15) (aI (i4 n _ t16 gt16) z)))))

def jL:List (Nat×PT):=[(8,(ei [0,1,2,3,4,5,6,7,8,9,10,11,12,13,14,15,16,17]))]
theorem I5:ax (al 54) jL (aj Tryz.prog 54)=true:=by kernel_rfl
noncomputable def Nz:Code:=sub (aj Tryz.prog 54) [1,0,1,0,0]
noncomputable def Qx:Code:=sub Nz [1,0,0,1,1,1,1,1,0,0]
theorem KP:ax (al 54) jL Qx=true:=by kernel_rfl
def KQ (hart:Int) (l:(List Event)) (xa2:Event) (xa8:Event) (sb:Int×Bool×Int×Int):St:=ba 76 [(0,(vI hart)),(1,.sl (l.map Event.enc)),(5,(vI sb.2.2.1)),(7,(vI sb.2.2.2)),(22,.ptr (.L 6) 0 0),(23,(vI xa2.Hart)),(24,(vI hart)),(25,.v (.bool (xa2.Hart != hart))),(28,.ptr (.L 6) 0 1),(29,(vI xa2.At)),(30,(vI sb.1)),(31,.v (.bool sb.2.1)),(44,.sl (l.map Event.enc)),(45,.ptr (.L 6) 0 10),(46,(vI xa2.Pair)),(47,.fptr (Event.enc xa8) 0),(48,.fptr (Event.enc xa8) 3),(49,(vU xa8.Addr)),(50,.ptr (.L 6) 0 3),(51,(vU xa2.Addr)),(52,.v (.bool (xa8.Addr != xa2.Addr)))] [(6,(Event.enc xa2))] [] 0
def Qy (hart:Int) (l:(List Event)) (xa2:Event) (xa8:Event) (tt:Int×Bool×Int):St:=ba 76 [(0,(vI hart)),(1,.sl (l.map Event.enc)),(5,(vI tt.2.2)),(22,.ptr (.L 6) 0 0),(23,(vI xa2.Hart)),(24,(vI hart)),(25,.v (.bool (xa2.Hart != hart))),(28,.ptr (.L 6) 0 1),(29,(vI xa2.At)),(30,(vI tt.1)),(31,.v (.bool tt.2.1)),(44,.sl (l.map Event.enc)),(45,.ptr (.L 6) 0 10),(46,(vI xa2.Pair)),(47,.fptr (Event.enc xa8) 0),(48,.fptr (Event.enc xa8) 3),(49,(vU xa8.Addr)),(50,.ptr (.L 6) 0 3),(51,(vU xa2.Addr)),(52,.v (.bool (xa8.Addr != xa2.Addr)))] [(6,(Event.enc xa2))] [] 0
def Qz (hart:Int) (l:(List Event)) (xa2:Event) (xa8:Event) (tt:Unit):St:=ba 76 [(4,(vI 4))] [] [] 0
def NA (hart:Int) (l:(List Event)) (xa2:Event) (xa8:Event) (t0:((Int×Bool×Int)⊕Unit)):Ex×St:=match t0 with | .inl tt=>(.ex 2,Qy hart l xa2 xa8 tt) | .inr tt=>(.ret,Qz hart l xa2 xa8 tt)
theorem QA (n:Nat) (hart:Int) (l:(List Event)) (xa2:Event) (xa8:Event):∀ sb r,lR n hart l xa2 xa8 sb=some r→aQ Tryz.prog Qx (KQ hart l xa2 xa8 sb) (rk (KQ hart l xa2 xa8) (NA hart l xa2 xa8) r):=by
 intro sb r h
 unfold lR at h
 rcases aA h with ⟨hb1,h⟩ | ⟨hb1,h⟩
 ·
  exact kQ h (nA jL [rV 11 [(59,vF)]]) [wK 4 [0,1,5,22,23,24,25,28,29,30,31,44,45,46,47,48,49,50,51,52] [] 0] KP (cn rfl i3) (fun z=>(aB hb1 z))
 obtain ⟨xb2,gxb2,h⟩:=ab h
 have c242_:=fun (R:Prop) (z:R)=>(aB hb1 (aM Event.enc gxb2 z))
 let e243_:LR:=[rV 11 [(59,vT)]]
 rcases ao h with ⟨hb3,h⟩ | ⟨hb3,h⟩
 ·
  exact kQ h (nA jL (e243_++[(13,⟨[],[],[(64,(Event.enc xb2))],[(68,vT)],[],[],[],[],[]⟩)])) [wK 1 [4] [6] 0] KP (cn rfl gF) (fun z=>(c242_ _ (aB hb3 z)))
 have c244_:=fun (R:Prop) (z:R)=>c242_ _ (aB hb3 (aM Event.enc gxb2 z))
 rcases ao h with ⟨hb4,h⟩ | ⟨hb4,h⟩
 ·
  exact kQ h (nA jL (e243_++[(13,⟨[],[],[(64,(Event.enc xb2)),(71,(Event.enc xb2))],[(68,vF),(75,vT)],[],[],[],[],[]⟩)])) [wK 1 [4] [6] 0] KP (cn rfl gF) (fun z=>(c244_ _ (aB hb4 z)))
 exact kQ h (nA jL (e243_++[(13,⟨[],[],[(64,(Event.enc xb2)),(71,(Event.enc xb2))],[(68,vF),(75,vF)],[],[],[],[],[]⟩)])) [wK 0 [0,1,5,7,22,23,24,25,28,29,30,31,44,45,46,47,48,49,50,51,52] [] 0] KP cR (fun z=>(c244_ _ (aB hb4 z)))

theorem BL:ax (al 54) jL Nz=true:=by kernel_rfl
def KR (hart:Int) (l:(List Event)) (sa:Int):St:=ba 76 [(0,(vI hart)),(1,.sl (l.map Event.enc)),(5,(vI sa))] [] [] 0
def QB (hart:Int) (l:(List Event)) (tt:Unit):St:=ba 76 [] [] [] 0
def QC (hart:Int) (l:(List Event)) (tt:Unit):St:=ba 76 [(4,(vI 4))] [] [] 0
def NB (hart:Int) (l:(List Event)) (t0:(Unit⊕Unit)):Ex×St:=match t0 with | .inl tt=>(.ex 0,QB hart l tt) | .inr tt=>(.ret,QC hart l tt)
theorem QD (n:Nat) (hart:Int) (l:(List Event)):∀ sa r,lS n hart l sa=some r→aQ Tryz.prog Nz (KR hart l sa) (rk (KR hart l) (NB hart l) r):=by
 intro sa r h
 unfold lS at h
 rcases aA h with ⟨ha1,h⟩ | ⟨ha1,h⟩
 ·
  exact kQ h (nA jL [rV 2 [(10,(vI (l.length:Int))),(11,vF)]]) [wK 2 [] [] 0] BL (cn rfl i3) (fun z=>(aL Event.enc l (aB ha1 z)))
 obtain ⟨xa2,gxa2,h⟩:=ab h
 obtain ⟨ya3,gya3,h⟩:=ab h
 have c245_:=fun (R:Prop) (z:R)=>(aL Event.enc l (aB ha1 (aM Event.enc gxa2 (aI (yA n xa2 ya3 gya3) z))))
 let e246_:LR:=[rV 2 [(10,(vI (l.length:Int))),(11,vT)],rR 4 [(16,(Event.enc xa2))]]
 rcases ao h with ⟨ha4,h⟩ | ⟨ha4,h⟩
 ·
  exact kQ h (nA jL (e246_++[aZ 5 [(21,vT)] [(19,(vI ya3))]])) [wK 1 [4] [6] 0] BL (cn rfl gF) (fun z=>(c245_ _ (aB ha4 z)))
 rcases ao h with ⟨ha5,h⟩ | ⟨ha5,h⟩
 ·
  exact kQ h (nA jL (e246_++[aZ 5 [(21,vF),(27,vT)] [(19,(vI ya3))]])) [wK 1 [4] [6] 0] BL (cn rfl gF) (fun z=>(c245_ _ (aB ha4 (aB ha5 z))))
 have c247_:=fun (R:Prop) (z:R)=>c245_ _ (aB ha4 (aB ha5 z))
 rcases ao h with ⟨ha6,h⟩ | ⟨ha6,h⟩
 ·
  exact kQ h (nA jL (e246_++[aZ 5 [(21,vF),(27,vF),(32,vT)] [(19,(vI ya3))]])) [wK 1 [4] [6] 0] BL (cn rfl gF) (fun z=>(c247_ _ (aB ha6 z)))
 let e248_:LR:=e246_++[aZ 5 [(21,vF),(27,vF),(32,vF)] [(19,(vI ya3))]]
 rcases ao h with ⟨ha7,h⟩ | ⟨ha7,h⟩
 ·
  exact kQ h (nA jL (e248_++[rV 7 [(35,vT)]])) [wK 0 [0,1,5] [6] 0] BL cR (fun z=>(c247_ _ (aB ha6 (aB ha7 z))))
 obtain ⟨xa8,gxa8,h⟩:=ab h
 have c249_:=fun (R:Prop) (z:R)=>c247_ _ (aB ha6 (aB ha7 (aM Event.enc gxa8 z)))
 let e250_:LR:=e248_++[rV 7 [(35,vF)]]
 rcases ao h with ⟨ha9,h⟩ | ⟨ha9,h⟩
 ·
  exact kQ h (nA jL (e250_++[(8,⟨[],[],[(39,(Event.enc xa8))],[(43,vT)],[],[],[],[],[]⟩)])) [wK 1 [4] [6] 0] BL (cn rfl gF) (fun z=>(c249_ _ (aB ha9 z)))
 have c251_:=fun (R:Prop) (z:R)=>c249_ _ (aB ha9 (aM Event.enc gxa8 z))
 rcases ao h with ⟨ha10,h⟩ | ⟨ha10,h⟩
 ·
  exact kQ h (nA jL (e250_++[(8,⟨[],[],[(39,(Event.enc xa8)),(47,(Event.enc xa8))],[(43,vF),(53,vT)],[],[],[],[],[]⟩)])) [wK 1 [4] [6] 0] BL (cn rfl gF) (fun z=>(c251_ _ (aB ha10 z)))
 obtain ⟨ta11,gta11,h⟩:=ab h
 rcases ta11 with wa12 | wa12
 ·
  exact kQ h ⟨jL,(e246_++(e248_++(e250_++[(8,⟨[],[],[(39,(Event.enc xa8)),(47,(Event.enc xa8))],[(43,vF),(53,vF)],[],[],[],[],[]⟩)]))),[],[(11,(⟨[0,1,5,7,22,23,24,25,28,29,30,31,44,45,46,47,48,49,50,51,52],[],0,[],[],[]⟩,l0,(.ex 2),Qy hart l xa2 xa8 wa12))],[]⟩ [wK 0 [0,1,5] [6] 0] BL cR (fun z=>(c251_ _ (aB ha10 (aI (eo (pl:=al 54) (KQ hart l xa2 xa8) (NA hart l xa2 xa8) (QA n hart l xa2 xa8) n _ (.inl wa12) gta11) z))))
 ·
  exact kQ h ⟨jL,(e246_++(e248_++(e250_++[(8,⟨[],[],[(39,(Event.enc xa8)),(47,(Event.enc xa8))],[(43,vF),(53,vF)],[],[],[],[],[]⟩)]))),[],[(11,(⟨[0,1,5,7,22,23,24,25,28,29,30,31,44,45,46,47,48,49,50,51,52],[],0,[],[],[]⟩,l0,.ret,Qz hart l xa2 xa8 wa12))],[]⟩ [wK 1 [4] [] 0] BL (cn rfl gF) (fun z=>(c251_ _ (aB ha10 (aI (eo (pl:=al 54) (KQ hart l xa2 xa8) (NA hart l xa2 xa8) (QA n hart l xa2 xa8) n _ (.inr wa12) gta11) z))))

theorem Di (n:Nat) (hart:Int) (l:(List Event)) (r:Int) (h:mE n hart l=some r):aw Tryz.prog 54 [(vI hart),.sl (l.map Event.enc)] (ew ((vI r))):=by
 unfold mE at h
 obtain ⟨t1,gt1,h⟩:=ab h
 rcases t1 with w2 | w2
 ·
  obtain rfl:=aF h
  exact kP ⟨jL,[],[],[(2,(⟨[0,1,5],[],0,[],[],[]⟩,l0,(.ex 0),QB hart l w2))],[]⟩ I5 (fun z=>(aI (eo (pl:=al 54) (KR hart l) (NB hart l) (QD n hart l) n _ (.inl w2) gt1) z))
 ·
  obtain rfl:=aF h
  exact kP ⟨jL,[],[],[(2,(⟨[0,1,5],[],0,[],[],[]⟩,l0,.ret,QC hart l w2))],[]⟩ I5 (fun z=>(aI (eo (pl:=al 54) (KR hart l) (NB hart l) (QD n hart l) n _ (.inr w2) gt1) z))

def LS:List (Nat×PT):=[(1,(ei [0,1,2,3,4,5,6,7,8,9,10,11,12,13]))]
theorem NC:ax (al 59) LS (aj Tryz.prog 59)=true:=by kernel_rfl
theorem BM (n:Nat) (d:dg) (r:dg) (h:po n d=some r):aw Tryz.prog 59 [(bq dg.enc d)] (ew ((bq dg.enc r))):=by
 unfold po at h
 obtain ⟨h1,h⟩:=ey h
 obtain ⟨h2,h⟩:=ey h
 obtain ⟨h3,h⟩:=ey h
 obtain rfl:=aF h
 exact kP (nA LS []) NC (fun z=>(aI (Hf:cH 1 (d.Addr.map eI)=true) (aI (FG:aT (d.Addr.map eI)=true) (aI (mS h1:Nat.ble ((d.Addr.map eI).length * 8) 140737488355328=true) (aI (Hf:cH 1 (d.Data.map eI)=true) (aI (FG:aT (d.Data.map eI)=true) (aI (mS h2:Nat.ble ((d.Data.map eI).length * 8) 140737488355328=true) (aI (Hf:cH 1 (d.Way.map eI)=true) (aI (FG:aT (d.Way.map eI)=true) (aI (mS h3:Nat.ble ((d.Way.map eI).length * 8) 140737488355328=true) z))))))))))

def vH:List (Nat×PT):=[]
theorem ND:ax (al 36) vH (aj Tryz.prog 36)=true:=by kernel_rfl
noncomputable def NE:Code:=sub (aj Tryz.prog 36) [1,1,0,1,0,0]
noncomputable def QE:Code:=sub NE [1,0,0,1,0,0]
theorem QF:ax (al 36) vH QE=true:=by kernel_rfl
def NF (c:af) (sb:(List Event)×Int×Int):St:=ba 41 [(1,.ptr (.L 1) 0 0),(3,.mf 0),(4,(vI sb.2.1)),(5,(vI sb.2.2))] [(1,(af.enc c))] [.arr true 14 (sb.1.map Event.enc)] 0
def QG (c:af) (tt:(List Event)×Int):St:=ba 41 [(1,.ptr (.L 1) 0 0),(3,.mf 0),(4,(vI tt.2))] [(1,(af.enc c))] [.arr true 14 (tt.1.map Event.enc)] 0
def QH (c:af) (tt:((List Event)×Int)):Ex×St:=(.ex 2,QG c tt)
theorem Tv (n:Nat) (c:af):∀ sb r,mF n c sb=some r→aQ Tryz.prog QE (NF c sb) (rk (NF c) (QH c) r):=by
 intro sb r h
 unfold mF at h
 obtain ⟨xb1,gxb1,h⟩:=ab h
 have c252_:=fun (R:Prop) (z:R)=>(aM (dA Event.enc) gxb1 (aL Event.enc xb1 z))
 rcases aA h with ⟨hb2,h⟩ | ⟨hb2,h⟩
 ·
  exact kQ h (nA vH [(6,⟨[],[],[(18,[.sl (xb1.map Event.enc)])],[(20,(vI (xb1.length:Int))),(21,vF)],[],[],[],[],[]⟩)]) [wK 4 [1,3,4] [] 1] QF (cn rfl i3) (fun z=>(c252_ _ (aB hb2 z)))
 obtain ⟨xb3,gxb3,h⟩:=ab h
 obtain ⟨yb4,gyb4,h⟩:=ab h
 obtain ⟨hb5,h⟩:=ey h
 exact kQ h (nA vH [(6,⟨[],[],[(18,[.sl (xb1.map Event.enc)])],[(20,(vI (xb1.length:Int))),(21,vT)],[],[],[],[],[]⟩),rR 8 [(27,[.sl (xb1.map Event.enc)]),(30,(Event.enc xb3))],aZ 9 [] [(34,(bq dg.enc yb4))],(10,⟨[],[39],[],[],[],[],[(39,(0,(sb.1++([(Event.mk xb3.Hart xb3.At xb3.Kind xb3.Addr xb3.Load xb3.Store xb3.Aq xb3.Rl xb3.Pred xb3.Succ xb3.Pair yb4)]:List Event)).map Event.enc))],[],[]⟩)]) [wK 0 [1,3,4,5] [6] 1] QF cR (fun z=>(c252_ _ (aB hb2 (aM (dA Event.enc) gxb1 (aM Event.enc gxb3 (aI (BM n xb3.dg yb4 gyb4) (aI (rfl:cH 14 [[(vI xb3.Hart),(vI xb3.At),(vI xb3.Kind),(vU xb3.Addr),(vU xb3.Load),(vU xb3.Store),.v (.bool xb3.Aq),.v (.bool xb3.Rl),(vI xb3.Pred),(vI xb3.Succ),(vI xb3.Pair),.sl (yb4.Addr.map eI),.sl (yb4.Data.map eI),.sl (yb4.Way.map eI)]]=true) (aI (rfl:aT [[(vI xb3.Hart),(vI xb3.At),(vI xb3.Kind),(vU xb3.Addr),(vU xb3.Load),(vU xb3.Store),.v (.bool xb3.Aq),.v (.bool xb3.Rl),(vI xb3.Pred),(vI xb3.Succ),(vI xb3.Pair),.sl (yb4.Addr.map eI),.sl (yb4.Data.map eI),.sl (yb4.Way.map eI)]]=true) (aI (iZ hb5:Nat.ble (((sb.1.map Event.enc).length + 1) * 152) 140737488355328=true) (aI (lz Event.enc sb.1 ([(Event.mk xb3.Hart xb3.At xb3.Kind xb3.Addr xb3.Load xb3.Store xb3.Aq xb3.Rl xb3.Pred xb3.Succ xb3.Pair yb4)]:List Event)) z))))))))))

theorem QI:ax (al 36) vH NE=true:=by kernel_rfl
def NG (c:af) (sa:(List Event)×Int):St:=ba 41 [(1,.ptr (.L 1) 0 0),(3,.mf 0),(4,(vI sa.2))] [(1,(af.enc c))] [.arr true 14 (sa.1.map Event.enc)] 0
def QJ (c:af) (tt:(List Event)):St:=ba 41 [(3,.mf 0)] [] [.arr true 14 (tt.map Event.enc)] 0
def QK (c:af) (tt:((List Event))):Ex×St:=(.ex 0,QJ c tt)
theorem Tw (n:Nat) (c:af):∀ sa r,mG n c sa=some r→aQ Tryz.prog NE (NG c sa) (rk (NG c) (QK c) r):=by
 intro sa r h
 unfold mG at h
 rcases aA h with ⟨ha1,h⟩ | ⟨ha1,h⟩
 ·
  exact kQ h (nA vH [rV 3 [(10,(vI (c.am.length:Int))),(11,vF)]]) [wK 2 [3] [1] 1] QI (cn rfl i3) (fun z=>(aL (dA Event.enc) c.am (aB ha1 z)))
 obtain ⟨ta2,gta2,h⟩:=ab h
 exact kQ h ⟨vH,[rV 3 [(10,(vI (c.am.length:Int))),(11,vT)]],[],[(6,(⟨[1,3,4,5],[],1,[],[],[]⟩,l0,(.ex 2),QG c ta2))],[]⟩ [wK 0 [1,3,4] [] 1] QI cR (fun z=>(aL (dA Event.enc) c.am (aB ha1 (aI (eo (pl:=al 36) (NF c) (QH c) (Tv n c) n _ ta2 gta2) z))))

theorem tD (n:Nat) (c:af) (r:(List Event)) (h:kD n c=some r):aw Tryz.prog 36 [(bq af.enc c)] (ew (.sl (r.map Event.enc))):=by
 unfold kD at h
 obtain ⟨t1,gt1,h⟩:=ab h
 obtain rfl:=aF h
 exact kP ⟨vH,[],[],[(3,(⟨[1,3,4],[],0,[(3,14)],[],[]⟩,l0,(.ex 0),QJ c t1))],[]⟩ ND (fun z=>(aI (eo (pl:=al 36) (NG c) (QK c) (Tw n c) n _ t1 gt1) z))

def yB:List (Nat×PT):=[]
theorem I6:ax (al 70) yB (aj Tryz.prog 70)=true:=by kernel_rfl
noncomputable def QL:Code:=sub (aj Tryz.prog 70) [1,0,1,0,0]
theorem NH:ax (al 70) yB QL=true:=by kernel_rfl
def KS (l:(List Cell)) (addr:Int) (sa:Int):St:=ba 24 [(0,.sl (l.map Cell.enc)),(1,(vU addr)),(5,(vI sa))] [] [] 0
def QM (l:(List Cell)) (addr:Int) (tt:Unit):St:=ba 24 [] [] [] 0
def QN (l:(List Cell)) (addr:Int) (tt:Int):St:=ba 24 [(4,(vU tt))] [] [] 0
def NI (l:(List Cell)) (addr:Int) (t0:(Unit⊕Int)):Ex×St:=match t0 with | .inl tt=>(.ex 0,QM l addr tt) | .inr tt=>(.ret,QN l addr tt)
theorem QO (n:Nat) (l:(List Cell)) (addr:Int):∀ sa r,lu n l addr sa=some r→aQ Tryz.prog QL (KS l addr sa) (rk (KS l addr) (NI l addr) r):=by
 intro sa r h
 unfold lu at h
 rcases aA h with ⟨ha1,h⟩ | ⟨ha1,h⟩
 ·
  exact kQ h (nA yB [rV 2 [(8,(vI (l.length:Int))),(9,vF)]]) [wK 2 [] [] 0] NH (cn rfl i3) (fun z=>(aL Cell.enc l (aB ha1 z)))
 obtain ⟨xa2,gxa2,h⟩:=ab h
 have c253_:=fun (R:Prop) (z:R)=>(aL Cell.enc l (aB ha1 (aM Cell.enc gxa2 z)))
 rcases aA h with ⟨ha3,h⟩ | ⟨ha3,h⟩
 ·
  exact kQ h (nA yB [rV 2 [(8,(vI (l.length:Int))),(9,vT)],(4,⟨[],[],[(14,(Cell.enc xa2))],[(18,vF)],[],[],[],[],[]⟩)]) [wK 0 [0,1,5] [] 0] NH cR (fun z=>(c253_ _ (aB ha3 z)))
 exact kQ h (nA yB [rV 2 [(8,(vI (l.length:Int))),(9,vT)],(4,⟨[],[],[(14,(Cell.enc xa2))],[(18,vT)],[],[],[],[],[]⟩),rR 5 [(21,(Cell.enc xa2))]]) [wK 1 [4] [] 0] NH (cn rfl gF) (fun z=>(c253_ _ (aB ha3 (aM Cell.enc gxa2 z))))

theorem zA (n:Nat) (l:(List Cell)) (addr:Int) (r:Int) (h:lF n l addr=some r):aw Tryz.prog 70 [.sl (l.map Cell.enc),(vU addr)] (ew ((vU r))):=by
 unfold lF at h
 obtain ⟨t1,gt1,h⟩:=ab h
 rcases t1 with w2 | w2
 ·
  obtain rfl:=aF h
  exact kP ⟨yB,[],[],[(2,(⟨[0,1,5],[],0,[],[],[]⟩,l0,(.ex 0),QM l addr w2))],[]⟩ I6 (fun z=>(aI (eo (pl:=al 70) (KS l addr) (NI l addr) (QO n l addr) n _ (.inl w2) gt1) z))
 ·
  obtain rfl:=aF h
  exact kP ⟨yB,[],[],[(2,(⟨[0,1,5],[],0,[],[],[]⟩,l0,.ret,QN l addr w2))],[]⟩ I6 (fun z=>(aI (eo (pl:=al 70) (KS l addr) (NI l addr) (QO n l addr) n _ (.inr w2) gt1) z))

def tE:List (Nat×PT):=[(1,(ei [0,1,2,3,4,5,6,7,8,9,10,11])),(5,(ei [0,1,2,3,4,5,6,7,8])),(8,(ei [0,1,2,3,4,5,6,7,8,9,10,11,12,13,14,15,16,17,18,19,20,21,22,23,24,25]))]
theorem qk:ax (al 55) tE (aj Tryz.prog 55)=true:=by kernel_rfl
theorem BN (n:Nat) (c:af) (all:(List Event)) (n_:Int) (r:Bool) (h:cO n c all n_=some r):aw Tryz.prog 55 [(bq af.enc c),.sl (all.map Event.enc),(vI n_)] (ew (.v (.bool r))):=by
 unfold cO at h
 obtain ⟨x1,gx1,h⟩:=ab h
 obtain ⟨x2,gx2,h⟩:=ab h
 obtain ⟨y3,gy3,h⟩:=ab h
 have c254_:=fun (R:Prop) (z:R)=>(aM Event.enc gx1 (aM eI gx2 (aI (dq n x1 y3 gy3) z)))
 let e255_:LR:=[rR 1 [(11,(Event.enc x1)),(16,[(vI x2)])]]
 rcases ao h with ⟨h4,h⟩ | ⟨h4,h⟩
 ·
  obtain rfl:=aF h
  exact kP (nA tE (e255_++[aZ 2 [(18,vT)] [(20,.v (.bool y3))]])) qk (fun z=>(c254_ _ (aB h4 z)))
 let e256_:LR:=e255_++[aZ 2 [(18,vF)] [(20,.v (.bool y3))]]
 rcases ao h with ⟨h5,h⟩ | ⟨h5,h⟩
 ·
  obtain ⟨y6,gy6,h⟩:=ab h
  obtain rfl:=aF h
  exact kP (nA tE (e256_++[rV 4 [(24,vT)],aZ 5 [] [(33,(vU y6))]])) qk (fun z=>(c254_ _ (aB h4 (aB h5 (aI (zA n c.gc x1.Addr y6 gy6) z)))))
 have c257_:=fun (R:Prop) (z:R)=>c254_ _ (aB h4 (aB h5 z))
 let e258_:LR:=e256_++[rV 4 [(24,vF)]]
 rcases ao h with ⟨h6,h⟩ | ⟨h6,h⟩
 ·
  obtain rfl:=aF h
  exact kP (nA tE (e258_++[rV 6 [(38,vT)]])) qk (fun z=>(c257_ _ (aB h6 z)))
 have c259_:=fun (R:Prop) (z:R)=>c257_ _ (aB h6 (aL Event.enc all z))
 rcases ao h with ⟨h7,h⟩ | ⟨h7,h⟩
 ·
  obtain rfl:=aF h
  exact kP (nA tE (e258_++[rV 6 [(38,vF),(41,(vI (all.length:Int))),(44,vT)]])) qk (fun z=>(c259_ _ (aB h7 z)))
 rcases ao h with ⟨h8,h⟩ | ⟨h8,h⟩
 ·
  obtain rfl:=aF h
  exact kP (nA tE (e258_++[rV 6 [(35,vT),(38,vF),(41,(vI (all.length:Int))),(44,vF)]])) qk (fun z=>(c259_ _ (aB h7 (aB h8 z))))
 obtain ⟨x9,gx9,h⟩:=ab h
 obtain ⟨y10,gy10,h⟩:=ab h
 have c260_:=fun (R:Prop) (z:R)=>c259_ _ (aB h7 (aB h8 (aM Event.enc gx9 (aI (bH n x9 y10 gy10) z))))
 let e261_:LR:=e258_++[rV 6 [(35,vF),(38,vF),(41,(vI (all.length:Int))),(44,vF)]]
 rcases aA h with ⟨h11,h⟩ | ⟨h11,h⟩
 ·
  obtain rfl:=aF h
  exact kP (nA tE (e261_++[(8,⟨[],[],[(51,(Event.enc x9))],[(54,vF)],[(53,.v (.bool y10))],[],[],[],[]⟩)])) qk (fun z=>(c260_ _ (aB h11 z)))
 have c262_:=fun (R:Prop) (z:R)=>c260_ _ (aB h11 (aM Event.enc gx9 z))
 rcases aA h with ⟨h12,h⟩ | ⟨h12,h⟩
 ·
  obtain rfl:=aF h
  exact kP (nA tE (e261_++[(8,⟨[],[],[(51,(Event.enc x9)),(57,(Event.enc x9))],[(54,vT),(64,vF)],[(53,.v (.bool y10))],[],[],[],[]⟩)])) qk (fun z=>(c262_ _ (aB h12 z)))
 obtain rfl:=aF h
 exact kP (nA tE (e261_++[(8,⟨[],[],[(51,(Event.enc x9)),(57,(Event.enc x9)),(67,(Event.enc x9))],[(54,vT),(64,vT)],[(53,.v (.bool y10))],[],[],[],[]⟩)])) qk (fun z=>(c262_ _ (aB h12 (aM Event.enc gx9 z))))

def fN:List (Nat×PT):=[]
theorem oN:ax (al 28) fN (aj Tryz.prog 28)=true:=by kernel_rfl
noncomputable def QP:Code:=sub (aj Tryz.prog 28) [1,1,1,0,1,0,0]
noncomputable def QQ:Code:=sub (aj Tryz.prog 28) [1,1,1,1,1,1,1,0,1,0,0]
noncomputable def QR:Code:=sub (aj Tryz.prog 28) [1,1,1,1,1,1,1,1,1,0,1,0,0]
theorem KT:ax (al 28) fN QP=true:=by kernel_rfl
def KU (c:af) (sa:Int×Int):St:=ba 121 [(1,.ptr (.L 1) 0 0),(3,(vI sa.1)),(4,(vI sa.2))] [(1,(af.enc c))] [] 0
def G4 (c:af) (tt:Int):St:=ba 121 [(1,.ptr (.L 1) 0 0),(3,(vI tt))] [(1,(af.enc c))] [] 0
def QS (c:af) (tt:Unit):St:=ba 121 [(2,(vI 2))] [] [] 0
def NJ (c:af) (t0:(Int⊕Unit)):Ex×St:=match t0 with | .inl tt=>(.ex 0,G4 c tt) | .inr tt=>(.ret,QS c tt)
theorem QT (n:Nat) (c:af):∀ sa r,i_ n c sa=some r→aQ Tryz.prog QP (KU c sa) (rk (KU c) (NJ c) r):=by
 intro sa r h
 unfold i_ at h
 rcases aA h with ⟨ha1,h⟩ | ⟨ha1,h⟩
 ·
  exact kQ h (nA fN [rV 5 [(30,(vI (c.am.length:Int))),(31,vF)]]) [wK 2 [1,3] [] 0] KT (cn rfl i3) (fun z=>(aL (dA Event.enc) c.am (aB ha1 z)))
 obtain ⟨xa2,gxa2,h⟩:=ab h
 have c263_:=fun (R:Prop) (z:R)=>(aL (dA Event.enc) c.am (aB ha1 (aM (dA Event.enc) gxa2 (aL Event.enc xa2 z))))
 let e264_:LR:=[rV 5 [(30,(vI (c.am.length:Int))),(31,vT)],(7,⟨[],[],[(38,[.sl (xa2.map Event.enc)])],[(40,(vI (xa2.length:Int)))],[],[],[],[],[]⟩)]
 rcases ao h with ⟨ha3,h⟩ | ⟨ha3,h⟩
 ·
  exact kQ h (nA fN (e264_++[rV 8 [(44,vT)]])) [wK 1 [2] [1] 0] KT (cn rfl gF) (fun z=>(c263_ _ (aB ha3 z)))
 obtain ⟨ya4,gya4,h⟩:=ab h
 have c265_:=fun (R:Prop) (z:R)=>c263_ _ (aB ha3 (aM (dA Event.enc) gxa2 (aI (Di n sa.2 xa2 ya4 gya4) z)))
 rcases aA h with ⟨ha5,h⟩ | ⟨ha5,h⟩
 ·
  exact kQ h (nA fN (e264_++[(8,⟨[],[],[(49,[.sl (xa2.map Event.enc)])],[(44,vF),(53,vF)],[(51,(vI ya4))],[],[],[],[]⟩)])) [wK 0 [1,3,4] [] 0] KT cR (fun z=>(c265_ _ (aB ha5 z)))
 exact kQ h (nA fN (e264_++[(8,⟨[],[],[(49,[.sl (xa2.map Event.enc)])],[(44,vF),(53,vT)],[(51,(vI ya4))],[],[],[],[]⟩)])) [wK 1 [2] [1] 0] KT (cn rfl gF) (fun z=>(c265_ _ (aB ha5 z)))

theorem KV:ax (al 28) fN QQ=true:=by kernel_rfl
def KW (c:af) (w6:Int) (y7:(List Event)) (sa:Int×Int):St:=ba 121 [(1,.ptr (.L 1) 0 0),(3,(vI w6)),(5,.sl (y7.map Event.enc)),(6,(vI sa.1)),(7,(vI sa.2))] [(1,(af.enc c))] [] 0
def KX (c:af) (w6:Int) (y7:(List Event)) (tt:Int):St:=ba 121 [(1,.ptr (.L 1) 0 0),(3,(vI w6)),(5,.sl (y7.map Event.enc)),(6,(vI tt))] [(1,(af.enc c))] [] 0
def QU (c:af) (w6:Int) (y7:(List Event)) (tt:Unit):St:=ba 121 [(2,(vI 2))] [] [] 0
def NK (c:af) (w6:Int) (y7:(List Event)) (t0:(Int⊕Unit)):Ex×St:=match t0 with | .inl tt=>(.ex 2,KX c w6 y7 tt) | .inr tt=>(.ret,QU c w6 y7 tt)
theorem QV (n:Nat) (c:af) (w6:Int) (y7:(List Event)):∀ sa r,jc n c w6 y7 sa=some r→aQ Tryz.prog QQ (KW c w6 y7 sa) (rk (KW c w6 y7) (NK c w6 y7) r):=by
 intro sa r h
 unfold jc at h
 rcases aA h with ⟨ha1,h⟩ | ⟨ha1,h⟩
 ·
  exact kQ h (nA fN [rV 15 [(63,vF)]]) [wK 4 [1,3,5,6] [] 0] KV (cn rfl i3) (fun z=>(aB ha1 z))
 obtain ⟨ya2,gya2,h⟩:=ab h
 have c266_:=fun (R:Prop) (z:R)=>(aB ha1 (aI (BN n c y7 sa.2 ya2 gya2) z))
 let e267_:LR:=[rV 15 [(63,vT)]]
 rcases ao h with ⟨ha3,h⟩ | ⟨ha3,h⟩
 ·
  exact kQ h (nA fN (e267_++[aZ 17 [(70,vT)] [(69,.v (.bool ya2))]])) [wK 1 [2] [1] 0] KV (cn rfl gF) (fun z=>(c266_ _ (aB ha3 z)))
 obtain ⟨xa4,gxa4,h⟩:=ab h
 obtain ⟨ya5,gya5,h⟩:=ab h
 have c268_:=fun (R:Prop) (z:R)=>c266_ _ (aB ha3 (aM Event.enc gxa4 (aI (fM n xa4 ya5 gya5) z)))
 rcases ao h with ⟨ha6,h⟩ | ⟨ha6,h⟩
 ·
  exact kQ h (nA fN (e267_++[aZ 17 [(70,vF)] [(69,.v (.bool ya2))],(19,⟨[],[],[(73,(Event.enc xa4))],[(75,vT)],[(75,.v (.bool ya5))],[],[],[],[]⟩)])) [wK 0 [1,3,5,6,7] [] 0] KV cR (fun z=>(c268_ _ (aB ha6 z)))
 exact kQ h (nA fN (e267_++[aZ 17 [(70,vF)] [(69,.v (.bool ya2))],(19,⟨[],[],[(73,(Event.enc xa4))],[(75,vF)],[(75,.v (.bool ya5))],[],[],[],[]⟩)])) [wK 0 [1,3,5,6,7] [] 0] KV cR (fun z=>(c268_ _ (aB ha6 z)))

theorem G5:ax (al 28) fN QR=true:=by kernel_rfl
def KY (c:af) (w6:Int) (y7:(List Event)) (w10:Int) (sa:(List Bool)×Int):St:=ba 121 [(1,.ptr (.L 1) 0 0),(3,(vI w6)),(5,.sl (y7.map Event.enc)),(6,(vI w10)),(8,.mf 0),(9,(vI sa.2))] [(1,(af.enc c))] [.arr true 1 (sa.1.map eR)] 0
def NL (c:af) (w6:Int) (y7:(List Event)) (w10:Int) (tt:Unit):St:=ba 121 [(1,.ptr (.L 1) 0 0),(6,(vI w10))] [(1,(af.enc c))] [] 0
def QW (c:af) (w6:Int) (y7:(List Event)) (w10:Int) (tt:Unit):St:=ba 121 [(2,(vI 2))] [] [] 0
def NM (c:af) (w6:Int) (y7:(List Event)) (w10:Int) (t0:(Unit⊕Unit)):Ex×St:=match t0 with | .inl tt=>(.ex 4,NL c w6 y7 w10 tt) | .inr tt=>(.ret,QW c w6 y7 w10 tt)
theorem QX (n:Nat) (c:af) (w6:Int) (y7:(List Event)) (w10:Int):∀ sa r,jd n c w6 y7 w10 sa=some r→aQ Tryz.prog QR (KY c w6 y7 w10 sa) (rk (KY c w6 y7 w10) (NM c w6 y7 w10) r):=by
 intro sa r h
 unfold jd at h
 rcases aA h with ⟨ha1,h⟩ | ⟨ha1,h⟩
 ·
  exact kQ h (nA fN [rV 23 [(83,(vI (c.bt.length:Int))),(84,vF)]]) [wK 6 [1,6] [] 0] G5 (cn rfl i3) (fun z=>(aL eI c.bt (aB ha1 z)))
 obtain ⟨xa2,gxa2,h⟩:=ab h
 have c269_:=fun (R:Prop) (z:R)=>(aL eI c.bt (aB ha1 (aM eI gxa2 z)))
 let e270_:LR:=[rV 23 [(83,(vI (c.bt.length:Int))),(84,vT)],rR 25 [(90,[(vI xa2)])]]
 rcases ao h with ⟨ha3,h⟩ | ⟨ha3,h⟩
 ·
  exact kQ h (nA fN (e270_++[rV 26 [(94,vT)]])) [wK 1 [2] [1] 0] G5 (cn rfl gF) (fun z=>(c269_ _ (aB ha3 z)))
 rcases ao h with ⟨ha4,h⟩ | ⟨ha4,h⟩
 ·
  exact kQ h (nA fN (e270_++[rV 26 [(94,vF),(99,vT)]])) [wK 1 [2] [1] 0] G5 (cn rfl gF) (fun z=>(c269_ _ (aB ha3 (aB ha4 z))))
 obtain ⟨xa5,gxa5,h⟩:=ab h
 have c271_:=fun (R:Prop) (z:R)=>c269_ _ (aB ha3 (aB ha4 (aM eR gxa5 (aN eR gxa5 z))))
 rcases ao h with ⟨ha6,h⟩ | ⟨ha6,h⟩
 ·
  exact kQ h (nA fN (e270_++[(26,⟨[],[],[(102,[.v (.bool xa5)]),(103,[.v (.bool xa5)])],[(94,vF),(99,vF),(105,vT)],[],[],[],[],[]⟩)])) [wK 1 [2] [1] 0] G5 (cn rfl gF) (fun z=>(c271_ _ (aB ha6 z)))
 obtain ⟨xa7,gxa7,h⟩:=ab h
 obtain ⟨ya8,gya8,h⟩:=ab h
 have c272_:=fun (R:Prop) (z:R)=>c271_ _ (aB ha6 (aM Event.enc gxa7 (aI (fM n xa7 ya8 gya8) z)))
 rcases ao h with ⟨ha9,h⟩ | ⟨ha9,h⟩
 ·
  exact kQ h (nA fN (e270_++[(26,⟨[],[],[(102,[.v (.bool xa5)]),(103,[.v (.bool xa5)]),(108,(Event.enc xa7))],[(94,vF),(99,vF),(105,vF),(112,vT)],[(110,.v (.bool ya8))],[],[],[],[]⟩)])) [wK 1 [2] [1] 0] G5 (cn rfl gF) (fun z=>(c272_ _ (aB ha9 z)))
 exact kQ h (nA fN (e270_++[(26,⟨[],[],[(102,[.v (.bool xa5)]),(103,[.v (.bool xa5)]),(108,(Event.enc xa7))],[(94,vF),(99,vF),(105,vF),(112,vF)],[(110,.v (.bool ya8))],[],[],[],[]⟩),(28,⟨[],[],[(115,[.v (.bool xa5)]),(1000115,[.v (.bool xa5)])],[],[],[],[(1000115,(0,(sa.1.set (xa2).toNat true).map eR))],[],[]⟩)])) [wK 0 [1,3,5,6,8,9] [] 1] G5 cR (fun z=>(c272_ _ (aB ha9 (aM eR gxa5 (aN eR gxa5 (aI (fq eR sa.1 ((xa2).toNat) true) z))))))

theorem nj (n:Nat) (c:af) (r:Int) (h:eV n c=some r):aw Tryz.prog 28 [(bq af.enc c)] (ew ((vI r))):=by
 unfold eV at h
 obtain ⟨y1,gy1,h⟩:=ab h
 have c273_:=fun (R:Prop) (z:R)=>(aI (zy n c.gc y1 gy1) z)
 rcases ao h with ⟨h2,h⟩ | ⟨h2,h⟩
 ·
  obtain rfl:=aF h
  exact kP (nA fN [aZ 1 [(15,vT)] [(13,.v (.bool y1))]]) oN (fun z=>(c273_ _ (aB h2 z)))
 have c274_:=fun (R:Prop) (z:R)=>c273_ _ (aB h2 (aL (dA Event.enc) c.am z))
 rcases ao h with ⟨h3,h⟩ | ⟨h3,h⟩
 ·
  obtain rfl:=aF h
  exact kP (nA fN [aZ 1 [(15,vF),(18,(vI (c.am.length:Int))),(21,vT)] [(13,.v (.bool y1))]]) oN (fun z=>(c274_ _ (aB h3 z)))
 have c275_:=fun (R:Prop) (z:R)=>c274_ _ (aB h3 (aL (dA Event.enc) c.am z))
 rcases ao h with ⟨h4,h⟩ | ⟨h4,h⟩
 ·
  obtain rfl:=aF h
  exact kP (nA fN [aZ 1 [(15,vF),(18,(vI (c.am.length:Int))),(21,vF),(24,(vI (c.am.length:Int))),(26,vT)] [(13,.v (.bool y1))]]) oN (fun z=>(c275_ _ (aB h4 z)))
 obtain ⟨t5,gt5,h⟩:=ab h
 let e276_:LR:=[aZ 1 [(15,vF),(18,(vI (c.am.length:Int))),(21,vF),(24,(vI (c.am.length:Int))),(26,vF)] [(13,.v (.bool y1))]]
 rcases t5 with w6 | w6
 ·
  obtain ⟨y7,gy7,h⟩:=ab h
  have c277_:=fun (R:Prop) (z:R)=>c275_ _ (aB h4 (aI (eo (pl:=al 28) (KU c) (NJ c) (QT n c) n _ (.inl w6) gt5) (aI (tD n c y7 gy7) (aL eI c.la z))))
  let e278_:LR:=[aZ 10 [] [(55,.sl (y7.map Event.enc))]]
  rcases ao h with ⟨h8,h⟩ | ⟨h8,h⟩
  ·
   obtain rfl:=aF h
   exact kP ⟨fN,(e276_++(e278_++[rV 11 [(58,(vI (c.la.length:Int))),(60,vT)]])),[],[(5,(⟨[1,3,4],[],0,[],[],[]⟩,l0,(.ex 0),G4 c w6))],[]⟩ oN (fun z=>(c277_ _ (aB h8 z)))
  obtain ⟨t9,gt9,h⟩:=ab h
  let e279_:LR:=[rV 11 [(58,(vI (c.la.length:Int))),(60,vF)]]
  rcases t9 with w10 | w10
  ·
   obtain ⟨h11,h⟩:=ey h
   obtain ⟨t12,gt12,h⟩:=ab h
   have c280_:=fun (R:Prop) (z:R)=>c277_ _ (aB h8 (aI (eo (pl:=al 28) (KW c w6 y7) (NK c w6 y7) (QV n c w6 y7) n _ (.inl w10) gt9) (aI h11 (aI (lA eR _ false:List.replicate (w6).toNat [vF]=(List.replicate (w6).toNat false).map eR) z))))
   let e281_:LR:=[(21,⟨[],[79],[],[],[],[],[(79,(0,(List.replicate (w6).toNat false).map eR))],[],[]⟩)]
   rcases t12 with w13 | w13
   ·
    have c282_:=fun (R:Prop) (z:R)=>c280_ _ (aI (eo (pl:=al 28) (KY c w6 y7 w10) (NM c w6 y7 w10) (QX n c w6 y7 w10) n _ (.inl w13) gt12) (aL eI c.bt z))
    rcases ao h with ⟨h14,h⟩ | ⟨h14,h⟩
    ·
     obtain rfl:=aF h
     exact kP ⟨fN,(e276_++(e278_++(e279_++(e281_++[rV 29 [(118,(vI (c.bt.length:Int))),(120,vT)]])))),[],[(5,(⟨[1,3,4],[],0,[],[],[]⟩,l0,(.ex 0),G4 c w6)),(15,(⟨[1,3,5,6,7],[],0,[],[],[]⟩,l0,(.ex 2),KX c w6 y7 w10)),(23,(⟨[1,3,5,6,8,9],[],1,[],[],[]⟩,l0,(.ex 4),NL c w6 y7 w10 w13))],[]⟩ oN (fun z=>(c282_ _ (aB h14 z)))
    obtain rfl:=aF h
    exact kP ⟨fN,(e276_++(e278_++(e279_++(e281_++[rV 29 [(118,(vI (c.bt.length:Int))),(120,vF)]])))),[],[(5,(⟨[1,3,4],[],0,[],[],[]⟩,l0,(.ex 0),G4 c w6)),(15,(⟨[1,3,5,6,7],[],0,[],[],[]⟩,l0,(.ex 2),KX c w6 y7 w10)),(23,(⟨[1,3,5,6,8,9],[],1,[],[],[]⟩,l0,(.ex 4),NL c w6 y7 w10 w13))],[]⟩ oN (fun z=>(c282_ _ (aB h14 z)))
   ·
    obtain rfl:=aF h
    exact kP ⟨fN,(e276_++(e278_++(e279_++(e281_++[])))),[],[(5,(⟨[1,3,4],[],0,[],[],[]⟩,l0,(.ex 0),G4 c w6)),(15,(⟨[1,3,5,6,7],[],0,[],[],[]⟩,l0,(.ex 2),KX c w6 y7 w10)),(23,(⟨[1,3,5,6,8,9],[],1,[],[],[]⟩,l0,.ret,QW c w6 y7 w10 w13))],[]⟩ oN (fun z=>(c280_ _ (aI (eo (pl:=al 28) (KY c w6 y7 w10) (NM c w6 y7 w10) (QX n c w6 y7 w10) n _ (.inr w13) gt12) z)))
  ·
   obtain rfl:=aF h
   exact kP ⟨fN,(e276_++(e278_++(e279_++[]))),[],[(5,(⟨[1,3,4],[],0,[],[],[]⟩,l0,(.ex 0),G4 c w6)),(15,(⟨[1,3,5,6,7],[],0,[],[],[]⟩,l0,.ret,QU c w6 y7 w10))],[]⟩ oN (fun z=>(c277_ _ (aB h8 (aI (eo (pl:=al 28) (KW c w6 y7) (NK c w6 y7) (QV n c w6 y7) n _ (.inr w10) gt9) z))))
 ·
  obtain rfl:=aF h
  exact kP ⟨fN,(e276_++[]),[],[(5,(⟨[1,3,4],[],0,[],[],[]⟩,l0,.ret,QS c w6))],[]⟩ oN (fun z=>(c275_ _ (aB h4 (aI (eo (pl:=al 28) (KU c) (NJ c) (QT n c) n _ (.inr w6) gt5) z))))

def tF:List (Nat×PT):=[]
theorem I7:ax (al 10) tF (aj Tryz.prog 10)=true:=by kernel_rfl
noncomputable def QY:Code:=sub (aj Tryz.prog 10) [1,1,1,0,1,0,0]
noncomputable def QZ:Code:=sub (aj Tryz.prog 10) [1,1,1,1,0,1,0,0]
theorem Q1:ax (al 10) tF QY=true:=by kernel_rfl
def NN (c:af) (sa:(List Int)×Int):St:=ba 38 [(1,.ptr (.L 1) 0 0),(3,.mf 0),(4,(vI sa.2))] [(1,(af.enc c))] [.arr true 1 (sa.1.map eI)] 0
def Q2 (c:af) (tt:(List Int)):St:=ba 38 [(1,.ptr (.L 1) 0 0),(3,.mf 0)] [(1,(af.enc c))] [.arr true 1 (tt.map eI)] 0
def Q3 (c:af) (tt:((List Int))):Ex×St:=(.ex 0,Q2 c tt)
theorem Tx (n:Nat) (c:af):∀ sa r,kr n c sa=some r→aQ Tryz.prog QY (NN c sa) (rk (NN c) (Q3 c) r):=by
 intro sa r h
 unfold kr at h
 rcases aA h with ⟨ha1,h⟩ | ⟨ha1,h⟩
 ·
  exact kQ h (nA tF [rV 5 [(15,(vI (sa.1.length:Int))),(16,vF)]]) [wK 2 [1,3] [] 1] Q1 (cn rfl i3) (fun z=>(aL eI sa.1 (aB ha1 z)))
 obtain ⟨xa2,gxa2,h⟩:=ab h
 exact kQ h (nA tF [rV 5 [(15,(vI (sa.1.length:Int))),(16,vT)],(7,⟨[],[],[(21,[(vI xa2)]),(1000021,[(vI xa2)])],[],[],[],[(1000021,(0,(sa.1.set (sa.2).toNat (-1)).map eI))],[],[]⟩)]) [wK 0 [1,3,4] [] 1] Q1 cR (fun z=>(aL eI sa.1 (aB ha1 (aM eI gxa2 (aN eI gxa2 (aI (fq eI sa.1 ((sa.2).toNat) (-1)) z))))))

theorem Q4:ax (al 10) tF QZ=true:=by kernel_rfl
def NO (c:af) (sa:(List Int)×Int):St:=ba 38 [(1,.ptr (.L 1) 0 0),(3,.mf 0),(5,(vI sa.2))] [(1,(af.enc c))] [.arr true 1 (sa.1.map eI)] 0
def Q5 (c:af) (tt:(List Int)):St:=ba 38 [(3,.mf 0)] [] [.arr true 1 (tt.map eI)] 0
def Q6 (c:af) (tt:((List Int))):Ex×St:=(.ex 2,Q5 c tt)
theorem Ty (n:Nat) (c:af):∀ sa r,ku n c sa=some r→aQ Tryz.prog QZ (NO c sa) (rk (NO c) (Q6 c) r):=by
 intro sa r h
 unfold ku at h
 rcases aA h with ⟨ha1,h⟩ | ⟨ha1,h⟩
 ·
  exact kQ h (nA tF [rV 9 [(25,(vI (c.bt.length:Int))),(26,vF)]]) [wK 4 [3] [1] 1] Q4 (cn rfl i3) (fun z=>(aL eI c.bt (aB ha1 z)))
 obtain ⟨xa2,gxa2,h⟩:=ab h
 obtain ⟨xa3,gxa3,h⟩:=ab h
 exact kQ h (nA tF [rV 9 [(25,(vI (c.bt.length:Int))),(26,vT)],(11,⟨[],[],[(33,[(vI xa2)]),(36,[(vI xa3)]),(1000036,[(vI xa3)])],[],[],[],[(1000036,(0,(sa.1.set (xa2).toNat sa.2).map eI))],[],[]⟩)]) [wK 0 [1,3,5] [] 1] Q4 cR (fun z=>(aL eI c.bt (aB ha1 (aM eI gxa2 (aM eI gxa3 (aN eI gxa3 (aI (fq eI sa.1 ((xa2).toNat) sa.2) z)))))))

theorem yC (n:Nat) (c:af) (r:(List Int)) (h:lT n c=some r):aw Tryz.prog 10 [(bq af.enc c)] (ew (.sl (r.map eI))):=by
 unfold lT at h
 obtain ⟨y1,gy1,h⟩:=ab h
 have c283_:=fun (R:Prop) (z:R)=>(aI (nj n c y1 gy1) z)
 rcases ao h with ⟨h2,h⟩ | ⟨h2,h⟩
 ·
  obtain rfl:=aF h
  exact kP (nA tF [aZ 1 [(8,vT)] [(7,(vI y1))]]) I7 (fun z=>(c283_ _ (aB h2 (ce.nil:ce .nilsl (.sl (([]:List Int).map eI))))))
 obtain ⟨h3,h⟩:=ey h
 obtain ⟨t4,gt4,h⟩:=ab h
 obtain ⟨t5,gt5,h⟩:=ab h
 obtain rfl:=aF h
 exact kP ⟨tF,[aZ 1 [(8,vF)] [(7,(vI y1))],(3,⟨[],[12],[],[(11,(vI (c.la.length:Int)))],[],[],[(12,(0,(List.replicate ((c.la.length:Int)).toNat 0).map eI))],[],[]⟩)],[],[(5,(⟨[1,3,4],[],1,[],[],[]⟩,l0,(.ex 0),Q2 c t4)),(9,(⟨[1,3,5],[],1,[],[],[]⟩,l0,(.ex 2),Q5 c t5))],[]⟩ I7 (fun z=>(c283_ _ (aB h2 (aL eI c.la (aI h3 (aI (lA eI _ 0:List.replicate ((c.la.length:Int)).toNat [(vI 0)]=(List.replicate ((c.la.length:Int)).toNat 0).map eI) (aI (eo (pl:=al 10) (NN c) (Q3 c) (Tx n c) n _ t4 gt4) (aI (eo (pl:=al 10) (NO c) (Q6 c) (Ty n c) n _ t5 gt5) z))))))))

def I8:List (Nat×PT):=[]
theorem I9:ax (al 15) I8 (aj Tryz.prog 15)=true:=by kernel_rfl
theorem Dj (n:Nat) (c:af) (r:(List Event)) (h:sC n c=some r):aw Tryz.prog 15 [(bq af.enc c)] (ew (.sl (r.map Event.enc))):=by
 unfold sC at h
 obtain ⟨y1,gy1,h⟩:=ab h
 have c284_:=fun (R:Prop) (z:R)=>(aI (nj n c y1 gy1) z)
 rcases ao h with ⟨h2,h⟩ | ⟨h2,h⟩
 ·
  obtain rfl:=aF h
  exact kP (nA I8 [aZ 1 [(5,vT)] [(4,(vI y1))]]) I9 (fun z=>(c284_ _ (aB h2 (ce.nil:ce .nilsl (.sl (([]:List Event).map Event.enc))))))
 obtain ⟨y3,gy3,h⟩:=ab h
 obtain rfl:=aF h
 exact kP (nA I8 [aZ 1 [(5,vF)] [(4,(vI y1))],aZ 3 [] [(7,.sl (y3.map Event.enc))]]) I9 (fun z=>(c284_ _ (aB h2 (aI (tD n c y3 gy3) z))))

def LU:List (Nat×PT):=[(1,(ei [0,1,2,3,4,5,6,7,8]))]
theorem NP:ax (al 31) LU (aj Tryz.prog 31)=true:=by kernel_rfl
theorem sk (n:Nat) (c:af) (r:ac×Bool) (h:tV n c=some r):aw Tryz.prog 31 [(bq af.enc c)] (ew (.tup [(bq ac.enc r.1),.v (.bool r.2)])):=by
 unfold tV at h
 obtain ⟨y1,gy1,h⟩:=ab h
 obtain ⟨y2,gy2,h⟩:=ab h
 obtain rfl:=aF h
 exact kP (nA LU [aZ 1 [] [(6,.sl (y1.map Event.enc)),(9,(vI y2))]]) NP (fun z=>(aI (Dj n c y1 gy1) (aI (nj n c y2 gy2) z)))

end
end Go.Proofs.YtomahedcdcnnhaaGreatDoor
