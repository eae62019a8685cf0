/- What the functions compute, they compute: printed by a program, path by path. No conditions. -/
import Derived.Test.YtcckeabholabcaaP1
import Derived.KernelRfl
namespace Go.Proofs.Ytcckeabholabcaa
open Go A
set_option linter.unusedVariables false
set_option maxRecDepth 100000
set_option maxHeartbeats 0
section
variable (pc:Nat→List AV→(AV→Prop)→Prop) (sc:Nat→List AV→List Ob→(AV→List Ob→Prop)→Prop) (lp:Pol→Code→St→(Ex→St→Prop)→Prop) (cd:CutP)

noncomputable def c_kit_OwnCand_S3_L1:Code:=sub (bodyOf Try.prog 19) [1,1,0,1,0,0]
theorem ordB_kit_OwnCand_S3_L1:ordB (polF 19) ord19 c_kit_OwnCand_S3_L1=true:=by kernel_rfl
def kit_OwnCand_S3_L1_S (c:Cand) (ob:(List Int)) (ob_:(List Int)) (ob__:(List (List Event))) (ob___:(List Int)) (ob____:(List Int)) (ob_____:(List (List Event))) (y1:(List Cell)) (sa:(List (List Event))×Int):St:=mkS 34 [(1,.ptr (.L 1) 0 0),(2,.ptr (.L 2) 0 0),(3,.ptr (.L 3) 0 0),(4,(vI sa.2))] [(3,[.sl (y1.map Cell.enc),.mf 8,.mf 6,.mf 7]),(2,[.nilsl,.nilsl,.nilsl,.nilsl]),(1,(Cand.enc c))] [.arr true 1 (ob.map eI),.arr true 1 (ob_.map eI),.arr true 1 (ob__.map (eSl Event.enc)),.arr true 1 (ob___.map eI),.arr true 1 (ob____.map eI),.arr true 1 (ob_____.map (eSl Event.enc)),.arr true 1 (c.From.map eI),.arr true 1 (c.Order.map eI),.arr true 1 (sa.1.map (eSl Event.enc))] 6
def kit_OwnCand_S3_L1_T0 (c:Cand) (ob:(List Int)) (ob_:(List Int)) (ob__:(List (List Event))) (ob___:(List Int)) (ob____:(List Int)) (ob_____:(List (List Event))) (y1:(List Cell)) (tt:(List (List Event))):St:=mkS 34 [(2,.ptr (.L 2) 0 0),(3,.ptr (.L 3) 0 0)] [(3,[.sl (y1.map Cell.enc),.mf 8,.mf 6,.mf 7]),(2,[.nilsl,.nilsl,.nilsl,.nilsl])] [.arr true 1 (ob.map eI),.arr true 1 (ob_.map eI),.arr true 1 (ob__.map (eSl Event.enc)),.arr true 1 (ob___.map eI),.arr true 1 (ob____.map eI),.arr true 1 (ob_____.map (eSl Event.enc)),.arr true 1 (c.From.map eI),.arr true 1 (c.Order.map eI),.arr true 1 (tt.map (eSl Event.enc))] 6
def kit_OwnCand_S3_L1_out (c:Cand) (ob:(List Int)) (ob_:(List Int)) (ob__:(List (List Event))) (ob___:(List Int)) (ob____:(List Int)) (ob_____:(List (List Event))) (y1:(List Cell)) (tt:((List (List Event)))):Ex×St:=(.ex 0,kit_OwnCand_S3_L1_T0 c ob ob_ ob__ ob___ ob____ ob_____ y1 tt)
theorem kit_OwnCand_S3_L1_sim (n:Nat) (c:Cand) (ob:(List Int)) (ob_:(List Int)) (ob__:(List (List Event))) (ob___:(List Int)) (ob____:(List Int)) (ob_____:(List (List Event))) (y1:(List Cell)):∀ sa r,kit_OwnCand_S3_L1 n c ob ob_ ob__ ob___ ob____ ob_____ y1 sa=some r→CodeD Try.prog c_kit_OwnCand_S3_L1 (kit_OwnCand_S3_L1_S c ob ob_ ob__ ob___ ob____ ob_____ y1 sa) (rk (kit_OwnCand_S3_L1_S c ob ob_ ob__ ob___ ob____ ob_____ y1) (kit_OwnCand_S3_L1_out c ob ob_ ob__ ob___ ob____ ob_____ y1) r):=by
 intro sa r h
 unfold kit_OwnCand_S3_L1 at h
 rcases iteN h with ⟨ha1,h⟩ | ⟨ha1,h⟩
 ·
  obtain rfl:=soI h
  exact kR ⟨ord19,[rV 3 [(18,(vI (c.Harts.length:Int))),(19,vF)]],[],[],[]⟩ [(2,⟨[2,3],[1],9,[],[],[]⟩,⟨[],[],[]⟩)] ordB_kit_OwnCand_S3_L1 (rkE rfl neE) (fun z=>(aL (eSl Event.enc) c.Harts (aB ha1 z))) (by kernel_rfl)
 obtain ⟨xa2,gxa2,h⟩:=bindE h
 obtain ⟨ya3,gya3,h⟩:=bindE h
 obtain ⟨ha4,h⟩:=grdE h
 obtain rfl:=soI h
 exact kR ⟨ord19,[rV 3 [(18,(vI (c.Harts.length:Int))),(19,vT)],(5,⟨[],[31],[(27,[.sl (xa2.map Event.enc)])],[],[(29,.sl (ya3.map Event.enc))],[],[(31,(8,(sa.1++([ya3]:List (List Event))).map (eSl Event.enc)))],[]⟩)],[],[],[]⟩ [(0,⟨[1,2,3,4],[],9,[],[],[]⟩,⟨[],[],[]⟩)] ordB_kit_OwnCand_S3_L1 rkN (fun z=>(aL (eSl Event.enc) c.Harts (aB ha1 (aM (eSl Event.enc) gxa2 (aI (kit_OwnEvents_sim n xa2 ya3 gya3) (aI (rfl:szOk 1 [[.sl (ya3.map Event.enc)]]=true) (aI (rfl:okRows [[.sl (ya3.map Event.enc)]]=true) (aI (ble_maps1 ha4:Nat.ble (((sa.1.map (eSl Event.enc)).length + 1) * 24) 140737488355328=true) (aI (app_map (eSl Event.enc) sa.1 ([ya3]:List (List Event))) z))))))))) (by kernel_rfl)

def kit_OwnCand_S3_R (c:Cand) (ob:(List Int)) (ob_:(List Int)) (ob__:(List (List Event))) (ob___:(List Int)) (ob____:(List Int)) (ob_____:(List (List Event))) (y:((List Cell)×(List Int)×(List Int)×(List (List Event)))):AV×List Ob:=(.agg [.sl (y.1.map Cell.enc),.mf 8,.mf 6,.mf 7],[.arr true 1 (ob.map eI),.arr true 1 (ob_.map eI),.arr true 1 (ob__.map (eSl Event.enc)),.arr true 1 (ob___.map eI),.arr true 1 (ob____.map eI),.arr true 1 (ob_____.map (eSl Event.enc)),.arr true 1 (y.2.1.map eI),.arr true 1 (y.2.2.1.map eI),.arr true 1 (y.2.2.2.map (eSl Event.enc))])
theorem kit_OwnCand_S3_sim (n:Nat) (c:Cand) (ob:(List Int)) (ob_:(List Int)) (ob__:(List (List Event))) (ob___:(List Int)) (ob____:(List Int)) (ob_____:(List (List Event))) (y:((List Cell)×(List Int)×(List Int)×(List (List Event)))) (h:kit_OwnCand_S3 n c ob ob_ ob__ ob___ ob____ ob_____=some y):SD Try.prog 19 [(aAgg Cand.enc c)] [.arr true 1 (ob.map eI),.arr true 1 (ob_.map eI),.arr true 1 (ob__.map (eSl Event.enc)),.arr true 1 (ob___.map eI),.arr true 1 (ob____.map eI),.arr true 1 (ob_____.map (eSl Event.enc))] (fun r' o'=>r'=(kit_OwnCand_S3_R c ob ob_ ob__ ob___ ob____ ob_____ y).1∧o'=(kit_OwnCand_S3_R c ob ob_ ob__ ob___ ob____ ob_____ y).2):=by
 unfold kit_OwnCand_S3 at h
 obtain ⟨y1,gy1,h⟩:=bindE h
 obtain ⟨y2,gy2,h⟩:=bindE h
 obtain ⟨y3,gy3,h⟩:=bindE h
 obtain ⟨t4,gt4,h⟩:=bindE h
 obtain rfl:=soI h
 exact kS ⟨ord19,[(1,⟨[],[],[],[],[(7,.sl (y1.map Cell.enc))],[(10,(.mf 6,[.arr true 1 (ob.map eI),.arr true 1 (ob_.map eI),.arr true 1 (ob__.map (eSl Event.enc)),.arr true 1 (ob___.map eI),.arr true 1 (ob____.map eI),.arr true 1 (ob_____.map (eSl Event.enc)),.arr true 1 (c.From.map eI)])),(13,(.mf 7,[.arr true 1 (ob.map eI),.arr true 1 (ob_.map eI),.arr true 1 (ob__.map (eSl Event.enc)),.arr true 1 (ob___.map eI),.arr true 1 (ob____.map eI),.arr true 1 (ob_____.map (eSl Event.enc)),.arr true 1 (c.From.map eI),.arr true 1 (c.Order.map eI)]))],[],[]⟩)],[],[(3,(⟨[1,2,3,4],[],8,[],[(3,1,1)],[]⟩,⟨[],[],[]⟩,(.ex 0),kit_OwnCand_S3_L1_T0 c ob ob_ ob__ ob___ ob____ ob_____ y1 t4))],[]⟩ ordB19 ⟨rfl,rfl⟩ (fun z=>(aI (kit_Own_Cell_sim n c.First y1 gy1) (aI (kit_Own_int_S6_sim n c.From ob ob_ ob__ ob___ ob____ ob_____ y2 gy2) (aI (kit_Own_int_S7_sim n c.Order ob ob_ ob__ ob___ ob____ ob_____ c.From y3 gy3) (aI (okL (pl:=polF 19) (kit_OwnCand_S3_L1_S c ob ob_ ob__ ob___ ob____ ob_____ y1) (kit_OwnCand_S3_L1_out c ob ob_ ob__ ob___ ob____ ob_____ y1) (kit_OwnCand_S3_L1_sim n c ob ob_ ob__ ob___ ob____ ob_____ y1) n _ t4 gt4) z))))) (by kernel_rfl)

def ord17:List (Nat×PT):=[]
theorem ordB17:ordB (polF 17) ord17 (bodyOf Try.prog 17)=true:=by kernel_rfl
theorem cand_First_sim (n:Nat) (c:Cand) (addr:Int) (r:Int) (h:cand_First n c addr=some r):PCall Try.prog 17 [(aAgg Cand.enc c),(vU addr)] (eqA ((vU r))):=by
 unfold cand_First at h
 obtain ⟨y1,gy1,h⟩:=bindE h
 rcases iteE h with ⟨h2,h⟩ | ⟨h2,h⟩
 ·
  obtain rfl:=soI h
  exact kP ⟨ord17,[rVC 1 [(7,vT)] [(6,(vI y1))]],[],[],[]⟩ ordB17 (fun z=>(aI (cand_Check_sim n c y1 gy1) (aB h2 z))) (by kernel_rfl)
 obtain ⟨y3,gy3,h⟩:=bindE h
 obtain rfl:=soI h
 exact kP ⟨ord17,[rVC 1 [(7,vF)] [(6,(vI y1))],rVC 3 [] [(11,(vU y3))]],[],[],[]⟩ ordB17 (fun z=>(aI (cand_Check_sim n c y1 gy1) (aB h2 (aI (cand_found_sim n c.First addr y3 gy3) z)))) (by kernel_rfl)

end
end Go.Proofs.Ytcckeabholabcaa
