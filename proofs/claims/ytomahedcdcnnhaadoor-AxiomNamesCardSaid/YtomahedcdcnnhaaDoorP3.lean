/- What the functions compute, they compute: printed by a program, path by path. No conditions. -/
import Derived.Test.YtomahedcdcnnhaaDoorP2
import Derived.KernelRfl
namespace Go.Proofs.YtomahedcdcnnhaaDoor
open Go A
set_option linter.unusedVariables false
set_option maxRecDepth 100000
set_option maxHeartbeats 0
section
variable (pc:Nat→List AV→(AV→Prop)→Prop) (sc:Nat→List AV→List Ob→(AV→List Ob→Prop)→Prop) (lp:Pol→Code→St→(Ex→St→Prop)→Prop) (cd:CutP)

def ord15:List (Nat×PT):=[]
theorem ordB15:ordB (polF 15) ord15 (bodyOf Tryd.prog 15)=true:=by kernel_rfl
theorem axiom_bad_sim (n:Nat) (why:Int) (a:Int) (b:Int) (r:Judged) (h:axiom_bad n why a b=some r):PCall Tryd.prog 15 [(vI why),(vI a),(vI b)] (eqA ((aAgg Judged.enc r))):=by
 unfold axiom_bad at h
 obtain rfl:=soI h
 exact kP ⟨ord15,[],[],[],[]⟩ ordB15 (fun z=>z) (by kernel_rfl)

noncomputable def c_slices_Repeat_int_int_S2_L1:Code:=sub (bodyOf Tryd.prog 38) [1,1,1,1,1,1,0,0,0]
theorem ordB_slices_Repeat_int_int_S2_L1:ordB (polF 38) ord38 c_slices_Repeat_int_int_S2_L1=true:=by kernel_rfl
def slices_Repeat_int_int_S2_L1_S (ob:(List Cell)) (ob_:(List (List Event))) (ob__:(List Int)) (ob___:(List Int)) (ob____:(List Event)) (sa:(List Int)×Int):St:=mkS 48 [(7,.mf 1),(8,(vI sa.2))] [] [.arr true 7 [[.fptr [.sl (ob.map Cell.enc),.sl (ob_.map (eSl Event.enc)),.sl (ob__.map eI),.sl (ob___.map eI)] 0,.sl (ob____.map Event.enc),.nilsl,.nilsl,.nilsl,.nilsl,.nilsl]],.arr true 1 (sa.1.map eI)] 1
def slices_Repeat_int_int_S2_L1_T0 (ob:(List Cell)) (ob_:(List (List Event))) (ob__:(List Int)) (ob___:(List Int)) (ob____:(List Event)) (tt:(List Int)):St:=mkS 48 [(7,.mf 1)] [] [.arr true 7 [[.fptr [.sl (ob.map Cell.enc),.sl (ob_.map (eSl Event.enc)),.sl (ob__.map eI),.sl (ob___.map eI)] 0,.sl (ob____.map Event.enc),.nilsl,.nilsl,.nilsl,.nilsl,.nilsl]],.arr true 1 (tt.map eI)] 1
def slices_Repeat_int_int_S2_L1_out (ob:(List Cell)) (ob_:(List (List Event))) (ob__:(List Int)) (ob___:(List Int)) (ob____:(List Event)) (tt:((List Int))):Ex×St:=(.ex 0,slices_Repeat_int_int_S2_L1_T0 ob ob_ ob__ ob___ ob____ tt)
theorem slices_Repeat_int_int_S2_L1_sim (n:Nat) (ob:(List Cell)) (ob_:(List (List Event))) (ob__:(List Int)) (ob___:(List Int)) (ob____:(List Event)):∀ sa r,slices_Repeat_int_int_S2_L1 n ob ob_ ob__ ob___ ob____ sa=some r→CodeD Tryd.prog c_slices_Repeat_int_int_S2_L1 (slices_Repeat_int_int_S2_L1_S ob ob_ ob__ ob___ ob____ sa) (rk (slices_Repeat_int_int_S2_L1_S ob ob_ ob__ ob___ ob____) (slices_Repeat_int_int_S2_L1_out ob ob_ ob__ ob___ ob____) r):=by
 intro sa r h
 unfold slices_Repeat_int_int_S2_L1 at h
 rcases iteN h with ⟨ha1,h⟩ | ⟨ha1,h⟩
 ·
  obtain rfl:=soI h
  exact kR ⟨ord38,[rV 8 [(36,(vI (sa.1.length:Int))),(37,vF)]],[],[],[]⟩ [(2,⟨[7],[],2,[],[],[]⟩,⟨[],[],[]⟩)] ordB_slices_Repeat_int_int_S2_L1 (rkE rfl neE) (fun z=>(aL eI sa.1 (aB ha1 z))) (by kernel_rfl)
 obtain ⟨ha2,h⟩:=grdE h
 obtain ⟨ha3,h⟩:=grdE h
 obtain ⟨ha4,h⟩:=grdE h
 obtain rfl:=soI h
 exact kR ⟨ord38,[rV 8 [(36,(vI (sa.1.length:Int))),(37,vT)],(9,⟨[],[41,44],[],[(41,.msl 1 ((sa.2).toNat) (sa.1.length - (sa.2).toNat) 0),(44,.msl 1 0 ((sa.2).toNat) (sa.1.length - (sa.2).toNat)),(45,.v (.int .i64 ((min ((sa.1.drop 0).take ((sa.2).toNat)).length (sa.1.length - (sa.2).toNat):Nat):Int)))],[],[],[(45,(1,(sa.1.take ((sa.2).toNat)++(((sa.1.drop 0).take ((sa.2).toNat)).take (sa.1.length - (sa.2).toNat)++sa.1.drop ((sa.2).toNat + min ((sa.1.drop 0).take ((sa.2).toNat)).length (sa.1.length - (sa.2).toNat)))).map eI))],[],[]⟩)],[],[],[]⟩ [(0,⟨[7,8],[],2,[],[],[]⟩,⟨[],[],[]⟩)] ordB_slices_Repeat_int_int_S2_L1 rkN (fun z=>(aL eI sa.1 (aB ha1 (aI (cut_hi ha2:(decide ((0:Int)≤sa.2)&&decide (sa.2≤(((sa.1.map eI).length:Nat):Int)))=true) (aI (msl_len2 eI sa.1 _ _ _ _:AV.msl 1 (sa.2).toNat ((sa.1.map eI).length - (sa.2).toNat) 0=AV.msl 1 ((sa.2).toNat) (sa.1.length - (sa.2).toNat) 0) (aI (cut_hi ha3:(decide ((0:Int)≤sa.2)&&decide (sa.2≤(((sa.1.map eI).length:Nat):Int)))=true) (aI (msl_len eI sa.1 _ _ _ _:AV.msl 1 0 ((sa.2).toNat - 0) ((sa.1.map eI).length - (sa.2).toNat)=AV.msl 1 0 ((sa.2).toNat) (sa.1.length - (sa.2).toNat)) (aI ((by rw [← List.map_drop,← List.map_take]; exact okM):okRows (((sa.1.map eI).drop 0).take ((sa.2).toNat))=true) (aI ((by rw [List.length_map]; exact ha4):Nat.ble ((sa.2).toNat + (sa.1.length - (sa.2).toNat)) (sa.1.map eI).length=true) (aI ((by simp [List.map_take,List.map_drop]):AV.v (.int .i64 ((min (((sa.1.map eI).drop 0).take ((sa.2).toNat)).length (sa.1.length - (sa.2).toNat):Nat):Int))=AV.v (.int .i64 ((min ((sa.1.drop 0).take ((sa.2).toNat)).length (sa.1.length - (sa.2).toNat):Nat):Int))) (aI ((by simp [List.map_take,List.map_drop]):(sa.1.map eI).take ((sa.2).toNat)++((((sa.1.map eI).drop 0).take ((sa.2).toNat)).take (sa.1.length - (sa.2).toNat)++(sa.1.map eI).drop ((sa.2).toNat + min (((sa.1.map eI).drop 0).take ((sa.2).toNat)).length (sa.1.length - (sa.2).toNat)))=(sa.1.take ((sa.2).toNat)++(((sa.1.drop 0).take ((sa.2).toNat)).take (sa.1.length - (sa.2).toNat)++sa.1.drop ((sa.2).toNat + min ((sa.1.drop 0).take ((sa.2).toNat)).length (sa.1.length - (sa.2).toNat)))).map eI) (aI ((by rw [← List.map_drop,← List.map_take]; exact okM):okRows (((sa.1.map eI).drop 0).take ((sa.2).toNat))=true) (aI ((by rw [List.length_map]; exact ha4):Nat.ble ((sa.2).toNat + (sa.1.length - (sa.2).toNat)) (sa.1.map eI).length=true) (aI ((by simp [List.map_take,List.map_drop]):AV.v (.int .i64 ((min (((sa.1.map eI).drop 0).take ((sa.2).toNat)).length (sa.1.length - (sa.2).toNat):Nat):Int))=AV.v (.int .i64 ((min ((sa.1.drop 0).take ((sa.2).toNat)).length (sa.1.length - (sa.2).toNat):Nat):Int))) (aI ((by simp [List.map_take,List.map_drop]):(sa.1.map eI).take ((sa.2).toNat)++((((sa.1.map eI).drop 0).take ((sa.2).toNat)).take (sa.1.length - (sa.2).toNat)++(sa.1.map eI).drop ((sa.2).toNat + min (((sa.1.map eI).drop 0).take ((sa.2).toNat)).length (sa.1.length - (sa.2).toNat)))=(sa.1.take ((sa.2).toNat)++(((sa.1.drop 0).take ((sa.2).toNat)).take (sa.1.length - (sa.2).toNat)++sa.1.drop ((sa.2).toNat + min ((sa.1.drop 0).take ((sa.2).toNat)).length (sa.1.length - (sa.2).toNat)))).map eI) (aI (rfl:mkS 48 [(7,.mf 1),(8,.v (.int .i64 (addW .i64 sa.2 ((min ((sa.1.drop 0).take ((sa.2).toNat)).length (sa.1.length - (sa.2).toNat):Nat):Int)))),(34,(vI sa.2)),(35,.mf 1),(36,(vI (sa.1.length:Int))),(37,vT),(38,(vI sa.2)),(39,.mf 1),(40,(vI sa.2)),(41,.msl 1 ((sa.2).toNat) (sa.1.length - (sa.2).toNat) 0),(42,.mf 1),(43,(vI sa.2)),(44,.msl 1 0 ((sa.2).toNat) (sa.1.length - (sa.2).toNat)),(45,.v (.int .i64 ((min ((sa.1.drop 0).take ((sa.2).toNat)).length (sa.1.length - (sa.2).toNat):Nat):Int))),(46,.v (.int .i64 (addW .i64 sa.2 ((min ((sa.1.drop 0).take ((sa.2).toNat)).length (sa.1.length - (sa.2).toNat):Nat):Int))))] [] [.arr true 7 [[.fptr [.sl (ob.map Cell.enc),.sl (ob_.map (eSl Event.enc)),.sl (ob__.map eI),.sl (ob___.map eI)] 0,.sl (ob____.map Event.enc),.nilsl,.nilsl,.nilsl,.nilsl,.nilsl]],.arr true 1 ((sa.1.take ((sa.2).toNat)++(((sa.1.drop 0).take ((sa.2).toNat)).take (sa.1.length - (sa.2).toNat)++sa.1.drop ((sa.2).toNat + min ((sa.1.drop 0).take ((sa.2).toNat)).length (sa.1.length - (sa.2).toNat)))).map eI)] 1=mkS 48 [(7,.mf 1),(8,.v (.int .i64 (addW .i64 sa.2 ((min ((sa.1.drop 0).take ((sa.2).toNat)).length (sa.1.length - (sa.2).toNat):Nat):Int)))),(34,(vI sa.2)),(35,.mf 1),(36,(vI (sa.1.length:Int))),(37,vT),(38,(vI sa.2)),(39,.mf 1),(40,(vI sa.2)),(41,.msl 1 ((sa.2).toNat) (sa.1.length - (sa.2).toNat) 0),(42,.mf 1),(43,(vI sa.2)),(44,.msl 1 0 ((sa.2).toNat) (sa.1.length - (sa.2).toNat)),(45,.v (.int .i64 ((min ((sa.1.drop 0).take ((sa.2).toNat)).length (sa.1.length - (sa.2).toNat):Nat):Int))),(46,.v (.int .i64 (addW .i64 sa.2 ((min ((sa.1.drop 0).take ((sa.2).toNat)).length (sa.1.length - (sa.2).toNat):Nat):Int))))] [] [.arr true 7 [[.fptr [.sl (ob.map Cell.enc),.sl (ob_.map (eSl Event.enc)),.sl (ob__.map eI),.sl (ob___.map eI)] 0,.sl (ob____.map Event.enc),.nilsl,.nilsl,.nilsl,.nilsl,.nilsl]],.arr true 1 ((sa.1.take ((sa.2).toNat)++(((sa.1.drop 0).take ((sa.2).toNat)).take (sa.1.length - (sa.2).toNat)++sa.1.drop ((sa.2).toNat + min ((sa.1.drop 0).take ((sa.2).toNat)).length (sa.1.length - (sa.2).toNat)))).map eI)] 1) z)))))))))))))))) (by kernel_rfl)

def slices_Repeat_int_int_S2_R (x:(List Int)) (count:Int) (ob:(List Cell)) (ob_:(List (List Event))) (ob__:(List Int)) (ob___:(List Int)) (ob____:(List Event)) (y:(List Int)):AV×List Ob:=(.mf 1,[.arr true 7 [[.fptr [.sl (ob.map Cell.enc),.sl (ob_.map (eSl Event.enc)),.sl (ob__.map eI),.sl (ob___.map eI)] 0,.sl (ob____.map Event.enc),.nilsl,.nilsl,.nilsl,.nilsl,.nilsl]],.arr true 1 (y.map eI)])
theorem slices_Repeat_int_int_S2_sim (n:Nat) (x:(List Int)) (count:Int) (ob:(List Cell)) (ob_:(List (List Event))) (ob__:(List Int)) (ob___:(List Int)) (ob____:(List Event)) (y:(List Int)) (h:slices_Repeat_int_int_S2 n x count ob ob_ ob__ ob___ ob____=some y):SD Tryd.prog 38 [.sl (x.map eI),(vI count)] [.arr true 7 [[.fptr [.sl (ob.map Cell.enc),.sl (ob_.map (eSl Event.enc)),.sl (ob__.map eI),.sl (ob___.map eI)] 0,.sl (ob____.map Event.enc),.nilsl,.nilsl,.nilsl,.nilsl,.nilsl]]] (fun r' o'=>r'=(slices_Repeat_int_int_S2_R x count ob ob_ ob__ ob___ ob____ y).1∧o'=(slices_Repeat_int_int_S2_R x count ob ob_ ob__ ob___ ob____ y).2):=by
 unfold slices_Repeat_int_int_S2 at h
 rcases iteE h with ⟨h1,h⟩ | ⟨h1,h⟩
 ·
  cases h
 obtain ⟨y2,gy2,h⟩:=bindE h
 rcases iteE h with ⟨h3,h⟩ | ⟨h3,h⟩
 ·
  cases h
 rcases iteE h with ⟨h4,h⟩ | ⟨h4,h⟩
 ·
  cases h
 obtain ⟨h5,h⟩:=grdE h
 obtain ⟨t6,gt6,h⟩:=bindE h
 obtain rfl:=soI h
 exact kS ⟨ord38,[rV 1 [(10,vF)],rVC 3 [(14,(vI (x.length:Int)))] [(18,.tup [(vU y2.1),(vU y2.2)])],rV 4 [(23,vF),(26,vF)],(6,⟨[],[30],[],[],[],[],[(30,(1,(List.replicate ((IntKind.wrap .i64 y2.2)).toNat 0).map eI))],[],[]⟩),(7,⟨[],[],[],[(33,.v (.int .i64 ((min x.length (List.replicate ((IntKind.wrap .i64 y2.2)).toNat 0).length:Nat):Int)))],[],[],[(33,(1,(x.take (List.replicate ((IntKind.wrap .i64 y2.2)).toNat 0).length++(List.replicate ((IntKind.wrap .i64 y2.2)).toNat 0).drop x.length).map eI))],[],[]⟩)],[],[(8,(⟨[7,8],[],2,[],[],[]⟩,⟨[],[],[]⟩,(.ex 0),slices_Repeat_int_int_S2_L1_T0 ob ob_ ob__ ob___ ob____ t6))],[]⟩ ordB38 ⟨rfl,rfl⟩ (fun z=>(aB h1 (aL eI x (aI (math_bits_Mul_sim n (IntKind.wrap .u64 (x.length:Int)) (IntKind.wrap .u64 count) y2 gy2) (aB h3 (aB h4 (aI h5 (aI (rep_map eI _ 0:List.replicate ((IntKind.wrap .i64 y2.2)).toNat [(vI 0)]=(List.replicate ((IntKind.wrap .i64 y2.2)).toNat 0).map eI) (aI (szM:szOk 1 (x.map eI)=true) (aI (okM:okRows (x.map eI)=true) (aI ((by simp [List.map_take,List.map_drop]):AV.v (.int .i64 ((min (x.map eI).length ((List.replicate ((IntKind.wrap .i64 y2.2)).toNat 0).map eI).length:Nat):Int))=AV.v (.int .i64 ((min x.length (List.replicate ((IntKind.wrap .i64 y2.2)).toNat 0).length:Nat):Int))) (aI ((by simp [List.map_take,List.map_drop]):(x.map eI).take ((List.replicate ((IntKind.wrap .i64 y2.2)).toNat 0).map eI).length++((List.replicate ((IntKind.wrap .i64 y2.2)).toNat 0).map eI).drop (x.map eI).length=(x.take (List.replicate ((IntKind.wrap .i64 y2.2)).toNat 0).length++(List.replicate ((IntKind.wrap .i64 y2.2)).toNat 0).drop x.length).map eI) (aI (okL (pl:=polF 38) (slices_Repeat_int_int_S2_L1_S ob ob_ ob__ ob___ ob____) (slices_Repeat_int_int_S2_L1_out ob ob_ ob__ ob___ ob____) (slices_Repeat_int_int_S2_L1_sim n ob ob_ ob__ ob___ ob____) n _ t6 gt6) z))))))))))))) (by kernel_rfl)

def ord39:List (Nat×PT):=[(9,(ptS [0,1,2,3,4,5,6,7,8])),(17,(ptS [0,1,2,3,4,5,6,7,8,9,10,11,12,13,14,15,16,17,18])),(25,(ptS [0,1,2,3,4,5,6,7,8,9,10,11,12,13,14,15]))]
theorem ordB39:ordB (polF 39) ord39 (bodyOf Tryd.prog 39)=true:=by kernel_rfl
noncomputable def c_ppo_of_L1:Code:=sub (bodyOf Tryd.prog 39) [1,1,1,1,1,1,0,1,0,0]
noncomputable def c_ppo_of_L2:Code:=sub c_ppo_of_L1 [1,1,0,0,1,0,1,0,0]
noncomputable def c_ppo_of_L3:Code:=sub c_ppo_of_L1 [1,1,0,0,1,1,1,0,0]
noncomputable def c_ppo_of_U1:Code:=sub (bodyOf Tryd.prog 39) [1,1,1,1,1,0,1,0,0]
theorem ordB_ppo_of_U1:ordB (polF 39) ord39 c_ppo_of_U1=true:=by kernel_rfl
theorem ordB_ppo_of_L2:ordB (polF 39) ord39 c_ppo_of_L2=true:=by kernel_rfl
def ppo_of_L2_S (c:Cand) (y3:(List Event)) (xa2:Event) (sb:(List Int)×(List Int)×(List Int)×(List Int)×(List Int)×Int×Int×Int):St:=mkS 146 [(3,.ptr (.O 0) 0 0),(6,(vI sb.2.2.2.2.2.2.2)),(7,.ptr (.L 7) 0 0),(52,.sl (y3.map Event.enc)),(53,(vI (y3.length:Int))),(54,(vI sb.2.2.2.2.2.1)),(59,(vI sb.2.2.2.2.2.2.1))] [(7,(Event.enc xa2))] [.arr false 7 [[.fptr (Cand.enc c) 0,.sl (y3.map Event.enc),.mf 2,.mf 3,.mf 4,.mf 5,.mf 1]],.arr true 1 (sb.1.map eI),.arr true 1 (sb.2.1.map eI),.arr true 1 (sb.2.2.1.map eI),.arr true 1 (sb.2.2.2.1.map eI),.arr true 1 (sb.2.2.2.2.1.map eI)] 0
def ppo_of_L2_T0 (c:Cand) (y3:(List Event)) (xa2:Event) (tt:(List Int)×(List Int)×(List Int)×(List Int)×(List Int)×Int×Int):St:=mkS 146 [(3,.ptr (.O 0) 0 0),(6,(vI tt.2.2.2.2.2.2)),(7,.ptr (.L 7) 0 0),(52,.sl (y3.map Event.enc)),(53,(vI (y3.length:Int))),(54,(vI tt.2.2.2.2.2.1))] [(7,(Event.enc xa2))] [.arr false 7 [[.fptr (Cand.enc c) 0,.sl (y3.map Event.enc),.mf 2,.mf 3,.mf 4,.mf 5,.mf 1]],.arr true 1 (tt.1.map eI),.arr true 1 (tt.2.1.map eI),.arr true 1 (tt.2.2.1.map eI),.arr true 1 (tt.2.2.2.1.map eI),.arr true 1 (tt.2.2.2.2.1.map eI)] 0
def ppo_of_L2_out (c:Cand) (y3:(List Event)) (xa2:Event) (tt:((List Int)×(List Int)×(List Int)×(List Int)×(List Int)×Int×Int)):Ex×St:=(.ex 4,ppo_of_L2_T0 c y3 xa2 tt)
theorem ppo_of_L2_sim (n:Nat) (c:Cand) (y3:(List Event)) (xa2:Event):∀ sb r,ppo_of_L2 n c y3 xa2 sb=some r→CodeD Tryd.prog c_ppo_of_L2 (ppo_of_L2_S c y3 xa2 sb) (rk (ppo_of_L2_S c y3 xa2) (ppo_of_L2_out c y3 xa2) r):=by
 intro sb r h
 unfold ppo_of_L2 at h
 rcases iteN h with ⟨hb1,h⟩ | ⟨hb1,h⟩
 ·
  obtain rfl:=soI h
  exact kR ⟨ord39,[rV 15 [(60,vF)]],[],[],[]⟩ [(6,⟨[3,6,7,52,53,54],[],6,[],[],[]⟩,⟨[],[],[]⟩)] ordB_ppo_of_L2 (rkE rfl neE) (fun z=>(aB hb1 z)) (by kernel_rfl)
 rcases iteE h with ⟨hb2,h⟩ | ⟨hb2,h⟩
 ·
  obtain ⟨xb3,gxb3,h⟩:=bindE h
  obtain ⟨xb4,gxb4,h⟩:=bindE h
  rcases iteN h with ⟨hb5,h⟩ | ⟨hb5,h⟩
  ·
   obtain rfl:=soI h
   exact kR ⟨ord39,[rV 15 [(60,vT)],(17,⟨[],[],[(77,[(vI xb3)]),(78,[(vI xb3)]),(79,[(vI xb4)]),(1000079,[(vI xb4)])],[(63,(vI 0)),(71,(vI 0))],[],[],[(1000079,(2,(sb.2.1.set ((addW .i64 sb.2.2.2.2.2.2.2 1)).toNat xb3).map eI))],[],[]⟩),rV 18 [(83,vF)]],[],[],[]⟩ [(0,⟨[3,6,7,52,53,54,59],[],6,[],[],[]⟩,⟨[],[],[]⟩)] ordB_ppo_of_L2 rkN (fun z=>(aB hb1 (aE .i64 hb2 (aE .i64 hb2 (aM eI gxb3 (aN eI gxb3 (aM eI gxb4 (aN eI gxb4 (aI (set_map eI sb.2.1 (((addW .i64 sb.2.2.2.2.2.2.2 1)).toNat) xb3) (aB hb5 z)))))))))) (by kernel_rfl)
  obtain ⟨hb6,h⟩:=grdE h
  rcases iteN h with ⟨hb7,h⟩ | ⟨hb7,h⟩
  ·
   obtain rfl:=soI h
   exact kR ⟨ord39,[rV 15 [(60,vT)],(17,⟨[],[],[(77,[(vI xb3)]),(78,[(vI xb3)]),(79,[(vI xb4)]),(1000079,[(vI xb4)])],[(63,(vI 0)),(71,(vI 0))],[],[],[(1000079,(2,(sb.2.1.set ((addW .i64 sb.2.2.2.2.2.2.2 1)).toNat xb3).map eI))],[],[]⟩),(18,⟨[],[88],[],[(83,vT),(92,vF)],[],[],[],[],[]⟩)],[],[],[]⟩ [(0,⟨[3,6,7,52,53,54,59],[],6,[],[],[]⟩,⟨[],[],[]⟩)] ordB_ppo_of_L2 rkN (fun z=>(aB hb1 (aE .i64 hb2 (aE .i64 hb2 (aM eI gxb3 (aN eI gxb3 (aM eI gxb4 (aN eI gxb4 (aI (set_map eI sb.2.1 (((addW .i64 sb.2.2.2.2.2.2.2 1)).toNat) xb3) (aB hb5 (aI hb6 (aB hb7 z)))))))))))) (by kernel_rfl)
  obtain ⟨hb8,h⟩:=grdE h
  rcases iteN h with ⟨hb9,h⟩ | ⟨hb9,h⟩
  ·
   obtain rfl:=soI h
   exact kR ⟨ord39,[rV 15 [(60,vT)],(17,⟨[],[],[(77,[(vI xb3)]),(78,[(vI xb3)]),(79,[(vI xb4)]),(1000079,[(vI xb4)])],[(63,(vI 0)),(71,(vI 0))],[],[],[(1000079,(2,(sb.2.1.set ((addW .i64 sb.2.2.2.2.2.2.2 1)).toNat xb3).map eI))],[],[]⟩),(18,⟨[],[88,97],[],[(83,vT),(92,vT),(100,vF)],[],[],[],[],[]⟩)],[],[],[]⟩ [(0,⟨[3,6,7,52,53,54,59],[],6,[],[],[]⟩,⟨[],[],[]⟩)] ordB_ppo_of_L2 rkN (fun z=>(aB hb1 (aE .i64 hb2 (aE .i64 hb2 (aM eI gxb3 (aN eI gxb3 (aM eI gxb4 (aN eI gxb4 (aI (set_map eI sb.2.1 (((addW .i64 sb.2.2.2.2.2.2.2 1)).toNat) xb3) (aB hb5 (aI hb6 (aB hb7 (aI hb8 (aB hb9 z)))))))))))))) (by kernel_rfl)
  obtain ⟨xb10,gxb10,h⟩:=bindE h
  obtain rfl:=soI h
  exact kR ⟨ord39,[rV 15 [(60,vT)],(17,⟨[],[],[(77,[(vI xb3)]),(78,[(vI xb3)]),(79,[(vI xb4)]),(1000079,[(vI xb4)])],[(63,(vI 0)),(71,(vI 0))],[],[],[(1000079,(2,(sb.2.1.set ((addW .i64 sb.2.2.2.2.2.2.2 1)).toNat xb3).map eI))],[],[]⟩),(18,⟨[],[88,97],[],[(83,vT),(92,vT),(100,vT)],[],[],[],[],[]⟩),(19,⟨[],[],[(109,[(vI xb10)]),(110,[(vI xb10)]),(112,[(vI xb10)]),(1000112,[(vI xb10)])],[(102,(vI 0))],[],[],[(1000112,(2,((sb.2.1.set ((addW .i64 sb.2.2.2.2.2.2.2 1)).toNat xb3).set ((addW .i64 sb.2.2.2.2.2.2.2 1)).toNat (addW .i64 xb10 1)).map eI))],[],[]⟩)],[],[],[]⟩ [(0,⟨[3,6,7,52,53,54,59],[],6,[],[],[]⟩,⟨[],[],[]⟩)] ordB_ppo_of_L2 rkN (fun z=>(aB hb1 (aE .i64 hb2 (aE .i64 hb2 (aM eI gxb3 (aN eI gxb3 (aM eI gxb4 (aN eI gxb4 (aI (set_map eI sb.2.1 (((addW .i64 sb.2.2.2.2.2.2.2 1)).toNat) xb3) (aB hb5 (aI hb6 (aB hb7 (aI hb8 (aB hb9 (aE .i64 hb2 (aM eI gxb10 (aN eI gxb10 (aM eI gxb10 (aN eI gxb10 (aI (set_map eI (sb.2.1.set ((addW .i64 sb.2.2.2.2.2.2.2 1)).toNat xb3) (((addW .i64 sb.2.2.2.2.2.2.2 1)).toNat) (addW .i64 xb10 1)) z)))))))))))))))))))) (by kernel_rfl)
 rcases iteE h with ⟨hb2,h⟩ | ⟨hb2,h⟩
 ·
  obtain ⟨xb3,gxb3,h⟩:=bindE h
  obtain ⟨xb4,gxb4,h⟩:=bindE h
  rcases iteN h with ⟨hb5,h⟩ | ⟨hb5,h⟩
  ·
   obtain rfl:=soI h
   exact kR ⟨ord39,[rV 15 [(60,vT)],(17,⟨[],[],[(77,[(vI xb3)]),(78,[(vI xb3)]),(79,[(vI xb4)]),(1000079,[(vI xb4)])],[(63,(vI 1)),(71,(vI 1))],[],[],[(1000079,(3,(sb.2.2.1.set ((addW .i64 sb.2.2.2.2.2.2.2 1)).toNat xb3).map eI))],[],[]⟩),rV 18 [(83,vF)]],[],[],[]⟩ [(0,⟨[3,6,7,52,53,54,59],[],6,[],[],[]⟩,⟨[],[],[]⟩)] ordB_ppo_of_L2 rkN (fun z=>(aB hb1 (aE .i64 hb2 (aE .i64 hb2 (aM eI gxb3 (aN eI gxb3 (aM eI gxb4 (aN eI gxb4 (aI (set_map eI sb.2.2.1 (((addW .i64 sb.2.2.2.2.2.2.2 1)).toNat) xb3) (aB hb5 z)))))))))) (by kernel_rfl)
  obtain ⟨hb6,h⟩:=grdE h
  rcases iteN h with ⟨hb7,h⟩ | ⟨hb7,h⟩
  ·
   obtain rfl:=soI h
   exact kR ⟨ord39,[rV 15 [(60,vT)],(17,⟨[],[],[(77,[(vI xb3)]),(78,[(vI xb3)]),(79,[(vI xb4)]),(1000079,[(vI xb4)])],[(63,(vI 1)),(71,(vI 1))],[],[],[(1000079,(3,(sb.2.2.1.set ((addW .i64 sb.2.2.2.2.2.2.2 1)).toNat xb3).map eI))],[],[]⟩),(18,⟨[],[88],[],[(83,vT),(92,vF)],[],[],[],[],[]⟩)],[],[],[]⟩ [(0,⟨[3,6,7,52,53,54,59],[],6,[],[],[]⟩,⟨[],[],[]⟩)] ordB_ppo_of_L2 rkN (fun z=>(aB hb1 (aE .i64 hb2 (aE .i64 hb2 (aM eI gxb3 (aN eI gxb3 (aM eI gxb4 (aN eI gxb4 (aI (set_map eI sb.2.2.1 (((addW .i64 sb.2.2.2.2.2.2.2 1)).toNat) xb3) (aB hb5 (aI hb6 (aB hb7 z)))))))))))) (by kernel_rfl)
  obtain ⟨hb8,h⟩:=grdE h
  rcases iteN h with ⟨hb9,h⟩ | ⟨hb9,h⟩
  ·
   obtain rfl:=soI h
   exact kR ⟨ord39,[rV 15 [(60,vT)],(17,⟨[],[],[(77,[(vI xb3)]),(78,[(vI xb3)]),(79,[(vI xb4)]),(1000079,[(vI xb4)])],[(63,(vI 1)),(71,(vI 1))],[],[],[(1000079,(3,(sb.2.2.1.set ((addW .i64 sb.2.2.2.2.2.2.2 1)).toNat xb3).map eI))],[],[]⟩),(18,⟨[],[88,97],[],[(83,vT),(92,vT),(100,vF)],[],[],[],[],[]⟩)],[],[],[]⟩ [(0,⟨[3,6,7,52,53,54,59],[],6,[],[],[]⟩,⟨[],[],[]⟩)] ordB_ppo_of_L2 rkN (fun z=>(aB hb1 (aE .i64 hb2 (aE .i64 hb2 (aM eI gxb3 (aN eI gxb3 (aM eI gxb4 (aN eI gxb4 (aI (set_map eI sb.2.2.1 (((addW .i64 sb.2.2.2.2.2.2.2 1)).toNat) xb3) (aB hb5 (aI hb6 (aB hb7 (aI hb8 (aB hb9 z)))))))))))))) (by kernel_rfl)
  obtain ⟨xb10,gxb10,h⟩:=bindE h
  obtain rfl:=soI h
  exact kR ⟨ord39,[rV 15 [(60,vT)],(17,⟨[],[],[(77,[(vI xb3)]),(78,[(vI xb3)]),(79,[(vI xb4)]),(1000079,[(vI xb4)])],[(63,(vI 1)),(71,(vI 1))],[],[],[(1000079,(3,(sb.2.2.1.set ((addW .i64 sb.2.2.2.2.2.2.2 1)).toNat xb3).map eI))],[],[]⟩),(18,⟨[],[88,97],[],[(83,vT),(92,vT),(100,vT)],[],[],[],[],[]⟩),(19,⟨[],[],[(109,[(vI xb10)]),(110,[(vI xb10)]),(112,[(vI xb10)]),(1000112,[(vI xb10)])],[(102,(vI 1))],[],[],[(1000112,(3,((sb.2.2.1.set ((addW .i64 sb.2.2.2.2.2.2.2 1)).toNat xb3).set ((addW .i64 sb.2.2.2.2.2.2.2 1)).toNat (addW .i64 xb10 1)).map eI))],[],[]⟩)],[],[],[]⟩ [(0,⟨[3,6,7,52,53,54,59],[],6,[],[],[]⟩,⟨[],[],[]⟩)] ordB_ppo_of_L2 rkN (fun z=>(aB hb1 (aE .i64 hb2 (aE .i64 hb2 (aM eI gxb3 (aN eI gxb3 (aM eI gxb4 (aN eI gxb4 (aI (set_map eI sb.2.2.1 (((addW .i64 sb.2.2.2.2.2.2.2 1)).toNat) xb3) (aB hb5 (aI hb6 (aB hb7 (aI hb8 (aB hb9 (aE .i64 hb2 (aM eI gxb10 (aN eI gxb10 (aM eI gxb10 (aN eI gxb10 (aI (set_map eI (sb.2.2.1.set ((addW .i64 sb.2.2.2.2.2.2.2 1)).toNat xb3) (((addW .i64 sb.2.2.2.2.2.2.2 1)).toNat) (addW .i64 xb10 1)) z)))))))))))))))))))) (by kernel_rfl)
 rcases iteE h with ⟨hb2,h⟩ | ⟨hb2,h⟩
 ·
  obtain ⟨xb3,gxb3,h⟩:=bindE h
  obtain ⟨xb4,gxb4,h⟩:=bindE h
  rcases iteN h with ⟨hb5,h⟩ | ⟨hb5,h⟩
  ·
   obtain rfl:=soI h
   exact kR ⟨ord39,[rV 15 [(60,vT)],(17,⟨[],[],[(77,[(vI xb3)]),(78,[(vI xb3)]),(79,[(vI xb4)]),(1000079,[(vI xb4)])],[(63,(vI 2)),(71,(vI 2))],[],[],[(1000079,(4,(sb.2.2.2.1.set ((addW .i64 sb.2.2.2.2.2.2.2 1)).toNat xb3).map eI))],[],[]⟩),rV 18 [(83,vF)]],[],[],[]⟩ [(0,⟨[3,6,7,52,53,54,59],[],6,[],[],[]⟩,⟨[],[],[]⟩)] ordB_ppo_of_L2 rkN (fun z=>(aB hb1 (aE .i64 hb2 (aE .i64 hb2 (aM eI gxb3 (aN eI gxb3 (aM eI gxb4 (aN eI gxb4 (aI (set_map eI sb.2.2.2.1 (((addW .i64 sb.2.2.2.2.2.2.2 1)).toNat) xb3) (aB hb5 z)))))))))) (by kernel_rfl)
  obtain ⟨hb6,h⟩:=grdE h
  rcases iteN h with ⟨hb7,h⟩ | ⟨hb7,h⟩
  ·
   obtain rfl:=soI h
   exact kR ⟨ord39,[rV 15 [(60,vT)],(17,⟨[],[],[(77,[(vI xb3)]),(78,[(vI xb3)]),(79,[(vI xb4)]),(1000079,[(vI xb4)])],[(63,(vI 2)),(71,(vI 2))],[],[],[(1000079,(4,(sb.2.2.2.1.set ((addW .i64 sb.2.2.2.2.2.2.2 1)).toNat xb3).map eI))],[],[]⟩),(18,⟨[],[88],[],[(83,vT),(92,vF)],[],[],[],[],[]⟩)],[],[],[]⟩ [(0,⟨[3,6,7,52,53,54,59],[],6,[],[],[]⟩,⟨[],[],[]⟩)] ordB_ppo_of_L2 rkN (fun z=>(aB hb1 (aE .i64 hb2 (aE .i64 hb2 (aM eI gxb3 (aN eI gxb3 (aM eI gxb4 (aN eI gxb4 (aI (set_map eI sb.2.2.2.1 (((addW .i64 sb.2.2.2.2.2.2.2 1)).toNat) xb3) (aB hb5 (aI hb6 (aB hb7 z)))))))))))) (by kernel_rfl)
  obtain ⟨hb8,h⟩:=grdE h
  rcases iteN h with ⟨hb9,h⟩ | ⟨hb9,h⟩
  ·
   obtain rfl:=soI h
   exact kR ⟨ord39,[rV 15 [(60,vT)],(17,⟨[],[],[(77,[(vI xb3)]),(78,[(vI xb3)]),(79,[(vI xb4)]),(1000079,[(vI xb4)])],[(63,(vI 2)),(71,(vI 2))],[],[],[(1000079,(4,(sb.2.2.2.1.set ((addW .i64 sb.2.2.2.2.2.2.2 1)).toNat xb3).map eI))],[],[]⟩),(18,⟨[],[88,97],[],[(83,vT),(92,vT),(100,vF)],[],[],[],[],[]⟩)],[],[],[]⟩ [(0,⟨[3,6,7,52,53,54,59],[],6,[],[],[]⟩,⟨[],[],[]⟩)] ordB_ppo_of_L2 rkN (fun z=>(aB hb1 (aE .i64 hb2 (aE .i64 hb2 (aM eI gxb3 (aN eI gxb3 (aM eI gxb4 (aN eI gxb4 (aI (set_map eI sb.2.2.2.1 (((addW .i64 sb.2.2.2.2.2.2.2 1)).toNat) xb3) (aB hb5 (aI hb6 (aB hb7 (aI hb8 (aB hb9 z)))))))))))))) (by kernel_rfl)
  obtain ⟨xb10,gxb10,h⟩:=bindE h
  obtain rfl:=soI h
  exact kR ⟨ord39,[rV 15 [(60,vT)],(17,⟨[],[],[(77,[(vI xb3)]),(78,[(vI xb3)]),(79,[(vI xb4)]),(1000079,[(vI xb4)])],[(63,(vI 2)),(71,(vI 2))],[],[],[(1000079,(4,(sb.2.2.2.1.set ((addW .i64 sb.2.2.2.2.2.2.2 1)).toNat xb3).map eI))],[],[]⟩),(18,⟨[],[88,97],[],[(83,vT),(92,vT),(100,vT)],[],[],[],[],[]⟩),(19,⟨[],[],[(109,[(vI xb10)]),(110,[(vI xb10)]),(112,[(vI xb10)]),(1000112,[(vI xb10)])],[(102,(vI 2))],[],[],[(1000112,(4,((sb.2.2.2.1.set ((addW .i64 sb.2.2.2.2.2.2.2 1)).toNat xb3).set ((addW .i64 sb.2.2.2.2.2.2.2 1)).toNat (addW .i64 xb10 1)).map eI))],[],[]⟩)],[],[],[]⟩ [(0,⟨[3,6,7,52,53,54,59],[],6,[],[],[]⟩,⟨[],[],[]⟩)] ordB_ppo_of_L2 rkN (fun z=>(aB hb1 (aE .i64 hb2 (aE .i64 hb2 (aM eI gxb3 (aN eI gxb3 (aM eI gxb4 (aN eI gxb4 (aI (set_map eI sb.2.2.2.1 (((addW .i64 sb.2.2.2.2.2.2.2 1)).toNat) xb3) (aB hb5 (aI hb6 (aB hb7 (aI hb8 (aB hb9 (aE .i64 hb2 (aM eI gxb10 (aN eI gxb10 (aM eI gxb10 (aN eI gxb10 (aI (set_map eI (sb.2.2.2.1.set ((addW .i64 sb.2.2.2.2.2.2.2 1)).toNat xb3) (((addW .i64 sb.2.2.2.2.2.2.2 1)).toNat) (addW .i64 xb10 1)) z)))))))))))))))))))) (by kernel_rfl)
 rcases iteE h with ⟨hb2,h⟩ | ⟨hb2,h⟩
 ·
  obtain ⟨xb3,gxb3,h⟩:=bindE h
  obtain ⟨xb4,gxb4,h⟩:=bindE h
  rcases iteN h with ⟨hb5,h⟩ | ⟨hb5,h⟩
  ·
   obtain rfl:=soI h
   exact kR ⟨ord39,[rV 15 [(60,vT)],(17,⟨[],[],[(77,[(vI xb3)]),(78,[(vI xb3)]),(79,[(vI xb4)]),(1000079,[(vI xb4)])],[(63,(vI 3)),(71,(vI 3))],[],[],[(1000079,(5,(sb.2.2.2.2.1.set ((addW .i64 sb.2.2.2.2.2.2.2 1)).toNat xb3).map eI))],[],[]⟩),rV 18 [(83,vF)]],[],[],[]⟩ [(0,⟨[3,6,7,52,53,54,59],[],6,[],[],[]⟩,⟨[],[],[]⟩)] ordB_ppo_of_L2 rkN (fun z=>(aB hb1 (aE .i64 hb2 (aE .i64 hb2 (aM eI gxb3 (aN eI gxb3 (aM eI gxb4 (aN eI gxb4 (aI (set_map eI sb.2.2.2.2.1 (((addW .i64 sb.2.2.2.2.2.2.2 1)).toNat) xb3) (aB hb5 z)))))))))) (by kernel_rfl)
  obtain ⟨hb6,h⟩:=grdE h
  rcases iteN h with ⟨hb7,h⟩ | ⟨hb7,h⟩
  ·
   obtain rfl:=soI h
   exact kR ⟨ord39,[rV 15 [(60,vT)],(17,⟨[],[],[(77,[(vI xb3)]),(78,[(vI xb3)]),(79,[(vI xb4)]),(1000079,[(vI xb4)])],[(63,(vI 3)),(71,(vI 3))],[],[],[(1000079,(5,(sb.2.2.2.2.1.set ((addW .i64 sb.2.2.2.2.2.2.2 1)).toNat xb3).map eI))],[],[]⟩),(18,⟨[],[88],[],[(83,vT),(92,vF)],[],[],[],[],[]⟩)],[],[],[]⟩ [(0,⟨[3,6,7,52,53,54,59],[],6,[],[],[]⟩,⟨[],[],[]⟩)] ordB_ppo_of_L2 rkN (fun z=>(aB hb1 (aE .i64 hb2 (aE .i64 hb2 (aM eI gxb3 (aN eI gxb3 (aM eI gxb4 (aN eI gxb4 (aI (set_map eI sb.2.2.2.2.1 (((addW .i64 sb.2.2.2.2.2.2.2 1)).toNat) xb3) (aB hb5 (aI hb6 (aB hb7 z)))))))))))) (by kernel_rfl)
  obtain ⟨hb8,h⟩:=grdE h
  rcases iteN h with ⟨hb9,h⟩ | ⟨hb9,h⟩
  ·
   obtain rfl:=soI h
   exact kR ⟨ord39,[rV 15 [(60,vT)],(17,⟨[],[],[(77,[(vI xb3)]),(78,[(vI xb3)]),(79,[(vI xb4)]),(1000079,[(vI xb4)])],[(63,(vI 3)),(71,(vI 3))],[],[],[(1000079,(5,(sb.2.2.2.2.1.set ((addW .i64 sb.2.2.2.2.2.2.2 1)).toNat xb3).map eI))],[],[]⟩),(18,⟨[],[88,97],[],[(83,vT),(92,vT),(100,vF)],[],[],[],[],[]⟩)],[],[],[]⟩ [(0,⟨[3,6,7,52,53,54,59],[],6,[],[],[]⟩,⟨[],[],[]⟩)] ordB_ppo_of_L2 rkN (fun z=>(aB hb1 (aE .i64 hb2 (aE .i64 hb2 (aM eI gxb3 (aN eI gxb3 (aM eI gxb4 (aN eI gxb4 (aI (set_map eI sb.2.2.2.2.1 (((addW .i64 sb.2.2.2.2.2.2.2 1)).toNat) xb3) (aB hb5 (aI hb6 (aB hb7 (aI hb8 (aB hb9 z)))))))))))))) (by kernel_rfl)
  obtain ⟨xb10,gxb10,h⟩:=bindE h
  obtain rfl:=soI h
  exact kR ⟨ord39,[rV 15 [(60,vT)],(17,⟨[],[],[(77,[(vI xb3)]),(78,[(vI xb3)]),(79,[(vI xb4)]),(1000079,[(vI xb4)])],[(63,(vI 3)),(71,(vI 3))],[],[],[(1000079,(5,(sb.2.2.2.2.1.set ((addW .i64 sb.2.2.2.2.2.2.2 1)).toNat xb3).map eI))],[],[]⟩),(18,⟨[],[88,97],[],[(83,vT),(92,vT),(100,vT)],[],[],[],[],[]⟩),(19,⟨[],[],[(109,[(vI xb10)]),(110,[(vI xb10)]),(112,[(vI xb10)]),(1000112,[(vI xb10)])],[(102,(vI 3))],[],[],[(1000112,(5,((sb.2.2.2.2.1.set ((addW .i64 sb.2.2.2.2.2.2.2 1)).toNat xb3).set ((addW .i64 sb.2.2.2.2.2.2.2 1)).toNat (addW .i64 xb10 1)).map eI))],[],[]⟩)],[],[],[]⟩ [(0,⟨[3,6,7,52,53,54,59],[],6,[],[],[]⟩,⟨[],[],[]⟩)] ordB_ppo_of_L2 rkN (fun z=>(aB hb1 (aE .i64 hb2 (aE .i64 hb2 (aM eI gxb3 (aN eI gxb3 (aM eI gxb4 (aN eI gxb4 (aI (set_map eI sb.2.2.2.2.1 (((addW .i64 sb.2.2.2.2.2.2.2 1)).toNat) xb3) (aB hb5 (aI hb6 (aB hb7 (aI hb8 (aB hb9 (aE .i64 hb2 (aM eI gxb10 (aN eI gxb10 (aM eI gxb10 (aN eI gxb10 (aI (set_map eI (sb.2.2.2.2.1.set ((addW .i64 sb.2.2.2.2.2.2.2 1)).toNat xb3) (((addW .i64 sb.2.2.2.2.2.2.2 1)).toNat) (addW .i64 xb10 1)) z)))))))))))))))))))) (by kernel_rfl)
 cases h

theorem ordB_ppo_of_L3:ordB (polF 39) ord39 c_ppo_of_L3=true:=by kernel_rfl
def ppo_of_L3_S (c:Cand) (y3:(List Event)) (xa2:Event) (sb:(List Int)×(List Int)×(List Int)×(List Int)×(List Int)×Int×Int×Int):St:=mkS 146 [(3,.ptr (.O 0) 0 0),(6,(vI sb.2.2.2.2.2.2.2)),(7,.ptr (.L 7) 0 0),(52,.sl (y3.map Event.enc)),(53,(vI (y3.length:Int))),(54,(vI sb.2.2.2.2.2.2.1)),(116,.sl (xa2.Deps.Addr.map eI)),(117,(vI (xa2.Deps.Addr.length:Int))),(118,(vI sb.2.2.2.2.2.1))] [(7,(Event.enc xa2))] [.arr false 7 [[.fptr (Cand.enc c) 0,.sl (y3.map Event.enc),.mf 2,.mf 3,.mf 4,.mf 5,.mf 1]],.arr true 1 (sb.1.map eI),.arr true 1 (sb.2.1.map eI),.arr true 1 (sb.2.2.1.map eI),.arr true 1 (sb.2.2.2.1.map eI),.arr true 1 (sb.2.2.2.2.1.map eI)] 0
def ppo_of_L3_T0 (c:Cand) (y3:(List Event)) (xa2:Event) (tt:(List Int)×(List Int)×(List Int)×(List Int)×(List Int)×Int):St:=mkS 146 [(3,.ptr (.O 0) 0 0),(52,.sl (y3.map Event.enc)),(53,(vI (y3.length:Int))),(54,(vI tt.2.2.2.2.2))] [] [.arr false 7 [[.fptr (Cand.enc c) 0,.sl (y3.map Event.enc),.mf 2,.mf 3,.mf 4,.mf 5,.mf 1]],.arr true 1 (tt.1.map eI),.arr true 1 (tt.2.1.map eI),.arr true 1 (tt.2.2.1.map eI),.arr true 1 (tt.2.2.2.1.map eI),.arr true 1 (tt.2.2.2.2.1.map eI)] 0
def ppo_of_L3_out (c:Cand) (y3:(List Event)) (xa2:Event) (tt:((List Int)×(List Int)×(List Int)×(List Int)×(List Int)×Int)):Ex×St:=(.ex 6,ppo_of_L3_T0 c y3 xa2 tt)
theorem ppo_of_L3_sim (n:Nat) (c:Cand) (y3:(List Event)) (xa2:Event):∀ sb r,ppo_of_L3 n c y3 xa2 sb=some r→CodeD Tryd.prog c_ppo_of_L3 (ppo_of_L3_S c y3 xa2 sb) (rk (ppo_of_L3_S c y3 xa2) (ppo_of_L3_out c y3 xa2) r):=by
 intro sb r h
 unfold ppo_of_L3 at h
 rcases iteN h with ⟨hb1,h⟩ | ⟨hb1,h⟩
 ·
  obtain rfl:=soI h
  exact kR ⟨ord39,[rV 22 [(119,vF)]],[],[],[]⟩ [(8,⟨[3,52,53,54],[7],6,[],[],[]⟩,⟨[],[],[]⟩)] ordB_ppo_of_L3 (rkE rfl neE) (fun z=>(aB hb1 z)) (by kernel_rfl)
 obtain ⟨xb2,gxb2,h⟩:=bindE h
 obtain ⟨xb3,gxb3,h⟩:=bindE h
 obtain rfl:=soI h
 exact kR ⟨ord39,[rV 22 [(119,vT)],(23,⟨[],[],[(120,[(vI xb2)])],[],[],[],[],[],[]⟩),(25,⟨[],[],[(138,[(vI xb3)]),(139,[(vI xb3)]),(142,[(vI xb3)]),(1000142,[(vI xb3)])],[],[],[],[(1000142,(1,(sb.1.set ((addW .i64 (subW .i64 sb.2.2.2.2.2.2.2 xa2.At) xb2)).toNat (minI xb3 sb.2.2.2.2.2.2.2)).map eI))],[],[]⟩)],[],[],[]⟩ [(0,⟨[3,6,7,52,53,54,116,117,118],[],6,[],[],[]⟩,⟨[],[],[]⟩)] ordB_ppo_of_L3 rkN (fun z=>(aB hb1 (aM eI gxb2 (aM eI gxb3 (aN eI gxb3 (aM eI gxb3 (aN eI gxb3 (aI (set_map eI sb.1 (((addW .i64 (subW .i64 sb.2.2.2.2.2.2.2 xa2.At) xb2)).toNat) (minI xb3 sb.2.2.2.2.2.2.2)) z)))))))) (by kernel_rfl)

theorem ordB_ppo_of_L1:ordB (polF 39) ord39 c_ppo_of_L1=true:=by kernel_rfl
def ppo_of_L1_S (c:Cand) (y3:(List Event)) (sa:(List Int)×(List Int)×(List Int)×(List Int)×(List Int)×Int):St:=mkS 146 [(3,.ptr (.O 0) 0 0),(52,.sl (y3.map Event.enc)),(53,(vI (y3.length:Int))),(54,(vI sa.2.2.2.2.2))] [] [.arr false 7 [[.fptr (Cand.enc c) 0,.sl (y3.map Event.enc),.mf 2,.mf 3,.mf 4,.mf 5,.mf 1]],.arr true 1 (sa.1.map eI),.arr true 1 (sa.2.1.map eI),.arr true 1 (sa.2.2.1.map eI),.arr true 1 (sa.2.2.2.1.map eI),.arr true 1 (sa.2.2.2.2.1.map eI)] 0
def ppo_of_L1_T0 (c:Cand) (y3:(List Event)) (tt:(List Int)×(List Int)×(List Int)×(List Int)×(List Int)):St:=mkS 146 [(3,.ptr (.O 0) 0 0)] [] [.arr false 7 [[.fptr (Cand.enc c) 0,.sl (y3.map Event.enc),.mf 2,.mf 3,.mf 4,.mf 5,.mf 1]],.arr true 1 (tt.1.map eI),.arr true 1 (tt.2.1.map eI),.arr true 1 (tt.2.2.1.map eI),.arr true 1 (tt.2.2.2.1.map eI),.arr true 1 (tt.2.2.2.2.map eI)] 0
def ppo_of_L1_out (c:Cand) (y3:(List Event)) (tt:((List Int)×(List Int)×(List Int)×(List Int)×(List Int))):Ex×St:=(.ex 2,ppo_of_L1_T0 c y3 tt)
theorem ppo_of_L1_sim (n:Nat) (c:Cand) (y3:(List Event)):∀ sa r,ppo_of_L1 n c y3 sa=some r→CodeD Tryd.prog c_ppo_of_L1 (ppo_of_L1_S c y3 sa) (rk (ppo_of_L1_S c y3) (ppo_of_L1_out c y3) r):=by
 intro sa r h
 unfold ppo_of_L1 at h
 rcases iteN h with ⟨ha1,h⟩ | ⟨ha1,h⟩
 ·
  obtain rfl:=soI h
  exact kR ⟨ord39,[rV 12 [(55,vF)]],[],[],[]⟩ [(4,⟨[3],[],6,[],[],[]⟩,⟨[],[],[]⟩)] ordB_ppo_of_L1 (rkE rfl neE) (fun z=>(aB ha1 z)) (by kernel_rfl)
 obtain ⟨xa2,gxa2,h⟩:=bindE h
 obtain ⟨ta3,gta3,h⟩:=bindE h
 obtain ⟨ta4,gta4,h⟩:=bindE h
 obtain rfl:=soI h
 exact kR ⟨ord39,[rV 12 [(55,vT)],(13,⟨[],[],[(57,(Event.enc xa2))],[],[],[],[],[],[]⟩),rV 21 [(117,(vI (xa2.Deps.Addr.length:Int)))]],[],[(15,(⟨[3,6,7,52,53,54,59],[],6,[],[],[]⟩,⟨[],[],[]⟩,(.ex 4),ppo_of_L2_T0 c y3 xa2 ta3)),(22,(⟨[3,6,7,52,53,54,116,117,118],[],6,[],[],[]⟩,⟨[],[],[]⟩,(.ex 6),ppo_of_L3_T0 c y3 xa2 ta4))],[]⟩ [(0,⟨[3,52,53,54],[],6,[],[],[]⟩,⟨[],[],[]⟩)] ordB_ppo_of_L1 rkN (fun z=>(aB ha1 (aM Event.enc gxa2 (aI (okL (pl:=polF 39) (ppo_of_L2_S c y3 xa2) (ppo_of_L2_out c y3 xa2) (ppo_of_L2_sim n c y3 xa2) n _ ta3 gta3) (aL eI xa2.Deps.Addr (aI (okL (pl:=polF 39) (ppo_of_L3_S c y3 xa2) (ppo_of_L3_out c y3 xa2) (ppo_of_L3_sim n c y3 xa2) n _ ta4 gta4) z)))))) (by kernel_rfl)

theorem ppo_of_U1_0_ppo_of_1 (c:Cand) (y3:(List Event)) (y4:(List Int)) (K:Ex→St→Prop):oR pc sc lp cd ⟨ord39,[(9,⟨[],[44],[],[],[],[],[(44,(2,(List.replicate ((addW .i64 (y3.length:Int) 1)).toNat 0).map eI))],[],[]⟩)],[],[],[]⟩ (polF 39) [(0,⟨[3,4,37],[],3,[],[],[]⟩,⟨[],[],[]⟩)] c_ppo_of_U1 (mkS 146 [(3,.ptr (.O 0) 0 0),(4,(vI (y3.length:Int))),(37,(vI 0))] [] [.arr false 7 [[.fptr (Cand.enc c) 0,.sl (y3.map Event.enc),.nilsl,.nilsl,.nilsl,.nilsl,.mf 1]],.arr true 1 (y4.map eI)] 0) K
  = (((decide ((0:Int)≤(addW .i64 (y3.length:Int) 1))&&decide ((addW .i64 (y3.length:Int) 1)≤(addW .i64 (y3.length:Int) 1))&&decide (8 * (addW .i64 (y3.length:Int) 1)≤140737488355328)&&decide ((addW .i64 (y3.length:Int) 1)≤140737488355328)&&Nat.blt 0 1)=true)∧(List.replicate ((addW .i64 (y3.length:Int) 1)).toNat [(vI 0)]=(List.replicate ((addW .i64 (y3.length:Int) 1)).toNat 0).map eI)∧K .nrm (mkS 146 [(3,.ptr (.O 0) 0 0),(4,(vI (y3.length:Int))),(37,(vI 1))] [] [.arr false 7 [[.fptr (Cand.enc c) 0,.sl (y3.map Event.enc),.mf 2,.nilsl,.nilsl,.nilsl,.mf 1]],.arr true 1 (y4.map eI),.arr true 1 ((List.replicate ((addW .i64 (y3.length:Int) 1)).toNat 0).map eI)] 0)):=by kernel_rfl
theorem ppo_of_U1_1_ppo_of_1 (c:Cand) (y3:(List Event)) (y4:(List Int)) (K:Ex→St→Prop):oR pc sc lp cd ⟨ord39,[(9,⟨[],[44],[],[],[],[],[(44,(3,(List.replicate ((addW .i64 (y3.length:Int) 1)).toNat 0).map eI))],[],[]⟩)],[],[],[]⟩ (polF 39) [(0,⟨[3,4,37],[],4,[],[],[]⟩,⟨[],[],[]⟩)] c_ppo_of_U1 (mkS 146 [(3,.ptr (.O 0) 0 0),(4,(vI (y3.length:Int))),(37,(vI 1))] [] [.arr false 7 [[.fptr (Cand.enc c) 0,.sl (y3.map Event.enc),.mf 2,.nilsl,.nilsl,.nilsl,.mf 1]],.arr true 1 (y4.map eI),.arr true 1 ((List.replicate ((addW .i64 (y3.length:Int) 1)).toNat 0).map eI)] 0) K
  = (((decide ((0:Int)≤(addW .i64 (y3.length:Int) 1))&&decide ((addW .i64 (y3.length:Int) 1)≤(addW .i64 (y3.length:Int) 1))&&decide (8 * (addW .i64 (y3.length:Int) 1)≤140737488355328)&&decide ((addW .i64 (y3.length:Int) 1)≤140737488355328)&&Nat.blt 0 1)=true)∧(List.replicate ((addW .i64 (y3.length:Int) 1)).toNat [(vI 0)]=(List.replicate ((addW .i64 (y3.length:Int) 1)).toNat 0).map eI)∧K .nrm (mkS 146 [(3,.ptr (.O 0) 0 0),(4,(vI (y3.length:Int))),(37,(vI 2))] [] [.arr false 7 [[.fptr (Cand.enc c) 0,.sl (y3.map Event.enc),.mf 2,.mf 3,.nilsl,.nilsl,.mf 1]],.arr true 1 (y4.map eI),.arr true 1 ((List.replicate ((addW .i64 (y3.length:Int) 1)).toNat 0).map eI),.arr true 1 ((List.replicate ((addW .i64 (y3.length:Int) 1)).toNat 0).map eI)] 0)):=by kernel_rfl
theorem ppo_of_U1_2_ppo_of_1 (c:Cand) (y3:(List Event)) (y4:(List Int)) (K:Ex→St→Prop):oR pc sc lp cd ⟨ord39,[(9,⟨[],[44],[],[],[],[],[(44,(4,(List.replicate ((addW .i64 (y3.length:Int) 1)).toNat 0).map eI))],[],[]⟩)],[],[],[]⟩ (polF 39) [(0,⟨[3,4,37],[],5,[],[],[]⟩,⟨[],[],[]⟩)] c_ppo_of_U1 (mkS 146 [(3,.ptr (.O 0) 0 0),(4,(vI (y3.length:Int))),(37,(vI 2))] [] [.arr false 7 [[.fptr (Cand.enc c) 0,.sl (y3.map Event.enc),.mf 2,.mf 3,.nilsl,.nilsl,.mf 1]],.arr true 1 (y4.map eI),.arr true 1 ((List.replicate ((addW .i64 (y3.length:Int) 1)).toNat 0).map eI),.arr true 1 ((List.replicate ((addW .i64 (y3.length:Int) 1)).toNat 0).map eI)] 0) K
  = (((decide ((0:Int)≤(addW .i64 (y3.length:Int) 1))&&decide ((addW .i64 (y3.length:Int) 1)≤(addW .i64 (y3.length:Int) 1))&&decide (8 * (addW .i64 (y3.length:Int) 1)≤140737488355328)&&decide ((addW .i64 (y3.length:Int) 1)≤140737488355328)&&Nat.blt 0 1)=true)∧(List.replicate ((addW .i64 (y3.length:Int) 1)).toNat [(vI 0)]=(List.replicate ((addW .i64 (y3.length:Int) 1)).toNat 0).map eI)∧K .nrm (mkS 146 [(3,.ptr (.O 0) 0 0),(4,(vI (y3.length:Int))),(37,(vI 3))] [] [.arr false 7 [[.fptr (Cand.enc c) 0,.sl (y3.map Event.enc),.mf 2,.mf 3,.mf 4,.nilsl,.mf 1]],.arr true 1 (y4.map eI),.arr true 1 ((List.replicate ((addW .i64 (y3.length:Int) 1)).toNat 0).map eI),.arr true 1 ((List.replicate ((addW .i64 (y3.length:Int) 1)).toNat 0).map eI),.arr true 1 ((List.replicate ((addW .i64 (y3.length:Int) 1)).toNat 0).map eI)] 0)):=by kernel_rfl
theorem ppo_of_U1_3_ppo_of_1 (c:Cand) (y3:(List Event)) (y4:(List Int)) (K:Ex→St→Prop):oR pc sc lp cd ⟨ord39,[(9,⟨[],[44],[],[],[],[],[(44,(5,(List.replicate ((addW .i64 (y3.length:Int) 1)).toNat 0).map eI))],[],[]⟩)],[],[],[]⟩ (polF 39) [(0,⟨[3,4,37],[],6,[],[],[]⟩,⟨[],[],[]⟩)] c_ppo_of_U1 (mkS 146 [(3,.ptr (.O 0) 0 0),(4,(vI (y3.length:Int))),(37,(vI 3))] [] [.arr false 7 [[.fptr (Cand.enc c) 0,.sl (y3.map Event.enc),.mf 2,.mf 3,.mf 4,.nilsl,.mf 1]],.arr true 1 (y4.map eI),.arr true 1 ((List.replicate ((addW .i64 (y3.length:Int) 1)).toNat 0).map eI),.arr true 1 ((List.replicate ((addW .i64 (y3.length:Int) 1)).toNat 0).map eI),.arr true 1 ((List.replicate ((addW .i64 (y3.length:Int) 1)).toNat 0).map eI)] 0) K
  = (((decide ((0:Int)≤(addW .i64 (y3.length:Int) 1))&&decide ((addW .i64 (y3.length:Int) 1)≤(addW .i64 (y3.length:Int) 1))&&decide (8 * (addW .i64 (y3.length:Int) 1)≤140737488355328)&&decide ((addW .i64 (y3.length:Int) 1)≤140737488355328)&&Nat.blt 0 1)=true)∧(List.replicate ((addW .i64 (y3.length:Int) 1)).toNat [(vI 0)]=(List.replicate ((addW .i64 (y3.length:Int) 1)).toNat 0).map eI)∧K .nrm (mkS 146 [(3,.ptr (.O 0) 0 0),(4,(vI (y3.length:Int))),(37,(vI 4))] [] [.arr false 7 [[.fptr (Cand.enc c) 0,.sl (y3.map Event.enc),.mf 2,.mf 3,.mf 4,.mf 5,.mf 1]],.arr true 1 (y4.map eI),.arr true 1 ((List.replicate ((addW .i64 (y3.length:Int) 1)).toNat 0).map eI),.arr true 1 ((List.replicate ((addW .i64 (y3.length:Int) 1)).toNat 0).map eI),.arr true 1 ((List.replicate ((addW .i64 (y3.length:Int) 1)).toNat 0).map eI),.arr true 1 ((List.replicate ((addW .i64 (y3.length:Int) 1)).toNat 0).map eI)] 0)):=by kernel_rfl
theorem ppo_of_U1_4_ppo_of_1 (c:Cand) (y3:(List Event)) (y4:(List Int)) (K:Ex→St→Prop):oR pc sc lp cd ⟨ord39,[],[],[],[]⟩ (polF 39) [(2,⟨[3],[],6,[],[],[]⟩,⟨[],[],[]⟩)] c_ppo_of_U1 (mkS 146 [(3,.ptr (.O 0) 0 0),(4,(vI (y3.length:Int))),(37,(vI 4))] [] [.arr false 7 [[.fptr (Cand.enc c) 0,.sl (y3.map Event.enc),.mf 2,.mf 3,.mf 4,.mf 5,.mf 1]],.arr true 1 (y4.map eI),.arr true 1 ((List.replicate ((addW .i64 (y3.length:Int) 1)).toNat 0).map eI),.arr true 1 ((List.replicate ((addW .i64 (y3.length:Int) 1)).toNat 0).map eI),.arr true 1 ((List.replicate ((addW .i64 (y3.length:Int) 1)).toNat 0).map eI),.arr true 1 ((List.replicate ((addW .i64 (y3.length:Int) 1)).toNat 0).map eI)] 0) K
  = (K (.ex 0) (mkS 146 [(3,.ptr (.O 0) 0 0)] [] [.arr false 7 [[.fptr (Cand.enc c) 0,.sl (y3.map Event.enc),.mf 2,.mf 3,.mf 4,.mf 5,.mf 1]],.arr true 1 (y4.map eI),.arr true 1 ((List.replicate ((addW .i64 (y3.length:Int) 1)).toNat 0).map eI),.arr true 1 ((List.replicate ((addW .i64 (y3.length:Int) 1)).toNat 0).map eI),.arr true 1 ((List.replicate ((addW .i64 (y3.length:Int) 1)).toNat 0).map eI),.arr true 1 ((List.replicate ((addW .i64 (y3.length:Int) 1)).toNat 0).map eI)] 0)):=by kernel_rfl
theorem ppo_of_sim (n:Nat) (c:Cand) (r:(Option ppo_view)) (h:ppo_of n c=some r):PCall Tryd.prog 39 [.fptr (Cand.enc c) 0] (eqA ((optP ppo_view.enc r))):=by
 unfold ppo_of at h
 obtain ⟨y1,gy1,h⟩:=bindE h
 rcases iteE h with ⟨h2,h⟩ | ⟨h2,h⟩
 ·
  obtain rfl:=soI h
  exact kP ⟨ord39,[rVC 1 [(16,vT)] [(15,(vI y1))]],[],[],[]⟩ ordB39 (fun z=>(aI (cand_Check_sim n c y1 gy1) (aB h2 z))) (by kernel_rfl)
 obtain ⟨y3,gy3,h⟩:=bindE h
 obtain ⟨y4,gy4,h⟩:=bindE h
 obtain ⟨h5,h⟩:=grdE h
 obtain ⟨h6,h⟩:=grdE h
 obtain ⟨h7,h⟩:=grdE h
 obtain ⟨h8,h⟩:=grdE h
 obtain ⟨t9,gt9,h⟩:=bindE h
 obtain rfl:=soI h
 exact kP ⟨ord39,[rVC 1 [(16,vF)] [(15,(vI y1))],rVC 3 [] [(22,.sl (y3.map Event.enc))],rV 4 [(29,(vI (y3.length:Int)))],(5,⟨[],[],[],[],[],[(34,(.mf 1,[.arr true 7 [[.fptr (Cand.enc c) 0,.sl (y3.map Event.enc),.nilsl,.nilsl,.nilsl,.nilsl,.nilsl]],.arr true 1 (y4.map eI)]))],[],[],[]⟩),rV 11 [(53,(vI (y3.length:Int)))]],[],[(7,(⟨[3,4,37],[],2,[],[],[]⟩,⟨[],[],[]⟩,(.ex 0),mkS 146 [(3,.ptr (.O 0) 0 0)] [] [.arr false 7 [[.fptr (Cand.enc c) 0,.sl (y3.map Event.enc),.mf 2,.mf 3,.mf 4,.mf 5,.mf 1]],.arr true 1 (y4.map eI),.arr true 1 ((List.replicate ((addW .i64 (y3.length:Int) 1)).toNat 0).map eI),.arr true 1 ((List.replicate ((addW .i64 (y3.length:Int) 1)).toNat 0).map eI),.arr true 1 ((List.replicate ((addW .i64 (y3.length:Int) 1)).toNat 0).map eI),.arr true 1 ((List.replicate ((addW .i64 (y3.length:Int) 1)).toNat 0).map eI)] 0)),(12,(⟨[3,52,53,54],[],6,[],[],[]⟩,⟨[],[],[]⟩,(.ex 2),ppo_of_L1_T0 c y3 t9))],[]⟩ ordB39 (fun z=>(aI (cand_Check_sim n c y1 gy1) (aB h2 (aI (slices_Concat_api_Event_api_Event_sim n c.Harts y3 gy3) (aL Event.enc y3 (aI (slices_Repeat_int_int_S2_sim n ([(y3.length:Int)]:List Int) (y3.length:Int) c.First c.Harts c.From c.Order y3 y4 gy4) (aI ((LoopD.round (cfg:=cfg) (okR ordB_ppo_of_U1 (Eq.mpr (ppo_of_U1_0_ppo_of_1 pP sP lP dP c y3 y4 _) ⟨h5,rep_map eI _ 0,⟨rfl,rfl⟩⟩) (LoopD.round (cfg:=cfg) (okR ordB_ppo_of_U1 (Eq.mpr (ppo_of_U1_1_ppo_of_1 pP sP lP dP c y3 y4 _) ⟨h6,rep_map eI _ 0,⟨rfl,rfl⟩⟩) (LoopD.round (cfg:=cfg) (okR ordB_ppo_of_U1 (Eq.mpr (ppo_of_U1_2_ppo_of_1 pP sP lP dP c y3 y4 _) ⟨h7,rep_map eI _ 0,⟨rfl,rfl⟩⟩) (LoopD.round (cfg:=cfg) (okR ordB_ppo_of_U1 (Eq.mpr (ppo_of_U1_3_ppo_of_1 pP sP lP dP c y3 y4 _) ⟨h8,rep_map eI _ 0,⟨rfl,rfl⟩⟩) (LoopD.round (cfg:=cfg) (okR ordB_ppo_of_U1 (Eq.mpr (ppo_of_U1_4_ppo_of_1 pP sP lP dP c y3 y4 _) ⟨rfl,rfl⟩) ⟨rfl,rfl⟩)))))))))):lP (polF 39) c_ppo_of_U1 (mkS 146 [(3,.ptr (.O 0) 0 0),(4,(vI (y3.length:Int))),(37,(vI 0))] [] [.arr false 7 [[.fptr (Cand.enc c) 0,.sl (y3.map Event.enc),.nilsl,.nilsl,.nilsl,.nilsl,.mf 1]],.arr true 1 (y4.map eI)] 0) (fun e' S'=>e'=(.ex 0)∧S'=mkS 146 [(3,.ptr (.O 0) 0 0)] [] [.arr false 7 [[.fptr (Cand.enc c) 0,.sl (y3.map Event.enc),.mf 2,.mf 3,.mf 4,.mf 5,.mf 1]],.arr true 1 (y4.map eI),.arr true 1 ((List.replicate ((addW .i64 (y3.length:Int) 1)).toNat 0).map eI),.arr true 1 ((List.replicate ((addW .i64 (y3.length:Int) 1)).toNat 0).map eI),.arr true 1 ((List.replicate ((addW .i64 (y3.length:Int) 1)).toNat 0).map eI),.arr true 1 ((List.replicate ((addW .i64 (y3.length:Int) 1)).toNat 0).map eI)] 0)) (aL Event.enc y3 (aI (okL (pl:=polF 39) (ppo_of_L1_S c y3) (ppo_of_L1_out c y3) (ppo_of_L1_sim n c y3) n _ t9 gt9) z))))))))) (by kernel_rfl)

def ord48:List (Nat×PT):=[(3,(ptS [0,1,2,3,4,5,6,7,8,9,10,11,12,13])),(4,(ptS [0,1,2,3,4,5,6,7,8,9,10,11,12,13,14,15,16,17,18,19,20,21]))]
theorem ordB48:ordB (polF 48) ord48 (bodyOf Tryd.prog 48)=true:=by kernel_rfl
theorem ppo_view_ahead_sim (n:Nat) (v:ppo_view) (a:Int) (b:Int) (r:Bool) (h:ppo_view_ahead n v a b=some r):PCall Tryd.prog 48 [.fptr (ppo_view.enc v) 0,(vI a),(vI b)] (eqA (.v (.bool r))):=by
 unfold ppo_view_ahead at h
 rcases iteE h with ⟨h1,h⟩ | ⟨h1,h⟩
 ·
  obtain rfl:=soI h
  exact kP ⟨ord48,[rV 1 [(15,vT)]],[],[],[]⟩ ordB48 (fun z=>(aB h1 z)) (by kernel_rfl)
 rcases iteE h with ⟨h2,h⟩ | ⟨h2,h⟩
 ·
  obtain rfl:=soI h
  exact kP ⟨ord48,[rV 1 [(15,vF),(21,(vI (v.all.length:Int))),(24,vT)]],[],[],[]⟩ ordB48 (fun z=>(aB h1 (aL Event.enc v.all (aB h2 z)))) (by kernel_rfl)
 rcases iteE h with ⟨h3,h⟩ | ⟨h3,h⟩
 ·
  obtain rfl:=soI h
  exact kP ⟨ord48,[rV 1 [(15,vF),(21,(vI (v.all.length:Int))),(24,vF),(28,vT)]],[],[],[]⟩ ordB48 (fun z=>(aB h1 (aL Event.enc v.all (aB h2 (aB h3 z))))) (by kernel_rfl)
 obtain ⟨x4,gx4,h⟩:=bindE h
 obtain ⟨x5,gx5,h⟩:=bindE h
 rcases iteN h with ⟨h6,h⟩ | ⟨h6,h⟩
 ·
  obtain rfl:=soI h
  exact kP ⟨ord48,[rV 1 [(15,vF),(21,(vI (v.all.length:Int))),(24,vF),(28,vF)],(3,⟨[],[],[(34,(Event.enc x4)),(40,(Event.enc x5))],[],[],[],[],[],[]⟩),rV 4 [(50,vF)]],[],[],[]⟩ ordB48 (fun z=>(aB h1 (aL Event.enc v.all (aB h2 (aB h3 (aM Event.enc gx4 (aM Event.enc gx5 (aB h6 z)))))))) (by kernel_rfl)
 obtain ⟨y7,gy7,h⟩:=bindE h
 rcases iteN h with ⟨h8,h⟩ | ⟨h8,h⟩
 ·
  obtain rfl:=soI h
  exact kP ⟨ord48,[rV 1 [(15,vF),(21,(vI (v.all.length:Int))),(24,vF),(28,vF)],(3,⟨[],[],[(34,(Event.enc x4)),(40,(Event.enc x5))],[],[],[],[],[],[]⟩),rVC 4 [(50,vT),(56,vF)] [(54,.v (.bool y7))]],[],[],[]⟩ ordB48 (fun z=>(aB h1 (aL Event.enc v.all (aB h2 (aB h3 (aM Event.enc gx4 (aM Event.enc gx5 (aB h6 (aI (event_Memory_sim n x4 y7 gy7) (aB h8 z)))))))))) (by kernel_rfl)
 obtain ⟨y9,gy9,h⟩:=bindE h
 obtain rfl:=soI h
 exact kP ⟨ord48,[rV 1 [(15,vF),(21,(vI (v.all.length:Int))),(24,vF),(28,vF)],(3,⟨[],[],[(34,(Event.enc x4)),(40,(Event.enc x5))],[],[],[],[],[],[]⟩),rVC 4 [(50,vT),(56,vT)] [(54,.v (.bool y7)),(60,.v (.bool y9))]],[],[],[]⟩ ordB48 (fun z=>(aB h1 (aL Event.enc v.all (aB h2 (aB h3 (aM Event.enc gx4 (aM Event.enc gx5 (aB h6 (aI (event_Memory_sim n x4 y7 gy7) (aB h8 (aI (event_Memory_sim n x5 y9 gy9) z))))))))))) (by kernel_rfl)

def ord49:List (Nat×PT):=[]
theorem ordB49:ordB (polF 49) ord49 (bodyOf Tryd.prog 49)=true:=by kernel_rfl
theorem ppo_rules_sim (n:Nat) (r:Unit) (h:ppo_rules n=some r):PCall Tryd.prog 49 [] (eqA (.agg [.fn 62 [] [],.fn 63 [] [],.fn 66 [] [],.fn 67 [] [],.fn 69 [] [],.fn 70 [] [],.fn 71 [] [],.fn 72 [] [],.fn 73 [] [],.fn 75 [] [],.fn 76 [] [],.fn 77 [] [],.fn 78 [] []])):=by
 unfold ppo_rules at h
 obtain rfl:=soI h
 exact kP ⟨ord49,[],[],[],[]⟩ ordB49 (fun z=>z) (by kernel_rfl)

def ord62:List (Nat×PT):=[(1,(ptS [0,1,2,3,4,5,6,7,8,9,10,11,12,13,14,15]))]
theorem ordB62:ordB (polF 62) ord62 (bodyOf Tryd.prog 62)=true:=by kernel_rfl
theorem ppo_rules_1_sim (n:Nat) (v:ppo_view) (a:Int) (b:Int) (x:Event) (y:Event) (r:Bool) (h:ppo_rules_1 n v a b x y=some r):PCall Tryd.prog 62 [.fptr (ppo_view.enc v) 0,(vI a),(vI b),.fptr (Event.enc x) 0,.fptr (Event.enc y) 0] (eqA (.v (.bool r))):=by
 unfold ppo_rules_1 at h
 obtain ⟨y1,gy1,h⟩:=bindE h
 rcases iteE h with ⟨h2,h⟩ | ⟨h2,h⟩
 ·
  obtain rfl:=soI h
  exact kP ⟨ord62,[rVC 1 [(15,vT)] [(14,.v (.bool y1))]],[],[],[]⟩ ordB62 (fun z=>(aI (event_Writes_sim n y y1 gy1) (aB h2 z))) (by kernel_rfl)
 obtain rfl:=soI h
 exact kP ⟨ord62,[rVC 1 [(15,vF)] [(14,.v (.bool y1))]],[],[],[]⟩ ordB62 (fun z=>(aI (event_Writes_sim n y y1 gy1) (aB h2 z))) (by kernel_rfl)

def ord65:List (Nat×PT):=[(1,(ptS [0,1,2,3,4,5,6,7,8,9,10,11]))]
theorem ordB65:ordB (polF 65) ord65 (bodyOf Tryd.prog 65)=true:=by kernel_rfl
theorem ppo_rules_2_1_sim (n:Nat) (m:Event) (a:Int) (a_:Int) (a__:Int) (a___:Int) (a____:Int) (a_____:Int) (a______:Bool) (a_______:Bool) (a________:Int) (a_________:Int) (a__________:Int) (a___________:(List Int)) (a____________:(List Int)) (a_____________:(List Int)) (r:Bool) (h:ppo_rules_2_1 n m a a_ a__ a___ a____ a_____ a______ a_______ a________ a_________ a__________ a___________ a____________ a_____________=some r):PCall Tryd.prog 65 [(aAgg Event.enc m),.fptr [.fptr [(vI a),(vI a_),(vI a__),(vU a___),(vU a____),(vU a_____),.v (.bool a______),.v (.bool a_______),(vI a________),(vI a_________),(vI a__________),.sl (a___________.map eI),.sl (a____________.map eI),.sl (a_____________.map eI)] 0] 0] (eqA (.v (.bool r))):=by
 unfold ppo_rules_2_1 at h
 obtain ⟨y1,gy1,h⟩:=bindE h
 rcases iteE h with ⟨h2,h⟩ | ⟨h2,h⟩
 ·
  obtain rfl:=soI h
  exact kP ⟨ord65,[rVC 1 [(6,vT)] [(5,.v (.bool y1))]],[],[],[]⟩ ordB65 (fun z=>(aI (event_Writes_sim n m y1 gy1) (aB h2 z))) (by kernel_rfl)
 obtain rfl:=soI h
 exact kP ⟨ord65,[rVC 1 [(6,vF)] [(5,.v (.bool y1))]],[],[],[]⟩ ordB65 (fun z=>(aI (event_Writes_sim n m y1 gy1) (aB h2 z))) (by kernel_rfl)

def ord88:List (Nat×PT):=[]
theorem ordB88:ordB (polF 88) ord88 (bodyOf Tryd.prog 88)=true:=by kernel_rfl
noncomputable def c_slices_IndexFunc_api_Event_api_Event_L1:Code:=sub (bodyOf Tryd.prog 88) [1,0,1,0,0]
theorem ordB_slices_IndexFunc_api_Event_api_Event_L1:ordB (polF 88) ord88 c_slices_IndexFunc_api_Event_api_Event_L1=true:=by kernel_rfl
def slices_IndexFunc_api_Event_api_Event_L1_S (s_:(List Event)) (f:Int) (f_:Int) (f__:Int) (f___:Int) (f____:Int) (f_____:Int) (f______:Bool) (f_______:Bool) (f________:Int) (f_________:Int) (f__________:Int) (f___________:(List Int)) (f____________:(List Int)) (f_____________:(List Int)) (sa:Int):St:=mkS 19 [(0,.sl (s_.map Event.enc)),(1,.fn 65 [] [.fptr [.fptr [(vI f),(vI f_),(vI f__),(vU f___),(vU f____),(vU f_____),.v (.bool f______),.v (.bool f_______),(vI f________),(vI f_________),(vI f__________),.sl (f___________.map eI),.sl (f____________.map eI),.sl (f_____________.map eI)] 0] 0]),(7,(vI (s_.length:Int))),(8,(vI sa))] [] [] 0
def slices_IndexFunc_api_Event_api_Event_L1_T0 (s_:(List Event)) (f:Int) (f_:Int) (f__:Int) (f___:Int) (f____:Int) (f_____:Int) (f______:Bool) (f_______:Bool) (f________:Int) (f_________:Int) (f__________:Int) (f___________:(List Int)) (f____________:(List Int)) (f_____________:(List Int)) (tt:Unit):St:=mkS 19 [] [] [] 0
def slices_IndexFunc_api_Event_api_Event_L1_T1 (s_:(List Event)) (f:Int) (f_:Int) (f__:Int) (f___:Int) (f____:Int) (f_____:Int) (f______:Bool) (f_______:Bool) (f________:Int) (f_________:Int) (f__________:Int) (f___________:(List Int)) (f____________:(List Int)) (f_____________:(List Int)) (tt:Int):St:=mkS 19 [(4,(vI tt))] [] [] 0
def slices_IndexFunc_api_Event_api_Event_L1_out (s_:(List Event)) (f:Int) (f_:Int) (f__:Int) (f___:Int) (f____:Int) (f_____:Int) (f______:Bool) (f_______:Bool) (f________:Int) (f_________:Int) (f__________:Int) (f___________:(List Int)) (f____________:(List Int)) (f_____________:(List Int)) (t0:(Unit⊕Int)):Ex×St:=match t0 with | .inl tt=>(.ex 0,slices_IndexFunc_api_Event_api_Event_L1_T0 s_ f f_ f__ f___ f____ f_____ f______ f_______ f________ f_________ f__________ f___________ f____________ f_____________ tt) | .inr tt=>(.ret,slices_IndexFunc_api_Event_api_Event_L1_T1 s_ f f_ f__ f___ f____ f_____ f______ f_______ f________ f_________ f__________ f___________ f____________ f_____________ tt)
theorem slices_IndexFunc_api_Event_api_Event_L1_sim (n:Nat) (s_:(List Event)) (f:Int) (f_:Int) (f__:Int) (f___:Int) (f____:Int) (f_____:Int) (f______:Bool) (f_______:Bool) (f________:Int) (f_________:Int) (f__________:Int) (f___________:(List Int)) (f____________:(List Int)) (f_____________:(List Int)):∀ sa r,slices_IndexFunc_api_Event_api_Event_L1 n s_ f f_ f__ f___ f____ f_____ f______ f_______ f________ f_________ f__________ f___________ f____________ f_____________ sa=some r→CodeD Tryd.prog c_slices_IndexFunc_api_Event_api_Event_L1 (slices_IndexFunc_api_Event_api_Event_L1_S s_ f f_ f__ f___ f____ f_____ f______ f_______ f________ f_________ f__________ f___________ f____________ f_____________ sa) (rk (slices_IndexFunc_api_Event_api_Event_L1_S s_ f f_ f__ f___ f____ f_____ f______ f_______ f________ f_________ f__________ f___________ f____________ f_____________) (slices_IndexFunc_api_Event_api_Event_L1_out s_ f f_ f__ f___ f____ f_____ f______ f_______ f________ f_________ f__________ f___________ f____________ f_____________) r):=by
 intro sa r h
 unfold slices_IndexFunc_api_Event_api_Event_L1 at h
 rcases iteN h with ⟨ha1,h⟩ | ⟨ha1,h⟩
 ·
  obtain rfl:=soI h
  exact kR ⟨ord88,[rV 2 [(9,vF)]],[],[],[]⟩ [(2,⟨[],[],0,[],[],[]⟩,⟨[],[],[]⟩)] ordB_slices_IndexFunc_api_Event_api_Event_L1 (rkE rfl neE) (fun z=>(aB ha1 z)) (by kernel_rfl)
 obtain ⟨xa2,gxa2,h⟩:=bindE h
 obtain ⟨ya3,gya3,h⟩:=bindE h
 rcases iteE h with ⟨ha4,h⟩ | ⟨ha4,h⟩
 ·
  obtain rfl:=soI h
  exact kR ⟨ord88,[rV 2 [(9,vT)],(4,⟨[],[],[(14,(Event.enc xa2))],[(16,vT)],[(16,.v (.bool ya3))],[],[],[],[]⟩)],[],[],[]⟩ [(1,⟨[4],[],0,[],[],[]⟩,⟨[],[],[]⟩)] ordB_slices_IndexFunc_api_Event_api_Event_L1 (rkE rfl neR) (fun z=>(aB ha1 (aM Event.enc gxa2 (aI (ppo_rules_2_1_sim n xa2 f f_ f__ f___ f____ f_____ f______ f_______ f________ f_________ f__________ f___________ f____________ f_____________ ya3 gya3) (aB ha4 z))))) (by kernel_rfl)
 obtain rfl:=soI h
 exact kR ⟨ord88,[rV 2 [(9,vT)],(4,⟨[],[],[(14,(Event.enc xa2))],[(16,vF)],[(16,.v (.bool ya3))],[],[],[],[]⟩)],[],[],[]⟩ [(0,⟨[0,1,7,8],[],0,[],[],[]⟩,⟨[],[],[]⟩)] ordB_slices_IndexFunc_api_Event_api_Event_L1 rkN (fun z=>(aB ha1 (aM Event.enc gxa2 (aI (ppo_rules_2_1_sim n xa2 f f_ f__ f___ f____ f_____ f______ f_______ f________ f_________ f__________ f___________ f____________ f_____________ ya3 gya3) (aB ha4 z))))) (by kernel_rfl)

theorem slices_IndexFunc_api_Event_api_Event_sim (n:Nat) (s_:(List Event)) (f:Int) (f_:Int) (f__:Int) (f___:Int) (f____:Int) (f_____:Int) (f______:Bool) (f_______:Bool) (f________:Int) (f_________:Int) (f__________:Int) (f___________:(List Int)) (f____________:(List Int)) (f_____________:(List Int)) (r:Int) (h:slices_IndexFunc_api_Event_api_Event n s_ f f_ f__ f___ f____ f_____ f______ f_______ f________ f_________ f__________ f___________ f____________ f_____________=some r):PCall Tryd.prog 88 [.sl (s_.map Event.enc),.fn 65 [] [.fptr [.fptr [(vI f),(vI f_),(vI f__),(vU f___),(vU f____),(vU f_____),.v (.bool f______),.v (.bool f_______),(vI f________),(vI f_________),(vI f__________),.sl (f___________.map eI),.sl (f____________.map eI),.sl (f_____________.map eI)] 0] 0]] (eqA ((vI r))):=by
 unfold slices_IndexFunc_api_Event_api_Event at h
 obtain ⟨t1,gt1,h⟩:=bindE h
 rcases t1 with w2 | w2
 ·
  obtain rfl:=soI h
  exact kP ⟨ord88,[rV 1 [(7,(vI (s_.length:Int)))]],[],[(2,(⟨[0,1,7,8],[],0,[],[],[]⟩,⟨[],[],[]⟩,(.ex 0),slices_IndexFunc_api_Event_api_Event_L1_T0 s_ f f_ f__ f___ f____ f_____ f______ f_______ f________ f_________ f__________ f___________ f____________ f_____________ w2))],[]⟩ ordB88 (fun z=>(aL Event.enc s_ (aI (okL (pl:=polF 88) (slices_IndexFunc_api_Event_api_Event_L1_S s_ f f_ f__ f___ f____ f_____ f______ f_______ f________ f_________ f__________ f___________ f____________ f_____________) (slices_IndexFunc_api_Event_api_Event_L1_out s_ f f_ f__ f___ f____ f_____ f______ f_______ f________ f_________ f__________ f___________ f____________ f_____________) (slices_IndexFunc_api_Event_api_Event_L1_sim n s_ f f_ f__ f___ f____ f_____ f______ f_______ f________ f_________ f__________ f___________ f____________ f_____________) n _ (.inl w2) gt1) z))) (by kernel_rfl)
 ·
  obtain rfl:=soI h
  exact kP ⟨ord88,[rV 1 [(7,(vI (s_.length:Int)))]],[],[(2,(⟨[0,1,7,8],[],0,[],[],[]⟩,⟨[],[],[]⟩,.ret,slices_IndexFunc_api_Event_api_Event_L1_T1 s_ f f_ f__ f___ f____ f_____ f______ f_______ f________ f_________ f__________ f___________ f____________ f_____________ w2))],[]⟩ ordB88 (fun z=>(aL Event.enc s_ (aI (okL (pl:=polF 88) (slices_IndexFunc_api_Event_api_Event_L1_S s_ f f_ f__ f___ f____ f_____ f______ f_______ f________ f_________ f__________ f___________ f____________ f_____________) (slices_IndexFunc_api_Event_api_Event_L1_out s_ f f_ f__ f___ f____ f_____ f______ f_______ f________ f_________ f__________ f___________ f____________ f_____________) (slices_IndexFunc_api_Event_api_Event_L1_sim n s_ f f_ f__ f___ f____ f_____ f______ f_______ f________ f_________ f__________ f___________ f____________ f_____________) n _ (.inr w2) gt1) z))) (by kernel_rfl)

def ord64:List (Nat×PT):=[]
theorem ordB64:ordB (polF 64) ord64 (bodyOf Tryd.prog 64)=true:=by kernel_rfl
theorem slices_ContainsFunc_api_Event_api_Event_sim (n:Nat) (s_:(List Event)) (f:Int) (f_:Int) (f__:Int) (f___:Int) (f____:Int) (f_____:Int) (f______:Bool) (f_______:Bool) (f________:Int) (f_________:Int) (f__________:Int) (f___________:(List Int)) (f____________:(List Int)) (f_____________:(List Int)) (r:Bool) (h:slices_ContainsFunc_api_Event_api_Event n s_ f f_ f__ f___ f____ f_____ f______ f_______ f________ f_________ f__________ f___________ f____________ f_____________=some r):PCall Tryd.prog 64 [.sl (s_.map Event.enc),.fn 65 [] [.fptr [.fptr [(vI f),(vI f_),(vI f__),(vU f___),(vU f____),(vU f_____),.v (.bool f______),.v (.bool f_______),(vI f________),(vI f_________),(vI f__________),.sl (f___________.map eI),.sl (f____________.map eI),.sl (f_____________.map eI)] 0] 0]] (eqA (.v (.bool r))):=by
 unfold slices_ContainsFunc_api_Event_api_Event at h
 obtain ⟨y1,gy1,h⟩:=bindE h
 obtain rfl:=soI h
 exact kP ⟨ord64,[rVC 1 [] [(7,(vI y1))]],[],[],[]⟩ ordB64 (fun z=>(aI (slices_IndexFunc_api_Event_api_Event_sim n s_ f f_ f__ f___ f____ f_____ f______ f_______ f________ f_________ f__________ f___________ f____________ f_____________ y1 gy1) z)) (by kernel_rfl)

def ord63:List (Nat×PT):=[(1,(ptS [0,1,2,3,4,5,6,7,8,9,10,11,12,13,14,15,16,17,18,19,20,21,22,23,24,25,26,27,28,29,30,31,32,33,34,35,36,37,38,39,40,41,42,43,44,45]))]
theorem ordB63:ordB (polF 63) ord63 (bodyOf Tryd.prog 63)=true:=by kernel_rfl
theorem ppo_rules_2_sim (n:Nat) (v:ppo_view) (a:Int) (b:Int) (x:Event) (y:Event) (r:Bool) (h:ppo_rules_2 n v a b x y=some r):PCall Tryd.prog 63 [.fptr (ppo_view.enc v) 0,(vI a),(vI b),.fptr (Event.enc x) 0,.fptr (Event.enc y) 0] (eqA (.v (.bool r))):=by
 unfold ppo_rules_2 at h
 rcases iteE h with ⟨h1,h⟩ | ⟨h1,h⟩
 ·
  obtain rfl:=soI h
  exact kP ⟨ord63,[rV 1 [(20,vT)]],[],[],[]⟩ ordB63 (fun z=>(aB h1 z)) (by kernel_rfl)
 obtain ⟨y2,gy2,h⟩:=bindE h
 rcases iteE h with ⟨h3,h⟩ | ⟨h3,h⟩
 ·
  obtain rfl:=soI h
  exact kP ⟨ord63,[rVC 1 [(20,vF),(27,vT)] [(24,.v (.bool y2))]],[],[],[]⟩ ordB63 (fun z=>(aB h1 (aI (event_Reads_sim n x y2 gy2) (aB h3 z)))) (by kernel_rfl)
 obtain ⟨y4,gy4,h⟩:=bindE h
 rcases iteE h with ⟨h5,h⟩ | ⟨h5,h⟩
 ·
  obtain rfl:=soI h
  exact kP ⟨ord63,[rVC 1 [(20,vF),(27,vF),(34,vT)] [(24,.v (.bool y2)),(31,.v (.bool y4))]],[],[],[]⟩ ordB63 (fun z=>(aB h1 (aI (event_Reads_sim n x y2 gy2) (aB h3 (aI (event_Reads_sim n y y4 gy4) (aB h5 z)))))) (by kernel_rfl)
 rcases matchOE h with ⟨h6,h⟩ | ⟨z6,h7,h⟩
 ·
  cases h
 ·
  obtain ⟨x8,gx8,h⟩:=bindE h
  rcases matchOE h with ⟨h9,h⟩ | ⟨z9,h10,h⟩
  ·
   cases h
  ·
   obtain ⟨x11,gx11,h⟩:=bindE h
   rcases iteE h with ⟨h12,h⟩ | ⟨h12,h⟩
   ·
    obtain rfl:=soI h
    exact kP ⟨ord63,[(1,⟨[],[],[(43,[(vI x8)]),(53,[(vI x11)])],[(20,vF),(27,vF),(34,vF),(38,.fptr (Cand.enc z6) 0),(48,.fptr (Cand.enc z9) 0),(56,vT)],[(24,.v (.bool y2)),(31,.v (.bool y4))],[],[],[],[]⟩)],[],[],[]⟩ ordB63 (fun z=>(aB h1 (aI (event_Reads_sim n x y2 gy2) (aB h3 (aI (event_Reads_sim n y y4 gy4) (aB h5 (aI (congrArg (optP Cand.enc) h7) (aM eI gx8 (aI (congrArg (optP Cand.enc) h10) (aM eI gx11 (aB h12 z))))))))))) (by kernel_rfl)
   obtain ⟨h13,h⟩:=grdE h
   obtain ⟨y14,gy14,h⟩:=bindE h
   obtain rfl:=soI h
   exact kP ⟨ord63,[(1,⟨[],[],[(43,[(vI x8)]),(53,[(vI x11)])],[(20,vF),(27,vF),(34,vF),(38,.fptr (Cand.enc z6) 0),(48,.fptr (Cand.enc z9) 0),(56,vF)],[(24,.v (.bool y2)),(31,.v (.bool y4))],[],[],[],[]⟩),(3,⟨[],[64],[],[(64,.sl (((v.all.drop ((addW .i64 a 1)).toNat).take ((b).toNat - ((addW .i64 a 1)).toNat)).map Event.enc))],[(66,.v (.bool y14))],[],[],[],[]⟩)],[],[],[]⟩ ordB63 (fun z=>(aB h1 (aI (event_Reads_sim n x y2 gy2) (aB h3 (aI (event_Reads_sim n y y4 gy4) (aB h5 (aI (congrArg (optP Cand.enc) h7) (aM eI gx8 (aI (congrArg (optP Cand.enc) h10) (aM eI gx11 (aB h12 (aI (szOk_map Event.enc v.all (fun _=>rfl):szOk 14 (v.all.map Event.enc)=true) (aI (cut_lohi h13:(decide ((0:Int)≤(addW .i64 a 1))&&decide ((addW .i64 a 1)≤b)&&decide (b≤((((v.all.map Event.enc)).length:Nat):Int)))=true) (aI (sl_dt Event.enc v.all _ _:AV.sl ((((v.all.map Event.enc)).drop ((addW .i64 a 1)).toNat).take ((b).toNat - ((addW .i64 a 1)).toNat))=AV.sl (((v.all.drop ((addW .i64 a 1)).toNat).take ((b).toNat - ((addW .i64 a 1)).toNat)).map Event.enc)) (aI (slices_ContainsFunc_api_Event_api_Event_sim n ((v.all.drop ((addW .i64 a 1)).toNat).take ((b).toNat - ((addW .i64 a 1)).toNat)) x.Hart x.At x.Kind x.Addr x.Load x.Store x.Aq x.Rl x.Pred x.Succ x.Pair x.Deps.Addr x.Deps.Data x.Deps.Way y14 gy14) z))))))))))))))) (by kernel_rfl)

def ord66:List (Nat×PT):=[]
theorem ordB66:ordB (polF 66) ord66 (bodyOf Tryd.prog 66)=true:=by kernel_rfl
theorem ppo_rules_3_sim (n:Nat) (v:ppo_view) (a:Int) (b:Int) (x:Event) (y:Event) (r:Bool) (h:ppo_rules_3 n v a b x y=some r):PCall Tryd.prog 66 [.fptr (ppo_view.enc v) 0,(vI a),(vI b),.fptr (Event.enc x) 0,.fptr (Event.enc y) 0] (eqA (.v (.bool r))):=by
 unfold ppo_rules_3 at h
 rcases iteE h with ⟨h1,h⟩ | ⟨h1,h⟩
 ·
  obtain ⟨y2,gy2,h⟩:=bindE h
  rcases iteN h with ⟨h3,h⟩ | ⟨h3,h⟩
  ·
   obtain rfl:=soI h
   exact kP ⟨ord66,[rVC 1 [(16,vT),(29,vF)] [(27,.v (.bool y2))]],[],[],[]⟩ ordB66 (fun z=>(aB h1 (aI (event_Reads_sim n y y2 gy2) (aB h3 z)))) (by kernel_rfl)
  rcases matchOE h with ⟨h4,h⟩ | ⟨z4,h5,h⟩
  ·
   cases h
  ·
   obtain ⟨x6,gx6,h⟩:=bindE h
   obtain rfl:=soI h
   exact kP ⟨ord66,[(1,⟨[],[],[(38,[(vI x6)])],[(16,vT),(29,vT),(33,.fptr (Cand.enc z4) 0)],[(27,.v (.bool y2))],[],[],[],[]⟩)],[],[],[]⟩ ordB66 (fun z=>(aB h1 (aI (event_Reads_sim n y y2 gy2) (aB h3 (aI (congrArg (optP Cand.enc) h5) (aM eI gx6 z)))))) (by kernel_rfl)
 rcases iteN h with ⟨h2,h⟩ | ⟨h2,h⟩
 ·
  obtain rfl:=soI h
  exact kP ⟨ord66,[rV 1 [(16,vF),(23,vF)]],[],[],[]⟩ ordB66 (fun z=>(aB h1 (aB h2 z))) (by kernel_rfl)
 obtain ⟨y3,gy3,h⟩:=bindE h
 rcases iteN h with ⟨h4,h⟩ | ⟨h4,h⟩
 ·
  obtain rfl:=soI h
  exact kP ⟨ord66,[rVC 1 [(16,vF),(23,vT),(29,vF)] [(27,.v (.bool y3))]],[],[],[]⟩ ordB66 (fun z=>(aB h1 (aB h2 (aI (event_Reads_sim n y y3 gy3) (aB h4 z))))) (by kernel_rfl)
 rcases matchOE h with ⟨h5,h⟩ | ⟨z5,h6,h⟩
 ·
  cases h
 ·
  obtain ⟨x7,gx7,h⟩:=bindE h
  obtain rfl:=soI h
  exact kP ⟨ord66,[(1,⟨[],[],[(38,[(vI x7)])],[(16,vF),(23,vT),(29,vT),(33,.fptr (Cand.enc z5) 0)],[(27,.v (.bool y3))],[],[],[],[]⟩)],[],[],[]⟩ ordB66 (fun z=>(aB h1 (aB h2 (aI (event_Reads_sim n y y3 gy3) (aB h4 (aI (congrArg (optP Cand.enc) h6) (aM eI gx7 z))))))) (by kernel_rfl)

def ord89:List (Nat×PT):=[]
theorem ordB89:ordB (polF 89) ord89 (bodyOf Tryd.prog 89)=true:=by kernel_rfl
theorem ppo_sides_sim (n:Nat) (e:Event) (r:(List Int)) (h:ppo_sides n e=some r):PCall Tryd.prog 89 [(aAgg Event.enc e)] (eqA (.sl (r.map eI))):=by
 unfold ppo_sides at h
 obtain ⟨y1,gy1,h⟩:=bindE h
 rcases iteN h with ⟨h2,h⟩ | ⟨h2,h⟩
 ·
  obtain ⟨y3,gy3,h⟩:=bindE h
  rcases iteN h with ⟨h4,h⟩ | ⟨h4,h⟩
  ·
   obtain rfl:=soI h
   exact kP ⟨ord89,[rVC 1 [(4,vF)] [(4,.v (.bool y1))],rVC 3 [(9,vF)] [(9,.v (.bool y3))]],[],[],[]⟩ ordB89 (fun z=>(aI (event_Writes_sim n e y1 gy1) (aB h2 (aI (event_Reads_sim n e y3 gy3) (aB h4 (LeA.nil:LeA .nilsl (.sl (([]:List Int).map eI)))))))) (by kernel_rfl)
  obtain rfl:=soI h
  exact kP ⟨ord89,[rVC 1 [(4,vF)] [(4,.v (.bool y1))],rVC 3 [(9,vT)] [(9,.v (.bool y3))],(4,⟨[],[12],[],[],[],[],[],[],[]⟩)],[],[],[]⟩ ordB89 (fun z=>(aI (event_Writes_sim n e y1 gy1) (aB h2 (aI (event_Reads_sim n e y3 gy3) (aB h4 (aI (rfl:szOk 1 [[(vI 1)]]=true) (aI (rfl:okRows [[(vI 1)]]=true) (aI (rfl:Nat.ble (1 * 8) 140737488355328=true) z)))))))) (by kernel_rfl)
 obtain ⟨y3,gy3,h⟩:=bindE h
 rcases iteN h with ⟨h4,h⟩ | ⟨h4,h⟩
 ·
  obtain rfl:=soI h
  exact kP ⟨ord89,[rVC 1 [(4,vT)] [(4,.v (.bool y1))],(2,⟨[],[7],[],[],[],[],[],[],[]⟩),rVC 3 [(9,vF)] [(9,.v (.bool y3))]],[],[],[]⟩ ordB89 (fun z=>(aI (event_Writes_sim n e y1 gy1) (aB h2 (aI (rfl:szOk 1 [[(vI 0)]]=true) (aI (rfl:okRows [[(vI 0)]]=true) (aI (rfl:Nat.ble (1 * 8) 140737488355328=true) (aI (event_Reads_sim n e y3 gy3) (aB h4 z)))))))) (by kernel_rfl)
 obtain ⟨h5,h⟩:=grdE h
 obtain rfl:=soI h
 exact kP ⟨ord89,[rVC 1 [(4,vT)] [(4,.v (.bool y1))],(2,⟨[],[7],[],[],[],[],[],[],[]⟩),rVC 3 [(9,vT)] [(9,.v (.bool y3))],(4,⟨[],[12],[],[],[],[],[(12,(0,(([0]:List Int)++([1]:List Int)).map eI))],[],[]⟩)],[],[],[]⟩ ordB89 (fun z=>(aI (event_Writes_sim n e y1 gy1) (aB h2 (aI (rfl:szOk 1 [[(vI 0)]]=true) (aI (rfl:okRows [[(vI 0)]]=true) (aI (rfl:Nat.ble (1 * 8) 140737488355328=true) (aI (event_Reads_sim n e y3 gy3) (aB h4 (aI (rfl:szOk 1 [[(vI 1)]]=true) (aI (rfl:okRows [[(vI 1)]]=true) (aI (ble_maps1 h5:Nat.ble (((([0]:List Int).map eI).length + 1) * 8) 140737488355328=true) (aI (app_map eI ([0]:List Int) ([1]:List Int)) z)))))))))))) (by kernel_rfl)

def ord68:List (Nat×PT):=[(8,(ptS [0,1,2,3,4,5,6,7,8,9,10,11,12,13,14,15,16,17,18]))]
theorem ordB68:ordB (polF 68) ord68 (bodyOf Tryd.prog 68)=true:=by kernel_rfl
noncomputable def c_ppo_view_fenced_L1:Code:=sub (bodyOf Tryd.prog 68) [1,0,1,0,0]
noncomputable def c_ppo_view_fenced_L2:Code:=sub c_ppo_view_fenced_L1 [1,1,0,0,1,1,0,0]
theorem ordB_ppo_view_fenced_L2:ordB (polF 68) ord68 c_ppo_view_fenced_L2=true:=by kernel_rfl
def ppo_view_fenced_L2_S (v:ppo_view) (a:Int) (b:Int) (y2:(List Int)) (xa2:Int) (ya4:(List Int)) (sb:Int×Int):St:=mkS 63 [(0,.fptr (ppo_view.enc v) 0),(1,(vI a)),(2,(vI b)),(8,(vI xa2)),(19,.sl (y2.map eI)),(20,(vI (y2.length:Int))),(21,(vI sb.1)),(32,.sl (ya4.map eI)),(33,(vI (ya4.length:Int))),(34,(vI sb.2))] [] [] 0
def ppo_view_fenced_L2_T0 (v:ppo_view) (a:Int) (b:Int) (y2:(List Int)) (xa2:Int) (ya4:(List Int)) (tt:Int):St:=mkS 63 [(0,.fptr (ppo_view.enc v) 0),(1,(vI a)),(2,(vI b)),(19,.sl (y2.map eI)),(20,(vI (y2.length:Int))),(21,(vI tt))] [] [] 0
def ppo_view_fenced_L2_T1 (v:ppo_view) (a:Int) (b:Int) (y2:(List Int)) (xa2:Int) (ya4:(List Int)) (tt:Unit):St:=mkS 63 [(6,vT)] [] [] 0
def ppo_view_fenced_L2_out (v:ppo_view) (a:Int) (b:Int) (y2:(List Int)) (xa2:Int) (ya4:(List Int)) (t0:(Int⊕Unit)):Ex×St:=match t0 with | .inl tt=>(.ex 2,ppo_view_fenced_L2_T0 v a b y2 xa2 ya4 tt) | .inr tt=>(.ret,ppo_view_fenced_L2_T1 v a b y2 xa2 ya4 tt)
theorem ppo_view_fenced_L2_sim (n:Nat) (v:ppo_view) (a:Int) (b:Int) (y2:(List Int)) (xa2:Int) (ya4:(List Int)):∀ sb r,ppo_view_fenced_L2 n v a b y2 xa2 ya4 sb=some r→CodeD Tryd.prog c_ppo_view_fenced_L2 (ppo_view_fenced_L2_S v a b y2 xa2 ya4 sb) (rk (ppo_view_fenced_L2_S v a b y2 xa2 ya4) (ppo_view_fenced_L2_out v a b y2 xa2 ya4) r):=by
 intro sb r h
 unfold ppo_view_fenced_L2 at h
 rcases iteN h with ⟨hb1,h⟩ | ⟨hb1,h⟩
 ·
  obtain rfl:=soI h
  exact kR ⟨ord68,[rV 5 [(35,vF)]],[],[],[]⟩ [(4,⟨[0,1,2,19,20,21],[],0,[],[],[]⟩,⟨[],[],[]⟩)] ordB_ppo_view_fenced_L2 (rkE rfl neE) (fun z=>(aB hb1 z)) (by kernel_rfl)
 obtain ⟨xb2,gxb2,h⟩:=bindE h
 rcases iteE h with ⟨hb3,h⟩ | ⟨hb3,h⟩
 ·
  obtain ⟨xb4,gxb4,h⟩:=bindE h
  obtain ⟨xb5,gxb5,h⟩:=bindE h
  rcases iteE h with ⟨hb6,h⟩ | ⟨hb6,h⟩
  ·
   obtain rfl:=soI h
   exact kR ⟨ord68,[rV 5 [(35,vT)],(6,⟨[],[],[(36,[(vI xb2)])],[],[],[],[],[],[]⟩),(8,⟨[],[],[(49,[(vI xb4)]),(58,[(vI xb5)])],[(43,(vI 0)),(52,(vI 0)),(60,vT)],[],[],[],[],[]⟩)],[],[],[]⟩ [(1,⟨[6],[],0,[],[],[]⟩,⟨[],[],[]⟩)] ordB_ppo_view_fenced_L2 (rkE rfl neR) (fun z=>(aB hb1 (aM eI gxb2 (aE .i64 hb3 (aM eI gxb4 (aE .i64 hb3 (aM eI gxb5 (aB hb6 z)))))))) (by kernel_rfl)
  obtain rfl:=soI h
  exact kR ⟨ord68,[rV 5 [(35,vT)],(6,⟨[],[],[(36,[(vI xb2)])],[],[],[],[],[],[]⟩),(8,⟨[],[],[(49,[(vI xb4)]),(58,[(vI xb5)])],[(43,(vI 0)),(52,(vI 0)),(60,vF)],[],[],[],[],[]⟩)],[],[],[]⟩ [(0,⟨[0,1,2,8,19,20,21,32,33,34],[],0,[],[],[]⟩,⟨[],[],[]⟩)] ordB_ppo_view_fenced_L2 rkN (fun z=>(aB hb1 (aM eI gxb2 (aE .i64 hb3 (aM eI gxb4 (aE .i64 hb3 (aM eI gxb5 (aB hb6 z)))))))) (by kernel_rfl)
 rcases iteE h with ⟨hb3,h⟩ | ⟨hb3,h⟩
 ·
  obtain ⟨xb4,gxb4,h⟩:=bindE h
  obtain ⟨xb5,gxb5,h⟩:=bindE h
  rcases iteE h with ⟨hb6,h⟩ | ⟨hb6,h⟩
  ·
   obtain rfl:=soI h
   exact kR ⟨ord68,[rV 5 [(35,vT)],(6,⟨[],[],[(36,[(vI xb2)])],[],[],[],[],[],[]⟩),(8,⟨[],[],[(49,[(vI xb4)]),(58,[(vI xb5)])],[(43,(vI 1)),(52,(vI 1)),(60,vT)],[],[],[],[],[]⟩)],[],[],[]⟩ [(1,⟨[6],[],0,[],[],[]⟩,⟨[],[],[]⟩)] ordB_ppo_view_fenced_L2 (rkE rfl neR) (fun z=>(aB hb1 (aM eI gxb2 (aE .i64 hb3 (aM eI gxb4 (aE .i64 hb3 (aM eI gxb5 (aB hb6 z)))))))) (by kernel_rfl)
  obtain rfl:=soI h
  exact kR ⟨ord68,[rV 5 [(35,vT)],(6,⟨[],[],[(36,[(vI xb2)])],[],[],[],[],[],[]⟩),(8,⟨[],[],[(49,[(vI xb4)]),(58,[(vI xb5)])],[(43,(vI 1)),(52,(vI 1)),(60,vF)],[],[],[],[],[]⟩)],[],[],[]⟩ [(0,⟨[0,1,2,8,19,20,21,32,33,34],[],0,[],[],[]⟩,⟨[],[],[]⟩)] ordB_ppo_view_fenced_L2 rkN (fun z=>(aB hb1 (aM eI gxb2 (aE .i64 hb3 (aM eI gxb4 (aE .i64 hb3 (aM eI gxb5 (aB hb6 z)))))))) (by kernel_rfl)
 rcases iteE h with ⟨hb3,h⟩ | ⟨hb3,h⟩
 ·
  obtain ⟨xb4,gxb4,h⟩:=bindE h
  obtain ⟨xb5,gxb5,h⟩:=bindE h
  rcases iteE h with ⟨hb6,h⟩ | ⟨hb6,h⟩
  ·
   obtain rfl:=soI h
   exact kR ⟨ord68,[rV 5 [(35,vT)],(6,⟨[],[],[(36,[(vI xb2)])],[],[],[],[],[],[]⟩),(8,⟨[],[],[(49,[(vI xb4)]),(58,[(vI xb5)])],[(43,(vI 2)),(52,(vI 2)),(60,vT)],[],[],[],[],[]⟩)],[],[],[]⟩ [(1,⟨[6],[],0,[],[],[]⟩,⟨[],[],[]⟩)] ordB_ppo_view_fenced_L2 (rkE rfl neR) (fun z=>(aB hb1 (aM eI gxb2 (aE .i64 hb3 (aM eI gxb4 (aE .i64 hb3 (aM eI gxb5 (aB hb6 z)))))))) (by kernel_rfl)
  obtain rfl:=soI h
  exact kR ⟨ord68,[rV 5 [(35,vT)],(6,⟨[],[],[(36,[(vI xb2)])],[],[],[],[],[],[]⟩),(8,⟨[],[],[(49,[(vI xb4)]),(58,[(vI xb5)])],[(43,(vI 2)),(52,(vI 2)),(60,vF)],[],[],[],[],[]⟩)],[],[],[]⟩ [(0,⟨[0,1,2,8,19,20,21,32,33,34],[],0,[],[],[]⟩,⟨[],[],[]⟩)] ordB_ppo_view_fenced_L2 rkN (fun z=>(aB hb1 (aM eI gxb2 (aE .i64 hb3 (aM eI gxb4 (aE .i64 hb3 (aM eI gxb5 (aB hb6 z)))))))) (by kernel_rfl)
 rcases iteE h with ⟨hb3,h⟩ | ⟨hb3,h⟩
 ·
  obtain ⟨xb4,gxb4,h⟩:=bindE h
  obtain ⟨xb5,gxb5,h⟩:=bindE h
  rcases iteE h with ⟨hb6,h⟩ | ⟨hb6,h⟩
  ·
   obtain rfl:=soI h
   exact kR ⟨ord68,[rV 5 [(35,vT)],(6,⟨[],[],[(36,[(vI xb2)])],[],[],[],[],[],[]⟩),(8,⟨[],[],[(49,[(vI xb4)]),(58,[(vI xb5)])],[(43,(vI 3)),(52,(vI 3)),(60,vT)],[],[],[],[],[]⟩)],[],[],[]⟩ [(1,⟨[6],[],0,[],[],[]⟩,⟨[],[],[]⟩)] ordB_ppo_view_fenced_L2 (rkE rfl neR) (fun z=>(aB hb1 (aM eI gxb2 (aE .i64 hb3 (aM eI gxb4 (aE .i64 hb3 (aM eI gxb5 (aB hb6 z)))))))) (by kernel_rfl)
  obtain rfl:=soI h
  exact kR ⟨ord68,[rV 5 [(35,vT)],(6,⟨[],[],[(36,[(vI xb2)])],[],[],[],[],[],[]⟩),(8,⟨[],[],[(49,[(vI xb4)]),(58,[(vI xb5)])],[(43,(vI 3)),(52,(vI 3)),(60,vF)],[],[],[],[],[]⟩)],[],[],[]⟩ [(0,⟨[0,1,2,8,19,20,21,32,33,34],[],0,[],[],[]⟩,⟨[],[],[]⟩)] ordB_ppo_view_fenced_L2 rkN (fun z=>(aB hb1 (aM eI gxb2 (aE .i64 hb3 (aM eI gxb4 (aE .i64 hb3 (aM eI gxb5 (aB hb6 z)))))))) (by kernel_rfl)
 cases h

theorem ordB_ppo_view_fenced_L1:ordB (polF 68) ord68 c_ppo_view_fenced_L1=true:=by kernel_rfl
def ppo_view_fenced_L1_S (v:ppo_view) (a:Int) (b:Int) (y2:(List Int)) (sa:Int):St:=mkS 63 [(0,.fptr (ppo_view.enc v) 0),(1,(vI a)),(2,(vI b)),(19,.sl (y2.map eI)),(20,(vI (y2.length:Int))),(21,(vI sa))] [] [] 0
def ppo_view_fenced_L1_T0 (v:ppo_view) (a:Int) (b:Int) (y2:(List Int)) (tt:Unit):St:=mkS 63 [] [] [] 0
def ppo_view_fenced_L1_T1 (v:ppo_view) (a:Int) (b:Int) (y2:(List Int)) (tt:Unit):St:=mkS 63 [(6,vT)] [] [] 0
def ppo_view_fenced_L1_out (v:ppo_view) (a:Int) (b:Int) (y2:(List Int)) (t0:(Unit⊕Unit)):Ex×St:=match t0 with | .inl tt=>(.ex 0,ppo_view_fenced_L1_T0 v a b y2 tt) | .inr tt=>(.ret,ppo_view_fenced_L1_T1 v a b y2 tt)
theorem ppo_view_fenced_L1_sim (n:Nat) (v:ppo_view) (a:Int) (b:Int) (y2:(List Int)):∀ sa r,ppo_view_fenced_L1 n v a b y2 sa=some r→CodeD Tryd.prog c_ppo_view_fenced_L1 (ppo_view_fenced_L1_S v a b y2 sa) (rk (ppo_view_fenced_L1_S v a b y2) (ppo_view_fenced_L1_out v a b y2) r):=by
 intro sa r h
 unfold ppo_view_fenced_L1 at h
 rcases iteN h with ⟨ha1,h⟩ | ⟨ha1,h⟩
 ·
  obtain rfl:=soI h
  exact kR ⟨ord68,[rV 2 [(22,vF)]],[],[],[]⟩ [(2,⟨[],[],0,[],[],[]⟩,⟨[],[],[]⟩)] ordB_ppo_view_fenced_L1 (rkE rfl neE) (fun z=>(aB ha1 z)) (by kernel_rfl)
 obtain ⟨xa2,gxa2,h⟩:=bindE h
 obtain ⟨xa3,gxa3,h⟩:=bindE h
 obtain ⟨ya4,gya4,h⟩:=bindE h
 obtain ⟨ta5,gta5,h⟩:=bindE h
 rcases ta5 with wa6 | wa6
 ·
  obtain rfl:=soI h
  exact kR ⟨ord68,[rV 2 [(22,vT)],(3,⟨[],[],[(23,[(vI xa2)])],[],[],[],[],[],[]⟩),(4,⟨[],[],[(30,(Event.enc xa3))],[(33,(vI (ya4.length:Int)))],[(32,.sl (ya4.map eI))],[],[],[],[]⟩)],[],[(5,(⟨[0,1,2,8,19,20,21,32,33,34],[],0,[],[],[]⟩,⟨[],[],[]⟩,(.ex 2),ppo_view_fenced_L2_T0 v a b y2 xa2 ya4 wa6))],[]⟩ [(0,⟨[0,1,2,19,20,21],[],0,[],[],[]⟩,⟨[],[],[]⟩)] ordB_ppo_view_fenced_L1 rkN (fun z=>(aB ha1 (aM eI gxa2 (aM Event.enc gxa3 (aI (ppo_sides_sim n xa3 ya4 gya4) (aL eI ya4 (aI (okL (pl:=polF 68) (ppo_view_fenced_L2_S v a b y2 xa2 ya4) (ppo_view_fenced_L2_out v a b y2 xa2 ya4) (ppo_view_fenced_L2_sim n v a b y2 xa2 ya4) n _ (.inl wa6) gta5) z))))))) (by kernel_rfl)
 ·
  obtain rfl:=soI h
  exact kR ⟨ord68,[rV 2 [(22,vT)],(3,⟨[],[],[(23,[(vI xa2)])],[],[],[],[],[],[]⟩),(4,⟨[],[],[(30,(Event.enc xa3))],[(33,(vI (ya4.length:Int)))],[(32,.sl (ya4.map eI))],[],[],[],[]⟩)],[],[(5,(⟨[0,1,2,8,19,20,21,32,33,34],[],0,[],[],[]⟩,⟨[],[],[]⟩,.ret,ppo_view_fenced_L2_T1 v a b y2 xa2 ya4 wa6))],[]⟩ [(1,⟨[6],[],0,[],[],[]⟩,⟨[],[],[]⟩)] ordB_ppo_view_fenced_L1 (rkE rfl neR) (fun z=>(aB ha1 (aM eI gxa2 (aM Event.enc gxa3 (aI (ppo_sides_sim n xa3 ya4 gya4) (aL eI ya4 (aI (okL (pl:=polF 68) (ppo_view_fenced_L2_S v a b y2 xa2 ya4) (ppo_view_fenced_L2_out v a b y2 xa2 ya4) (ppo_view_fenced_L2_sim n v a b y2 xa2 ya4) n _ (.inr wa6) gta5) z))))))) (by kernel_rfl)

theorem ppo_view_fenced_sim (n:Nat) (v:ppo_view) (a:Int) (b:Int) (r:Bool) (h:ppo_view_fenced n v a b=some r):PCall Tryd.prog 68 [.fptr (ppo_view.enc v) 0,(vI a),(vI b)] (eqA (.v (.bool r))):=by
 unfold ppo_view_fenced at h
 obtain ⟨x1,gx1,h⟩:=bindE h
 obtain ⟨y2,gy2,h⟩:=bindE h
 obtain ⟨t3,gt3,h⟩:=bindE h
 rcases t3 with w4 | w4
 ·
  obtain rfl:=soI h
  exact kP ⟨ord68,[(1,⟨[],[],[(17,(Event.enc x1))],[(20,(vI (y2.length:Int)))],[(19,.sl (y2.map eI))],[],[],[],[]⟩)],[],[(2,(⟨[0,1,2,19,20,21],[],0,[],[],[]⟩,⟨[],[],[]⟩,(.ex 0),ppo_view_fenced_L1_T0 v a b y2 w4))],[]⟩ ordB68 (fun z=>(aM Event.enc gx1 (aI (ppo_sides_sim n x1 y2 gy2) (aL eI y2 (aI (okL (pl:=polF 68) (ppo_view_fenced_L1_S v a b y2) (ppo_view_fenced_L1_out v a b y2) (ppo_view_fenced_L1_sim n v a b y2) n _ (.inl w4) gt3) z))))) (by kernel_rfl)
 ·
  obtain rfl:=soI h
  exact kP ⟨ord68,[(1,⟨[],[],[(17,(Event.enc x1))],[(20,(vI (y2.length:Int)))],[(19,.sl (y2.map eI))],[],[],[],[]⟩)],[],[(2,(⟨[0,1,2,19,20,21],[],0,[],[],[]⟩,⟨[],[],[]⟩,.ret,ppo_view_fenced_L1_T1 v a b y2 w4))],[]⟩ ordB68 (fun z=>(aM Event.enc gx1 (aI (ppo_sides_sim n x1 y2 gy2) (aL eI y2 (aI (okL (pl:=polF 68) (ppo_view_fenced_L1_S v a b y2) (ppo_view_fenced_L1_out v a b y2) (ppo_view_fenced_L1_sim n v a b y2) n _ (.inr w4) gt3) z))))) (by kernel_rfl)

def ord67:List (Nat×PT):=[]
theorem ordB67:ordB (polF 67) ord67 (bodyOf Tryd.prog 67)=true:=by kernel_rfl
theorem ppo_rules_4_sim (n:Nat) (v:ppo_view) (a:Int) (b:Int) (x:Event) (y:Event) (r:Bool) (h:ppo_rules_4 n v a b x y=some r):PCall Tryd.prog 67 [.fptr (ppo_view.enc v) 0,(vI a),(vI b),.fptr (Event.enc x) 0,.fptr (Event.enc y) 0] (eqA (.v (.bool r))):=by
 unfold ppo_rules_4 at h
 obtain ⟨y1,gy1,h⟩:=bindE h
 obtain rfl:=soI h
 exact kP ⟨ord67,[rVC 1 [] [(14,.v (.bool y1))]],[],[],[]⟩ ordB67 (fun z=>(aI (ppo_view_fenced_sim n v a b y1 gy1) z)) (by kernel_rfl)

def ord69:List (Nat×PT):=[]
theorem ordB69:ordB (polF 69) ord69 (bodyOf Tryd.prog 69)=true:=by kernel_rfl
theorem ppo_rules_5_sim (n:Nat) (v:ppo_view) (a:Int) (b:Int) (x:Event) (y:Event) (r:Bool) (h:ppo_rules_5 n v a b x y=some r):PCall Tryd.prog 69 [.fptr (ppo_view.enc v) 0,(vI a),(vI b),.fptr (Event.enc x) 0,.fptr (Event.enc y) 0] (eqA (.v (.bool r))):=by
 unfold ppo_rules_5 at h
 obtain rfl:=soI h
 exact kP ⟨ord69,[],[],[],[]⟩ ordB69 (fun z=>z) (by kernel_rfl)

def ord70:List (Nat×PT):=[]
theorem ordB70:ordB (polF 70) ord70 (bodyOf Tryd.prog 70)=true:=by kernel_rfl
theorem ppo_rules_6_sim (n:Nat) (v:ppo_view) (a:Int) (b:Int) (x:Event) (y:Event) (r:Bool) (h:ppo_rules_6 n v a b x y=some r):PCall Tryd.prog 70 [.fptr (ppo_view.enc v) 0,(vI a),(vI b),.fptr (Event.enc x) 0,.fptr (Event.enc y) 0] (eqA (.v (.bool r))):=by
 unfold ppo_rules_6 at h
 obtain rfl:=soI h
 exact kP ⟨ord70,[],[],[],[]⟩ ordB70 (fun z=>z) (by kernel_rfl)

def ord71:List (Nat×PT):=[]
theorem ordB71:ordB (polF 71) ord71 (bodyOf Tryd.prog 71)=true:=by kernel_rfl
theorem ppo_rules_7_sim (n:Nat) (v:ppo_view) (a:Int) (b:Int) (x:Event) (y:Event) (r:Bool) (h:ppo_rules_7 n v a b x y=some r):PCall Tryd.prog 71 [.fptr (ppo_view.enc v) 0,(vI a),(vI b),.fptr (Event.enc x) 0,.fptr (Event.enc y) 0] (eqA (.v (.bool r))):=by
 unfold ppo_rules_7 at h
 rcases iteE h with ⟨h1,h⟩ | ⟨h1,h⟩
 ·
  rcases iteE h with ⟨h2,h⟩ | ⟨h2,h⟩
  ·
   obtain rfl:=soI h
   exact kP ⟨ord71,[rV 1 [(15,vT),(26,vT)]],[],[],[]⟩ ordB71 (fun z=>(aB h1 (aB h2 z))) (by kernel_rfl)
  obtain rfl:=soI h
  exact kP ⟨ord71,[rV 1 [(15,vT),(26,vF)]],[],[],[]⟩ ordB71 (fun z=>(aB h1 (aB h2 z))) (by kernel_rfl)
 rcases iteN h with ⟨h2,h⟩ | ⟨h2,h⟩
 ·
  obtain rfl:=soI h
  exact kP ⟨ord71,[rV 1 [(15,vF),(21,vF)]],[],[],[]⟩ ordB71 (fun z=>(aB h1 (aB h2 z))) (by kernel_rfl)
 rcases iteE h with ⟨h3,h⟩ | ⟨h3,h⟩
 ·
  obtain rfl:=soI h
  exact kP ⟨ord71,[rV 1 [(15,vF),(21,vT),(26,vT)]],[],[],[]⟩ ordB71 (fun z=>(aB h1 (aB h2 (aB h3 z)))) (by kernel_rfl)
 obtain rfl:=soI h
 exact kP ⟨ord71,[rV 1 [(15,vF),(21,vT),(26,vF)]],[],[],[]⟩ ordB71 (fun z=>(aB h1 (aB h2 (aB h3 z)))) (by kernel_rfl)

def ord72:List (Nat×PT):=[(1,(ptS [0,1,2,3,4,5,6,7,8,9,10,11,12,13,14,15,16]))]
theorem ordB72:ordB (polF 72) ord72 (bodyOf Tryd.prog 72)=true:=by kernel_rfl
theorem ppo_rules_8_sim (n:Nat) (v:ppo_view) (a:Int) (b:Int) (x:Event) (y:Event) (r:Bool) (h:ppo_rules_8 n v a b x y=some r):PCall Tryd.prog 72 [.fptr (ppo_view.enc v) 0,(vI a),(vI b),.fptr (Event.enc x) 0,.fptr (Event.enc y) 0] (eqA (.v (.bool r))):=by
 unfold ppo_rules_8 at h
 rcases iteE h with ⟨h1,h⟩ | ⟨h1,h⟩
 ·
  obtain rfl:=soI h
  exact kP ⟨ord72,[rV 1 [(16,vT)]],[],[],[]⟩ ordB72 (fun z=>(aB h1 z)) (by kernel_rfl)
 obtain rfl:=soI h
 exact kP ⟨ord72,[rV 1 [(16,vF)]],[],[],[]⟩ ordB72 (fun z=>(aB h1 z)) (by kernel_rfl)

def ord95:List (Nat×PT):=[]
theorem ordB95:ordB (polF 95) ord95 (bodyOf Tryd.prog 95)=true:=by kernel_rfl
theorem cmp_isNaN_int_sim (n:Nat) (x:Int) (r:Bool) (h:cmp_isNaN_int n x=some r):PCall Tryd.prog 95 [(vI x)] (eqA (.v (.bool r))):=by
 unfold cmp_isNaN_int at h
 obtain rfl:=soI h
 exact kP ⟨ord95,[],[],[],[]⟩ ordB95 (fun z=>z) (by kernel_rfl)

def ord93:List (Nat×PT):=[]
theorem ordB93:ordB (polF 93) ord93 (bodyOf Tryd.prog 93)=true:=by kernel_rfl
theorem cmp_Less_int_sim (n:Nat) (x:Int) (y:Int) (r:Bool) (h:cmp_Less_int n x y=some r):PCall Tryd.prog 93 [(vI x),(vI y)] (eqA (.v (.bool r))):=by
 unfold cmp_Less_int at h
 obtain ⟨y1,gy1,h⟩:=bindE h
 rcases iteN h with ⟨h2,h⟩ | ⟨h2,h⟩
 ·
  obtain rfl:=soI h
  exact kP ⟨ord93,[rVC 1 [(7,vF)] [(6,.v (.bool y1))]],[],[],[]⟩ ordB93 (fun z=>(aI (cmp_isNaN_int_sim n x y1 gy1) (aB h2 z))) (by kernel_rfl)
 obtain ⟨y3,gy3,h⟩:=bindE h
 rcases iteE h with ⟨h4,h⟩ | ⟨h4,h⟩
 ·
  obtain rfl:=soI h
  exact kP ⟨ord93,[rVC 1 [(7,vT),(12,vT)] [(6,.v (.bool y1)),(9,.v (.bool y3))]],[],[],[]⟩ ordB93 (fun z=>(aI (cmp_isNaN_int_sim n x y1 gy1) (aB h2 (aI (cmp_isNaN_int_sim n y y3 gy3) (aB h4 z))))) (by kernel_rfl)
 obtain rfl:=soI h
 exact kP ⟨ord93,[rVC 1 [(7,vT),(12,vF)] [(6,.v (.bool y1)),(9,.v (.bool y3))]],[],[],[]⟩ ordB93 (fun z=>(aI (cmp_isNaN_int_sim n x y1 gy1) (aB h2 (aI (cmp_isNaN_int_sim n y y3 gy3) (aB h4 z))))) (by kernel_rfl)

def ord94:List (Nat×PT):=[]
theorem ordB94:ordB (polF 94) ord94 (bodyOf Tryd.prog 94)=true:=by kernel_rfl
theorem slices_isNaN_int_sim (n:Nat) (x:Int) (r:Bool) (h:slices_isNaN_int n x=some r):PCall Tryd.prog 94 [(vI x)] (eqA (.v (.bool r))):=by
 unfold slices_isNaN_int at h
 obtain rfl:=soI h
 exact kP ⟨ord94,[],[],[],[]⟩ ordB94 (fun z=>z) (by kernel_rfl)

def ord90:List (Nat×PT):=[]
theorem ordB90:ordB (polF 90) ord90 (bodyOf Tryd.prog 90)=true:=by kernel_rfl
noncomputable def c_slices_BinarySearch_int_int_L1:Code:=sub (bodyOf Tryd.prog 90) [1,1,1,0,0,0]
theorem ordB_slices_BinarySearch_int_int_L1:ordB (polF 90) ord90 c_slices_BinarySearch_int_int_L1=true:=by kernel_rfl
def slices_BinarySearch_int_int_L1_S (x:(List Int)) (target:Int) (sa:Int×Int):St:=mkS 54 [(0,.sl (x.map eI)),(1,(vI target)),(6,(vI (x.length:Int))),(7,(vI sa.1)),(8,(vI sa.2))] [] [] 0
def slices_BinarySearch_int_int_L1_T0 (x:(List Int)) (target:Int) (tt:Int):St:=mkS 54 [(0,.sl (x.map eI)),(1,(vI target)),(6,(vI (x.length:Int))),(7,(vI tt))] [] [] 0
def slices_BinarySearch_int_int_L1_out (x:(List Int)) (target:Int) (tt:Int):Ex×St:=(.ex 0,slices_BinarySearch_int_int_L1_T0 x target tt)
theorem slices_BinarySearch_int_int_L1_sim (n:Nat) (x:(List Int)) (target:Int):∀ sa r,slices_BinarySearch_int_int_L1 n x target sa=some r→CodeD Tryd.prog c_slices_BinarySearch_int_int_L1 (slices_BinarySearch_int_int_L1_S x target sa) (rk (slices_BinarySearch_int_int_L1_S x target) (slices_BinarySearch_int_int_L1_out x target) r):=by
 intro sa r h
 unfold slices_BinarySearch_int_int_L1 at h
 rcases iteN h with ⟨ha1,h⟩ | ⟨ha1,h⟩
 ·
  obtain rfl:=soI h
  exact kR ⟨ord90,[rV 3 [(15,vF)]],[],[],[]⟩ [(2,⟨[0,1,6,7],[],0,[],[],[]⟩,⟨[],[],[]⟩)] ordB_slices_BinarySearch_int_int_L1 (rkE rfl neE) (fun z=>(aB ha1 z)) (by kernel_rfl)
 obtain ⟨xa2,gxa2,h⟩:=bindE h
 obtain ⟨ya3,gya3,h⟩:=bindE h
 rcases iteE h with ⟨ha4,h⟩ | ⟨ha4,h⟩
 ·
  obtain rfl:=soI h
  exact kR ⟨ord90,[rV 3 [(15,vT)],(5,⟨[],[],[(24,[(vI xa2)])],[(27,vT)],[(27,.v (.bool ya3))],[],[],[],[]⟩)],[],[],[]⟩ [(0,⟨[0,1,6,7,8],[],0,[],[],[]⟩,⟨[],[],[]⟩)] ordB_slices_BinarySearch_int_int_L1 rkN (fun z=>(aB ha1 (aM eI gxa2 (aI (cmp_Less_int_sim n xa2 target ya3 gya3) (aB ha4 z))))) (by kernel_rfl)
 obtain rfl:=soI h
 exact kR ⟨ord90,[rV 3 [(15,vT)],(5,⟨[],[],[(24,[(vI xa2)])],[(27,vF)],[(27,.v (.bool ya3))],[],[],[],[]⟩)],[],[],[]⟩ [(0,⟨[0,1,6,7,8],[],0,[],[],[]⟩,⟨[],[],[]⟩)] ordB_slices_BinarySearch_int_int_L1 rkN (fun z=>(aB ha1 (aM eI gxa2 (aI (cmp_Less_int_sim n xa2 target ya3 gya3) (aB ha4 z))))) (by kernel_rfl)

theorem slices_BinarySearch_int_int_sim (n:Nat) (x:(List Int)) (target:Int) (r:Int×Bool) (h:slices_BinarySearch_int_int n x target=some r):PCall Tryd.prog 90 [.sl (x.map eI),(vI target)] (eqA (.tup [(vI r.1),.v (.bool r.2)])):=by
 unfold slices_BinarySearch_int_int at h
 obtain ⟨t1,gt1,h⟩:=bindE h
 rcases iteN h with ⟨h2,h⟩ | ⟨h2,h⟩
 ·
  obtain rfl:=soI h
  exact kP ⟨ord90,[rV 1 [(11,(vI (x.length:Int)))],rV 8 [(35,vF)]],[],[(3,(⟨[0,1,6,7,8],[],0,[],[],[]⟩,⟨[],[],[]⟩,(.ex 0),slices_BinarySearch_int_int_L1_T0 x target t1))],[]⟩ ordB90 (fun z=>(aL eI x (aI (okL (pl:=polF 90) (slices_BinarySearch_int_int_L1_S x target) (slices_BinarySearch_int_int_L1_out x target) (slices_BinarySearch_int_int_L1_sim n x target) n _ t1 gt1) (aB h2 z)))) (by kernel_rfl)
 obtain ⟨x3,gx3,h⟩:=bindE h
 rcases iteE h with ⟨h4,h⟩ | ⟨h4,h⟩
 ·
  obtain rfl:=soI h
  exact kP ⟨ord90,[rV 1 [(11,(vI (x.length:Int)))],(8,⟨[],[],[(38,[(vI x3)])],[(35,vT),(42,vT)],[],[],[],[],[]⟩)],[],[(3,(⟨[0,1,6,7,8],[],0,[],[],[]⟩,⟨[],[],[]⟩,(.ex 0),slices_BinarySearch_int_int_L1_T0 x target t1))],[]⟩ ordB90 (fun z=>(aL eI x (aI (okL (pl:=polF 90) (slices_BinarySearch_int_int_L1_S x target) (slices_BinarySearch_int_int_L1_out x target) (slices_BinarySearch_int_int_L1_sim n x target) n _ t1 gt1) (aB h2 (aM eI gx3 (aB h4 z)))))) (by kernel_rfl)
 obtain ⟨y5,gy5,h⟩:=bindE h
 rcases iteN h with ⟨h6,h⟩ | ⟨h6,h⟩
 ·
  obtain rfl:=soI h
  exact kP ⟨ord90,[rV 1 [(11,(vI (x.length:Int)))],(8,⟨[],[],[(38,[(vI x3)]),(45,[(vI x3)])],[(35,vT),(42,vF),(48,vF)],[(47,.v (.bool y5))],[],[],[],[]⟩)],[],[(3,(⟨[0,1,6,7,8],[],0,[],[],[]⟩,⟨[],[],[]⟩,(.ex 0),slices_BinarySearch_int_int_L1_T0 x target t1))],[]⟩ ordB90 (fun z=>(aL eI x (aI (okL (pl:=polF 90) (slices_BinarySearch_int_int_L1_S x target) (slices_BinarySearch_int_int_L1_out x target) (slices_BinarySearch_int_int_L1_sim n x target) n _ t1 gt1) (aB h2 (aM eI gx3 (aB h4 (aM eI gx3 (aI (slices_isNaN_int_sim n x3 y5 gy5) (aB h6 z))))))))) (by kernel_rfl)
 obtain ⟨y7,gy7,h⟩:=bindE h
 obtain rfl:=soI h
 exact kP ⟨ord90,[rV 1 [(11,(vI (x.length:Int)))],(8,⟨[],[],[(38,[(vI x3)]),(45,[(vI x3)])],[(35,vT),(42,vF),(48,vT)],[(47,.v (.bool y5)),(50,.v (.bool y7))],[],[],[],[]⟩)],[],[(3,(⟨[0,1,6,7,8],[],0,[],[],[]⟩,⟨[],[],[]⟩,(.ex 0),slices_BinarySearch_int_int_L1_T0 x target t1))],[]⟩ ordB90 (fun z=>(aL eI x (aI (okL (pl:=polF 90) (slices_BinarySearch_int_int_L1_S x target) (slices_BinarySearch_int_int_L1_out x target) (slices_BinarySearch_int_int_L1_sim n x target) n _ t1 gt1) (aB h2 (aM eI gx3 (aB h4 (aM eI gx3 (aI (slices_isNaN_int_sim n x3 y5 gy5) (aB h6 (aI (slices_isNaN_int_sim n target y7 gy7) z)))))))))) (by kernel_rfl)

def ord74:List (Nat×PT):=[]
theorem ordB74:ordB (polF 74) ord74 (bodyOf Tryd.prog 74)=true:=by kernel_rfl
theorem ppo_on_sim (n:Nat) (l:(List Int)) (at_:Int) (r:Bool) (h:ppo_on n l at_=some r):PCall Tryd.prog 74 [.sl (l.map eI),(vI at_)] (eqA (.v (.bool r))):=by
 unfold ppo_on at h
 obtain ⟨y1,gy1,h⟩:=bindE h
 obtain rfl:=soI h
 exact kP ⟨ord74,[rVC 1 [] [(10,.tup [(vI y1.1),.v (.bool y1.2)])]],[],[],[]⟩ ordB74 (fun z=>(aI (slices_BinarySearch_int_int_sim n l at_ y1 gy1) z)) (by kernel_rfl)

def ord73:List (Nat×PT):=[(1,(ptS [0,1,2,3,4,5,6,7,8,9,10]))]
theorem ordB73:ordB (polF 73) ord73 (bodyOf Tryd.prog 73)=true:=by kernel_rfl
theorem ppo_rules_9_sim (n:Nat) (v:ppo_view) (a:Int) (b:Int) (x:Event) (y:Event) (r:Bool) (h:ppo_rules_9 n v a b x y=some r):PCall Tryd.prog 73 [.fptr (ppo_view.enc v) 0,(vI a),(vI b),.fptr (Event.enc x) 0,.fptr (Event.enc y) 0] (eqA (.v (.bool r))):=by
 unfold ppo_rules_9 at h
 obtain ⟨y1,gy1,h⟩:=bindE h
 obtain rfl:=soI h
 exact kP ⟨ord73,[rVC 1 [] [(20,.v (.bool y1))]],[],[],[]⟩ ordB73 (fun z=>(aI (ppo_on_sim n y.Deps.Addr x.At y1 gy1) z)) (by kernel_rfl)

def ord75:List (Nat×PT):=[(1,(ptS [0,1,2,3,4,5,6,7,8,9,10]))]
theorem ordB75:ordB (polF 75) ord75 (bodyOf Tryd.prog 75)=true:=by kernel_rfl
theorem ppo_rules_10_sim (n:Nat) (v:ppo_view) (a:Int) (b:Int) (x:Event) (y:Event) (r:Bool) (h:ppo_rules_10 n v a b x y=some r):PCall Tryd.prog 75 [.fptr (ppo_view.enc v) 0,(vI a),(vI b),.fptr (Event.enc x) 0,.fptr (Event.enc y) 0] (eqA (.v (.bool r))):=by
 unfold ppo_rules_10 at h
 obtain ⟨y1,gy1,h⟩:=bindE h
 obtain rfl:=soI h
 exact kP ⟨ord75,[rVC 1 [] [(20,.v (.bool y1))]],[],[],[]⟩ ordB75 (fun z=>(aI (ppo_on_sim n y.Deps.Data x.At y1 gy1) z)) (by kernel_rfl)

def ord76:List (Nat×PT):=[(1,(ptS [0,1,2,3,4,5,6,7,8,9,10,11,12,13,14,15,16]))]
theorem ordB76:ordB (polF 76) ord76 (bodyOf Tryd.prog 76)=true:=by kernel_rfl
theorem ppo_rules_11_sim (n:Nat) (v:ppo_view) (a:Int) (b:Int) (x:Event) (y:Event) (r:Bool) (h:ppo_rules_11 n v a b x y=some r):PCall Tryd.prog 76 [.fptr (ppo_view.enc v) 0,(vI a),(vI b),.fptr (Event.enc x) 0,.fptr (Event.enc y) 0] (eqA (.v (.bool r))):=by
 unfold ppo_rules_11 at h
 obtain ⟨y1,gy1,h⟩:=bindE h
 rcases iteN h with ⟨h2,h⟩ | ⟨h2,h⟩
 ·
  obtain rfl:=soI h
  exact kP ⟨ord76,[rVC 1 [(15,vF)] [(14,.v (.bool y1))]],[],[],[]⟩ ordB76 (fun z=>(aI (event_Writes_sim n y y1 gy1) (aB h2 z))) (by kernel_rfl)
 obtain ⟨y3,gy3,h⟩:=bindE h
 obtain rfl:=soI h
 exact kP ⟨ord76,[rVC 1 [(15,vT)] [(14,.v (.bool y1)),(25,.v (.bool y3))]],[],[],[]⟩ ordB76 (fun z=>(aI (event_Writes_sim n y y1 gy1) (aB h2 (aI (ppo_on_sim n y.Deps.Way x.At y3 gy3) z)))) (by kernel_rfl)

def ord77:List (Nat×PT):=[(2,(ptS [0,1,2,3,4,5,6,7,8,9,10,11,12,13,14,15,16,17,18,19,20,21,22,23,24,25,26,27,28,29,30,31,32,33,34,35,36,37,38,39,40,41,42,43,44,45,46]))]
theorem ordB77:ordB (polF 77) ord77 (bodyOf Tryd.prog 77)=true:=by kernel_rfl
theorem ppo_rules_12_sim (n:Nat) (v:ppo_view) (a:Int) (b:Int) (x:Event) (y:Event) (r:Bool) (h:ppo_rules_12 n v a b x y=some r):PCall Tryd.prog 77 [.fptr (ppo_view.enc v) 0,(vI a),(vI b),.fptr (Event.enc x) 0,.fptr (Event.enc y) 0] (eqA (.v (.bool r))):=by
 unfold ppo_rules_12 at h
 rcases matchOE h with ⟨h1,h⟩ | ⟨z1,h2,h⟩
 ·
  cases h
 ·
  obtain ⟨x3,gx3,h⟩:=bindE h
  obtain ⟨y4,gy4,h⟩:=bindE h
  rcases iteN h with ⟨h5,h⟩ | ⟨h5,h⟩
  ·
   obtain rfl:=soI h
   exact kP ⟨ord77,[(1,⟨[],[],[(20,[(vI x3)])],[(15,.fptr (Cand.enc z1) 0)],[],[],[],[],[]⟩),rVC 2 [(26,vF)] [(25,.v (.bool y4))]],[],[],[]⟩ ordB77 (fun z=>(aI (congrArg (optP Cand.enc) h2) (aM eI gx3 (aI (event_Reads_sim n y y4 gy4) (aB h5 z))))) (by kernel_rfl)
  rcases iteN h with ⟨h6,h⟩ | ⟨h6,h⟩
  ·
   obtain rfl:=soI h
   exact kP ⟨ord77,[(1,⟨[],[],[(20,[(vI x3)])],[(15,.fptr (Cand.enc z1) 0)],[],[],[],[],[]⟩),rVC 2 [(26,vT),(31,vF)] [(25,.v (.bool y4))]],[],[],[]⟩ ordB77 (fun z=>(aI (congrArg (optP Cand.enc) h2) (aM eI gx3 (aI (event_Reads_sim n y y4 gy4) (aB h5 (aB h6 z)))))) (by kernel_rfl)
  rcases iteN h with ⟨h7,h⟩ | ⟨h7,h⟩
  ·
   obtain rfl:=soI h
   exact kP ⟨ord77,[(1,⟨[],[],[(20,[(vI x3)])],[(15,.fptr (Cand.enc z1) 0)],[],[],[],[],[]⟩),rVC 2 [(26,vT),(31,vT),(36,vF)] [(25,.v (.bool y4))]],[],[],[]⟩ ordB77 (fun z=>(aI (congrArg (optP Cand.enc) h2) (aM eI gx3 (aI (event_Reads_sim n y y4 gy4) (aB h5 (aB h6 (aB h7 z))))))) (by kernel_rfl)
  obtain ⟨x8,gx8,h⟩:=bindE h
  obtain ⟨y9,gy9,h⟩:=bindE h
  rcases iteE h with ⟨h10,h⟩ | ⟨h10,h⟩
  ·
   obtain rfl:=soI h
   exact kP ⟨ord77,[(1,⟨[],[],[(20,[(vI x3)])],[(15,.fptr (Cand.enc z1) 0)],[],[],[],[],[]⟩),(2,⟨[],[],[(42,(Event.enc x8))],[(26,vT),(31,vT),(36,vT),(51,vT)],[(25,.v (.bool y4)),(50,.v (.bool y9))],[],[],[],[]⟩)],[],[],[]⟩ ordB77 (fun z=>(aI (congrArg (optP Cand.enc) h2) (aM eI gx3 (aI (event_Reads_sim n y y4 gy4) (aB h5 (aB h6 (aB h7 (aM Event.enc gx8 (aI (ppo_on_sim n x8.Deps.Addr x.At y9 gy9) (aB h10 z)))))))))) (by kernel_rfl)
  obtain ⟨y11,gy11,h⟩:=bindE h
  obtain rfl:=soI h
  exact kP ⟨ord77,[(1,⟨[],[],[(20,[(vI x3)])],[(15,.fptr (Cand.enc z1) 0)],[],[],[],[],[]⟩),(2,⟨[],[],[(42,(Event.enc x8)),(57,(Event.enc x8))],[(26,vT),(31,vT),(36,vT),(51,vF)],[(25,.v (.bool y4)),(50,.v (.bool y9)),(65,.v (.bool y11))],[],[],[],[]⟩)],[],[],[]⟩ ordB77 (fun z=>(aI (congrArg (optP Cand.enc) h2) (aM eI gx3 (aI (event_Reads_sim n y y4 gy4) (aB h5 (aB h6 (aB h7 (aM Event.enc gx8 (aI (ppo_on_sim n x8.Deps.Addr x.At y9 gy9) (aB h10 (aM Event.enc gx8 (aI (ppo_on_sim n x8.Deps.Data x.At y11 gy11) z)))))))))))) (by kernel_rfl)

def ord78:List (Nat×PT):=[]
theorem ordB78:ordB (polF 78) ord78 (bodyOf Tryd.prog 78)=true:=by kernel_rfl
theorem ppo_rules_13_sim (n:Nat) (v:ppo_view) (a:Int) (b:Int) (x:Event) (y:Event) (r:Bool) (h:ppo_rules_13 n v a b x y=some r):PCall Tryd.prog 78 [.fptr (ppo_view.enc v) 0,(vI a),(vI b),.fptr (Event.enc x) 0,.fptr (Event.enc y) 0] (eqA (.v (.bool r))):=by
 unfold ppo_rules_13 at h
 obtain ⟨y1,gy1,h⟩:=bindE h
 rcases iteN h with ⟨h2,h⟩ | ⟨h2,h⟩
 ·
  obtain rfl:=soI h
  exact kP ⟨ord78,[rVC 1 [(15,vF)] [(14,.v (.bool y1))]],[],[],[]⟩ ordB78 (fun z=>(aI (event_Writes_sim n y y1 gy1) (aB h2 z))) (by kernel_rfl)
 obtain ⟨x3,gx3,h⟩:=bindE h
 obtain rfl:=soI h
 exact kP ⟨ord78,[(1,⟨[],[],[(21,[(vI x3)])],[(15,vT)],[(14,.v (.bool y1))],[],[],[],[]⟩)],[],[],[]⟩ ordB78 (fun z=>(aI (event_Writes_sim n y y1 gy1) (aB h2 (aM eI gx3 z)))) (by kernel_rfl)

def ord40:List (Nat×PT):=[(6,(ptS [0,1,2,3,4,5,6,7,8,9,10,11,12,13,14,15,16]))]
theorem ordB40:ordB (polF 40) ord40 (bodyOf Tryd.prog 40)=true:=by kernel_rfl
noncomputable def c_ppo_view_rule_L1:Code:=sub (bodyOf Tryd.prog 40) [1,1,0,1,0,0]
theorem ordB_ppo_view_rule_L1:ordB (polF 40) ord40 c_ppo_view_rule_L1=true:=by kernel_rfl
def ppo_view_rule_L1_S (v:ppo_view) (a:Int) (b:Int) (sa:Int):St:=mkS 39 [(0,.fptr (ppo_view.enc v) 0),(1,(vI a)),(2,(vI b)),(14,.agg [.fn 62 [] [],.fn 63 [] [],.fn 66 [] [],.fn 67 [] [],.fn 69 [] [],.fn 70 [] [],.fn 71 [] [],.fn 72 [] [],.fn 73 [] [],.fn 75 [] [],.fn 76 [] [],.fn 77 [] [],.fn 78 [] []]),(15,(vI sa))] [] [] 0
def ppo_view_rule_L1_T0 (v:ppo_view) (a:Int) (b:Int) (tt:Unit):St:=mkS 39 [] [] [] 0
def ppo_view_rule_L1_T1 (v:ppo_view) (a:Int) (b:Int) (tt:Int):St:=mkS 39 [(6,(vI tt))] [] [] 0
def ppo_view_rule_L1_out (v:ppo_view) (a:Int) (b:Int) (t0:(Unit⊕Int)):Ex×St:=match t0 with | .inl tt=>(.ex 0,ppo_view_rule_L1_T0 v a b tt) | .inr tt=>(.ret,ppo_view_rule_L1_T1 v a b tt)
theorem ppo_view_rule_L1_sim (n:Nat) (v:ppo_view) (a:Int) (b:Int):∀ sa r,ppo_view_rule_L1 n v a b sa=some r→CodeD Tryd.prog c_ppo_view_rule_L1 (ppo_view_rule_L1_S v a b sa) (rk (ppo_view_rule_L1_S v a b) (ppo_view_rule_L1_out v a b) r):=by
 intro sa r h
 unfold ppo_view_rule_L1 at h
 rcases iteN h with ⟨ha1,h⟩ | ⟨ha1,h⟩
 ·
  obtain rfl:=soI h
  exact kR ⟨ord40,[rV 4 [(16,vF)]],[],[],[]⟩ [(2,⟨[],[],0,[],[],[]⟩,⟨[],[],[]⟩)] ordB_ppo_view_rule_L1 (rkE rfl neE) (fun z=>(aB ha1 z)) (by kernel_rfl)
 rcases iteE h with ⟨ha2,h⟩ | ⟨ha2,h⟩
 ·
  obtain ⟨xa3,gxa3,h⟩:=bindE h
  obtain ⟨xa4,gxa4,h⟩:=bindE h
  obtain ⟨ya5,gya5,h⟩:=bindE h
  rcases iteE h with ⟨ha6,h⟩ | ⟨ha6,h⟩
  ·
   obtain rfl:=soI h
   exact kR ⟨ord40,[rV 4 [(16,vT)],(6,⟨[],[],[(28,(Event.enc xa3)),(34,(Event.enc xa4))],[(35,vT)],[(35,.v (.bool ya5))],[],[],[],[]⟩)],[(4,⟨[(15,(vI 0))],[],[]⟩)],[],[]⟩ [(1,⟨[6],[],0,[],[],[]⟩,⟨[],[],[]⟩)] ordB_ppo_view_rule_L1 (rkE rfl neR) (fun z=>(aB ha1 (aI ((LeA.ofEq (eqI ha2)):LeA ((vI sa)) ((vI 0))) (aM Event.enc gxa3 (aM Event.enc gxa4 (aI (ppo_rules_1_sim n v a b xa3 xa4 ya5 gya5) (aB ha6 z))))))) (by kernel_rfl)
  obtain rfl:=soI h
  exact kR ⟨ord40,[rV 4 [(16,vT)],(6,⟨[],[],[(28,(Event.enc xa3)),(34,(Event.enc xa4))],[(35,vF)],[(35,.v (.bool ya5))],[],[],[],[]⟩)],[(4,⟨[(15,(vI 0))],[],[]⟩)],[],[]⟩ [(0,⟨[0,1,2,14,15],[],0,[],[],[]⟩,⟨[],[],[]⟩)] ordB_ppo_view_rule_L1 rkN (fun z=>(aB ha1 (aI ((LeA.ofEq (eqI ha2)):LeA ((vI sa)) ((vI 0))) (aM Event.enc gxa3 (aM Event.enc gxa4 (aI (ppo_rules_1_sim n v a b xa3 xa4 ya5 gya5) (aB ha6 z))))))) (by kernel_rfl)
 rcases iteE h with ⟨ha2,h⟩ | ⟨ha2,h⟩
 ·
  obtain ⟨xa3,gxa3,h⟩:=bindE h
  obtain ⟨xa4,gxa4,h⟩:=bindE h
  obtain ⟨ya5,gya5,h⟩:=bindE h
  rcases iteE h with ⟨ha6,h⟩ | ⟨ha6,h⟩
  ·
   obtain rfl:=soI h
   exact kR ⟨ord40,[rV 4 [(16,vT)],(6,⟨[],[],[(28,(Event.enc xa3)),(34,(Event.enc xa4))],[(35,vT)],[(35,.v (.bool ya5))],[],[],[],[]⟩)],[(4,⟨[(15,(vI 1))],[],[]⟩)],[],[]⟩ [(1,⟨[6],[],0,[],[],[]⟩,⟨[],[],[]⟩)] ordB_ppo_view_rule_L1 (rkE rfl neR) (fun z=>(aB ha1 (aI ((LeA.ofEq (eqI ha2)):LeA ((vI sa)) ((vI 1))) (aM Event.enc gxa3 (aM Event.enc gxa4 (aI (ppo_rules_2_sim n v a b xa3 xa4 ya5 gya5) (aB ha6 z))))))) (by kernel_rfl)
  obtain rfl:=soI h
  exact kR ⟨ord40,[rV 4 [(16,vT)],(6,⟨[],[],[(28,(Event.enc xa3)),(34,(Event.enc xa4))],[(35,vF)],[(35,.v (.bool ya5))],[],[],[],[]⟩)],[(4,⟨[(15,(vI 1))],[],[]⟩)],[],[]⟩ [(0,⟨[0,1,2,14,15],[],0,[],[],[]⟩,⟨[],[],[]⟩)] ordB_ppo_view_rule_L1 rkN (fun z=>(aB ha1 (aI ((LeA.ofEq (eqI ha2)):LeA ((vI sa)) ((vI 1))) (aM Event.enc gxa3 (aM Event.enc gxa4 (aI (ppo_rules_2_sim n v a b xa3 xa4 ya5 gya5) (aB ha6 z))))))) (by kernel_rfl)
 rcases iteE h with ⟨ha2,h⟩ | ⟨ha2,h⟩
 ·
  obtain ⟨xa3,gxa3,h⟩:=bindE h
  obtain ⟨xa4,gxa4,h⟩:=bindE h
  obtain ⟨ya5,gya5,h⟩:=bindE h
  rcases iteE h with ⟨ha6,h⟩ | ⟨ha6,h⟩
  ·
   obtain rfl:=soI h
   exact kR ⟨ord40,[rV 4 [(16,vT)],(6,⟨[],[],[(28,(Event.enc xa3)),(34,(Event.enc xa4))],[(35,vT)],[(35,.v (.bool ya5))],[],[],[],[]⟩)],[(4,⟨[(15,(vI 2))],[],[]⟩)],[],[]⟩ [(1,⟨[6],[],0,[],[],[]⟩,⟨[],[],[]⟩)] ordB_ppo_view_rule_L1 (rkE rfl neR) (fun z=>(aB ha1 (aI ((LeA.ofEq (eqI ha2)):LeA ((vI sa)) ((vI 2))) (aM Event.enc gxa3 (aM Event.enc gxa4 (aI (ppo_rules_3_sim n v a b xa3 xa4 ya5 gya5) (aB ha6 z))))))) (by kernel_rfl)
  obtain rfl:=soI h
  exact kR ⟨ord40,[rV 4 [(16,vT)],(6,⟨[],[],[(28,(Event.enc xa3)),(34,(Event.enc xa4))],[(35,vF)],[(35,.v (.bool ya5))],[],[],[],[]⟩)],[(4,⟨[(15,(vI 2))],[],[]⟩)],[],[]⟩ [(0,⟨[0,1,2,14,15],[],0,[],[],[]⟩,⟨[],[],[]⟩)] ordB_ppo_view_rule_L1 rkN (fun z=>(aB ha1 (aI ((LeA.ofEq (eqI ha2)):LeA ((vI sa)) ((vI 2))) (aM Event.enc gxa3 (aM Event.enc gxa4 (aI (ppo_rules_3_sim n v a b xa3 xa4 ya5 gya5) (aB ha6 z))))))) (by kernel_rfl)
 rcases iteE h with ⟨ha2,h⟩ | ⟨ha2,h⟩
 ·
  obtain ⟨xa3,gxa3,h⟩:=bindE h
  obtain ⟨xa4,gxa4,h⟩:=bindE h
  obtain ⟨ya5,gya5,h⟩:=bindE h
  rcases iteE h with ⟨ha6,h⟩ | ⟨ha6,h⟩
  ·
   obtain rfl:=soI h
   exact kR ⟨ord40,[rV 4 [(16,vT)],(6,⟨[],[],[(28,(Event.enc xa3)),(34,(Event.enc xa4))],[(35,vT)],[(35,.v (.bool ya5))],[],[],[],[]⟩)],[(4,⟨[(15,(vI 3))],[],[]⟩)],[],[]⟩ [(1,⟨[6],[],0,[],[],[]⟩,⟨[],[],[]⟩)] ordB_ppo_view_rule_L1 (rkE rfl neR) (fun z=>(aB ha1 (aI ((LeA.ofEq (eqI ha2)):LeA ((vI sa)) ((vI 3))) (aM Event.enc gxa3 (aM Event.enc gxa4 (aI (ppo_rules_4_sim n v a b xa3 xa4 ya5 gya5) (aB ha6 z))))))) (by kernel_rfl)
  obtain rfl:=soI h
  exact kR ⟨ord40,[rV 4 [(16,vT)],(6,⟨[],[],[(28,(Event.enc xa3)),(34,(Event.enc xa4))],[(35,vF)],[(35,.v (.bool ya5))],[],[],[],[]⟩)],[(4,⟨[(15,(vI 3))],[],[]⟩)],[],[]⟩ [(0,⟨[0,1,2,14,15],[],0,[],[],[]⟩,⟨[],[],[]⟩)] ordB_ppo_view_rule_L1 rkN (fun z=>(aB ha1 (aI ((LeA.ofEq (eqI ha2)):LeA ((vI sa)) ((vI 3))) (aM Event.enc gxa3 (aM Event.enc gxa4 (aI (ppo_rules_4_sim n v a b xa3 xa4 ya5 gya5) (aB ha6 z))))))) (by kernel_rfl)
 rcases iteE h with ⟨ha2,h⟩ | ⟨ha2,h⟩
 ·
  obtain ⟨xa3,gxa3,h⟩:=bindE h
  obtain ⟨xa4,gxa4,h⟩:=bindE h
  obtain ⟨ya5,gya5,h⟩:=bindE h
  rcases iteE h with ⟨ha6,h⟩ | ⟨ha6,h⟩
  ·
   obtain rfl:=soI h
   exact kR ⟨ord40,[rV 4 [(16,vT)],(6,⟨[],[],[(28,(Event.enc xa3)),(34,(Event.enc xa4))],[(35,vT)],[(35,.v (.bool ya5))],[],[],[],[]⟩)],[(4,⟨[(15,(vI 4))],[],[]⟩)],[],[]⟩ [(1,⟨[6],[],0,[],[],[]⟩,⟨[],[],[]⟩)] ordB_ppo_view_rule_L1 (rkE rfl neR) (fun z=>(aB ha1 (aI ((LeA.ofEq (eqI ha2)):LeA ((vI sa)) ((vI 4))) (aM Event.enc gxa3 (aM Event.enc gxa4 (aI (ppo_rules_5_sim n v a b xa3 xa4 ya5 gya5) (aB ha6 z))))))) (by kernel_rfl)
  obtain rfl:=soI h
  exact kR ⟨ord40,[rV 4 [(16,vT)],(6,⟨[],[],[(28,(Event.enc xa3)),(34,(Event.enc xa4))],[(35,vF)],[(35,.v (.bool ya5))],[],[],[],[]⟩)],[(4,⟨[(15,(vI 4))],[],[]⟩)],[],[]⟩ [(0,⟨[0,1,2,14,15],[],0,[],[],[]⟩,⟨[],[],[]⟩)] ordB_ppo_view_rule_L1 rkN (fun z=>(aB ha1 (aI ((LeA.ofEq (eqI ha2)):LeA ((vI sa)) ((vI 4))) (aM Event.enc gxa3 (aM Event.enc gxa4 (aI (ppo_rules_5_sim n v a b xa3 xa4 ya5 gya5) (aB ha6 z))))))) (by kernel_rfl)
 rcases iteE h with ⟨ha2,h⟩ | ⟨ha2,h⟩
 ·
  obtain ⟨xa3,gxa3,h⟩:=bindE h
  obtain ⟨xa4,gxa4,h⟩:=bindE h
  obtain ⟨ya5,gya5,h⟩:=bindE h
  rcases iteE h with ⟨ha6,h⟩ | ⟨ha6,h⟩
  ·
   obtain rfl:=soI h
   exact kR ⟨ord40,[rV 4 [(16,vT)],(6,⟨[],[],[(28,(Event.enc xa3)),(34,(Event.enc xa4))],[(35,vT)],[(35,.v (.bool ya5))],[],[],[],[]⟩)],[(4,⟨[(15,(vI 5))],[],[]⟩)],[],[]⟩ [(1,⟨[6],[],0,[],[],[]⟩,⟨[],[],[]⟩)] ordB_ppo_view_rule_L1 (rkE rfl neR) (fun z=>(aB ha1 (aI ((LeA.ofEq (eqI ha2)):LeA ((vI sa)) ((vI 5))) (aM Event.enc gxa3 (aM Event.enc gxa4 (aI (ppo_rules_6_sim n v a b xa3 xa4 ya5 gya5) (aB ha6 z))))))) (by kernel_rfl)
  obtain rfl:=soI h
  exact kR ⟨ord40,[rV 4 [(16,vT)],(6,⟨[],[],[(28,(Event.enc xa3)),(34,(Event.enc xa4))],[(35,vF)],[(35,.v (.bool ya5))],[],[],[],[]⟩)],[(4,⟨[(15,(vI 5))],[],[]⟩)],[],[]⟩ [(0,⟨[0,1,2,14,15],[],0,[],[],[]⟩,⟨[],[],[]⟩)] ordB_ppo_view_rule_L1 rkN (fun z=>(aB ha1 (aI ((LeA.ofEq (eqI ha2)):LeA ((vI sa)) ((vI 5))) (aM Event.enc gxa3 (aM Event.enc gxa4 (aI (ppo_rules_6_sim n v a b xa3 xa4 ya5 gya5) (aB ha6 z))))))) (by kernel_rfl)
 rcases iteE h with ⟨ha2,h⟩ | ⟨ha2,h⟩
 ·
  obtain ⟨xa3,gxa3,h⟩:=bindE h
  obtain ⟨xa4,gxa4,h⟩:=bindE h
  obtain ⟨ya5,gya5,h⟩:=bindE h
  rcases iteE h with ⟨ha6,h⟩ | ⟨ha6,h⟩
  ·
   obtain rfl:=soI h
   exact kR ⟨ord40,[rV 4 [(16,vT)],(6,⟨[],[],[(28,(Event.enc xa3)),(34,(Event.enc xa4))],[(35,vT)],[(35,.v (.bool ya5))],[],[],[],[]⟩)],[(4,⟨[(15,(vI 6))],[],[]⟩)],[],[]⟩ [(1,⟨[6],[],0,[],[],[]⟩,⟨[],[],[]⟩)] ordB_ppo_view_rule_L1 (rkE rfl neR) (fun z=>(aB ha1 (aI ((LeA.ofEq (eqI ha2)):LeA ((vI sa)) ((vI 6))) (aM Event.enc gxa3 (aM Event.enc gxa4 (aI (ppo_rules_7_sim n v a b xa3 xa4 ya5 gya5) (aB ha6 z))))))) (by kernel_rfl)
  obtain rfl:=soI h
  exact kR ⟨ord40,[rV 4 [(16,vT)],(6,⟨[],[],[(28,(Event.enc xa3)),(34,(Event.enc xa4))],[(35,vF)],[(35,.v (.bool ya5))],[],[],[],[]⟩)],[(4,⟨[(15,(vI 6))],[],[]⟩)],[],[]⟩ [(0,⟨[0,1,2,14,15],[],0,[],[],[]⟩,⟨[],[],[]⟩)] ordB_ppo_view_rule_L1 rkN (fun z=>(aB ha1 (aI ((LeA.ofEq (eqI ha2)):LeA ((vI sa)) ((vI 6))) (aM Event.enc gxa3 (aM Event.enc gxa4 (aI (ppo_rules_7_sim n v a b xa3 xa4 ya5 gya5) (aB ha6 z))))))) (by kernel_rfl)
 rcases iteE h with ⟨ha2,h⟩ | ⟨ha2,h⟩
 ·
  obtain ⟨xa3,gxa3,h⟩:=bindE h
  obtain ⟨xa4,gxa4,h⟩:=bindE h
  obtain ⟨ya5,gya5,h⟩:=bindE h
  rcases iteE h with ⟨ha6,h⟩ | ⟨ha6,h⟩
  ·
   obtain rfl:=soI h
   exact kR ⟨ord40,[rV 4 [(16,vT)],(6,⟨[],[],[(28,(Event.enc xa3)),(34,(Event.enc xa4))],[(35,vT)],[(35,.v (.bool ya5))],[],[],[],[]⟩)],[(4,⟨[(15,(vI 7))],[],[]⟩)],[],[]⟩ [(1,⟨[6],[],0,[],[],[]⟩,⟨[],[],[]⟩)] ordB_ppo_view_rule_L1 (rkE rfl neR) (fun z=>(aB ha1 (aI ((LeA.ofEq (eqI ha2)):LeA ((vI sa)) ((vI 7))) (aM Event.enc gxa3 (aM Event.enc gxa4 (aI (ppo_rules_8_sim n v a b xa3 xa4 ya5 gya5) (aB ha6 z))))))) (by kernel_rfl)
  obtain rfl:=soI h
  exact kR ⟨ord40,[rV 4 [(16,vT)],(6,⟨[],[],[(28,(Event.enc xa3)),(34,(Event.enc xa4))],[(35,vF)],[(35,.v (.bool ya5))],[],[],[],[]⟩)],[(4,⟨[(15,(vI 7))],[],[]⟩)],[],[]⟩ [(0,⟨[0,1,2,14,15],[],0,[],[],[]⟩,⟨[],[],[]⟩)] ordB_ppo_view_rule_L1 rkN (fun z=>(aB ha1 (aI ((LeA.ofEq (eqI ha2)):LeA ((vI sa)) ((vI 7))) (aM Event.enc gxa3 (aM Event.enc gxa4 (aI (ppo_rules_8_sim n v a b xa3 xa4 ya5 gya5) (aB ha6 z))))))) (by kernel_rfl)
 rcases iteE h with ⟨ha2,h⟩ | ⟨ha2,h⟩
 ·
  obtain ⟨xa3,gxa3,h⟩:=bindE h
  obtain ⟨xa4,gxa4,h⟩:=bindE h
  obtain ⟨ya5,gya5,h⟩:=bindE h
  rcases iteE h with ⟨ha6,h⟩ | ⟨ha6,h⟩
  ·
   obtain rfl:=soI h
   exact kR ⟨ord40,[rV 4 [(16,vT)],(6,⟨[],[],[(28,(Event.enc xa3)),(34,(Event.enc xa4))],[(35,vT)],[(35,.v (.bool ya5))],[],[],[],[]⟩)],[(4,⟨[(15,(vI 8))],[],[]⟩)],[],[]⟩ [(1,⟨[6],[],0,[],[],[]⟩,⟨[],[],[]⟩)] ordB_ppo_view_rule_L1 (rkE rfl neR) (fun z=>(aB ha1 (aI ((LeA.ofEq (eqI ha2)):LeA ((vI sa)) ((vI 8))) (aM Event.enc gxa3 (aM Event.enc gxa4 (aI (ppo_rules_9_sim n v a b xa3 xa4 ya5 gya5) (aB ha6 z))))))) (by kernel_rfl)
  obtain rfl:=soI h
  exact kR ⟨ord40,[rV 4 [(16,vT)],(6,⟨[],[],[(28,(Event.enc xa3)),(34,(Event.enc xa4))],[(35,vF)],[(35,.v (.bool ya5))],[],[],[],[]⟩)],[(4,⟨[(15,(vI 8))],[],[]⟩)],[],[]⟩ [(0,⟨[0,1,2,14,15],[],0,[],[],[]⟩,⟨[],[],[]⟩)] ordB_ppo_view_rule_L1 rkN (fun z=>(aB ha1 (aI ((LeA.ofEq (eqI ha2)):LeA ((vI sa)) ((vI 8))) (aM Event.enc gxa3 (aM Event.enc gxa4 (aI (ppo_rules_9_sim n v a b xa3 xa4 ya5 gya5) (aB ha6 z))))))) (by kernel_rfl)
 rcases iteE h with ⟨ha2,h⟩ | ⟨ha2,h⟩
 ·
  obtain ⟨xa3,gxa3,h⟩:=bindE h
  obtain ⟨xa4,gxa4,h⟩:=bindE h
  obtain ⟨ya5,gya5,h⟩:=bindE h
  rcases iteE h with ⟨ha6,h⟩ | ⟨ha6,h⟩
  ·
   obtain rfl:=soI h
   exact kR ⟨ord40,[rV 4 [(16,vT)],(6,⟨[],[],[(28,(Event.enc xa3)),(34,(Event.enc xa4))],[(35,vT)],[(35,.v (.bool ya5))],[],[],[],[]⟩)],[(4,⟨[(15,(vI 9))],[],[]⟩)],[],[]⟩ [(1,⟨[6],[],0,[],[],[]⟩,⟨[],[],[]⟩)] ordB_ppo_view_rule_L1 (rkE rfl neR) (fun z=>(aB ha1 (aI ((LeA.ofEq (eqI ha2)):LeA ((vI sa)) ((vI 9))) (aM Event.enc gxa3 (aM Event.enc gxa4 (aI (ppo_rules_10_sim n v a b xa3 xa4 ya5 gya5) (aB ha6 z))))))) (by kernel_rfl)
  obtain rfl:=soI h
  exact kR ⟨ord40,[rV 4 [(16,vT)],(6,⟨[],[],[(28,(Event.enc xa3)),(34,(Event.enc xa4))],[(35,vF)],[(35,.v (.bool ya5))],[],[],[],[]⟩)],[(4,⟨[(15,(vI 9))],[],[]⟩)],[],[]⟩ [(0,⟨[0,1,2,14,15],[],0,[],[],[]⟩,⟨[],[],[]⟩)] ordB_ppo_view_rule_L1 rkN (fun z=>(aB ha1 (aI ((LeA.ofEq (eqI ha2)):LeA ((vI sa)) ((vI 9))) (aM Event.enc gxa3 (aM Event.enc gxa4 (aI (ppo_rules_10_sim n v a b xa3 xa4 ya5 gya5) (aB ha6 z))))))) (by kernel_rfl)
 rcases iteE h with ⟨ha2,h⟩ | ⟨ha2,h⟩
 ·
  obtain ⟨xa3,gxa3,h⟩:=bindE h
  obtain ⟨xa4,gxa4,h⟩:=bindE h
  obtain ⟨ya5,gya5,h⟩:=bindE h
  rcases iteE h with ⟨ha6,h⟩ | ⟨ha6,h⟩
  ·
   obtain rfl:=soI h
   exact kR ⟨ord40,[rV 4 [(16,vT)],(6,⟨[],[],[(28,(Event.enc xa3)),(34,(Event.enc xa4))],[(35,vT)],[(35,.v (.bool ya5))],[],[],[],[]⟩)],[(4,⟨[(15,(vI 10))],[],[]⟩)],[],[]⟩ [(1,⟨[6],[],0,[],[],[]⟩,⟨[],[],[]⟩)] ordB_ppo_view_rule_L1 (rkE rfl neR) (fun z=>(aB ha1 (aI ((LeA.ofEq (eqI ha2)):LeA ((vI sa)) ((vI 10))) (aM Event.enc gxa3 (aM Event.enc gxa4 (aI (ppo_rules_11_sim n v a b xa3 xa4 ya5 gya5) (aB ha6 z))))))) (by kernel_rfl)
  obtain rfl:=soI h
  exact kR ⟨ord40,[rV 4 [(16,vT)],(6,⟨[],[],[(28,(Event.enc xa3)),(34,(Event.enc xa4))],[(35,vF)],[(35,.v (.bool ya5))],[],[],[],[]⟩)],[(4,⟨[(15,(vI 10))],[],[]⟩)],[],[]⟩ [(0,⟨[0,1,2,14,15],[],0,[],[],[]⟩,⟨[],[],[]⟩)] ordB_ppo_view_rule_L1 rkN (fun z=>(aB ha1 (aI ((LeA.ofEq (eqI ha2)):LeA ((vI sa)) ((vI 10))) (aM Event.enc gxa3 (aM Event.enc gxa4 (aI (ppo_rules_11_sim n v a b xa3 xa4 ya5 gya5) (aB ha6 z))))))) (by kernel_rfl)
 rcases iteE h with ⟨ha2,h⟩ | ⟨ha2,h⟩
 ·
  obtain ⟨xa3,gxa3,h⟩:=bindE h
  obtain ⟨xa4,gxa4,h⟩:=bindE h
  obtain ⟨ya5,gya5,h⟩:=bindE h
  rcases iteE h with ⟨ha6,h⟩ | ⟨ha6,h⟩
  ·
   obtain rfl:=soI h
   exact kR ⟨ord40,[rV 4 [(16,vT)],(6,⟨[],[],[(28,(Event.enc xa3)),(34,(Event.enc xa4))],[(35,vT)],[(35,.v (.bool ya5))],[],[],[],[]⟩)],[(4,⟨[(15,(vI 11))],[],[]⟩)],[],[]⟩ [(1,⟨[6],[],0,[],[],[]⟩,⟨[],[],[]⟩)] ordB_ppo_view_rule_L1 (rkE rfl neR) (fun z=>(aB ha1 (aI ((LeA.ofEq (eqI ha2)):LeA ((vI sa)) ((vI 11))) (aM Event.enc gxa3 (aM Event.enc gxa4 (aI (ppo_rules_12_sim n v a b xa3 xa4 ya5 gya5) (aB ha6 z))))))) (by kernel_rfl)
  obtain rfl:=soI h
  exact kR ⟨ord40,[rV 4 [(16,vT)],(6,⟨[],[],[(28,(Event.enc xa3)),(34,(Event.enc xa4))],[(35,vF)],[(35,.v (.bool ya5))],[],[],[],[]⟩)],[(4,⟨[(15,(vI 11))],[],[]⟩)],[],[]⟩ [(0,⟨[0,1,2,14,15],[],0,[],[],[]⟩,⟨[],[],[]⟩)] ordB_ppo_view_rule_L1 rkN (fun z=>(aB ha1 (aI ((LeA.ofEq (eqI ha2)):LeA ((vI sa)) ((vI 11))) (aM Event.enc gxa3 (aM Event.enc gxa4 (aI (ppo_rules_12_sim n v a b xa3 xa4 ya5 gya5) (aB ha6 z))))))) (by kernel_rfl)
 rcases iteE h with ⟨ha2,h⟩ | ⟨ha2,h⟩
 ·
  obtain ⟨xa3,gxa3,h⟩:=bindE h
  obtain ⟨xa4,gxa4,h⟩:=bindE h
  obtain ⟨ya5,gya5,h⟩:=bindE h
  rcases iteE h with ⟨ha6,h⟩ | ⟨ha6,h⟩
  ·
   obtain rfl:=soI h
   exact kR ⟨ord40,[rV 4 [(16,vT)],(6,⟨[],[],[(28,(Event.enc xa3)),(34,(Event.enc xa4))],[(35,vT)],[(35,.v (.bool ya5))],[],[],[],[]⟩)],[(4,⟨[(15,(vI 12))],[],[]⟩)],[],[]⟩ [(1,⟨[6],[],0,[],[],[]⟩,⟨[],[],[]⟩)] ordB_ppo_view_rule_L1 (rkE rfl neR) (fun z=>(aB ha1 (aI ((LeA.ofEq (eqI ha2)):LeA ((vI sa)) ((vI 12))) (aM Event.enc gxa3 (aM Event.enc gxa4 (aI (ppo_rules_13_sim n v a b xa3 xa4 ya5 gya5) (aB ha6 z))))))) (by kernel_rfl)
  obtain rfl:=soI h
  exact kR ⟨ord40,[rV 4 [(16,vT)],(6,⟨[],[],[(28,(Event.enc xa3)),(34,(Event.enc xa4))],[(35,vF)],[(35,.v (.bool ya5))],[],[],[],[]⟩)],[(4,⟨[(15,(vI 12))],[],[]⟩)],[],[]⟩ [(0,⟨[0,1,2,14,15],[],0,[],[],[]⟩,⟨[],[],[]⟩)] ordB_ppo_view_rule_L1 rkN (fun z=>(aB ha1 (aI ((LeA.ofEq (eqI ha2)):LeA ((vI sa)) ((vI 12))) (aM Event.enc gxa3 (aM Event.enc gxa4 (aI (ppo_rules_13_sim n v a b xa3 xa4 ya5 gya5) (aB ha6 z))))))) (by kernel_rfl)
 rcases iteE h with ⟨ha2,h⟩ | ⟨ha2,h⟩
 ·
  cases h
 cases h

theorem ppo_view_rule_sim (n:Nat) (v:ppo_view) (a:Int) (b:Int) (r:Int) (h:ppo_view_rule n v a b=some r):PCall Tryd.prog 40 [.fptr (ppo_view.enc v) 0,(vI a),(vI b)] (eqA ((vI r))):=by
 unfold ppo_view_rule at h
 obtain ⟨y1,gy1,h⟩:=bindE h
 rcases iteE h with ⟨h2,h⟩ | ⟨h2,h⟩
 ·
  obtain rfl:=soI h
  exact kP ⟨ord40,[rVC 1 [(13,vT)] [(12,.v (.bool y1))]],[],[],[]⟩ ordB40 (fun z=>(aI (ppo_view_ahead_sim n v a b y1 gy1) (aB h2 z))) (by kernel_rfl)
 obtain ⟨y3,gy3,h⟩:=bindE h
 obtain ⟨t4,gt4,h⟩:=bindE h
 rcases t4 with w5 | w5
 ·
  obtain rfl:=soI h
  exact kP ⟨ord40,[rVC 1 [(13,vF)] [(12,.v (.bool y1))],(3,⟨[],[],[],[],[(14,.agg [.fn 62 [] [],.fn 63 [] [],.fn 66 [] [],.fn 67 [] [],.fn 69 [] [],.fn 70 [] [],.fn 71 [] [],.fn 72 [] [],.fn 73 [] [],.fn 75 [] [],.fn 76 [] [],.fn 77 [] [],.fn 78 [] []])],[],[],[],[]⟩)],[],[(4,(⟨[0,1,2,14,15],[],0,[],[],[]⟩,⟨[],[],[]⟩,(.ex 0),ppo_view_rule_L1_T0 v a b w5))],[]⟩ ordB40 (fun z=>(aI (ppo_view_ahead_sim n v a b y1 gy1) (aB h2 (aI (ppo_rules_sim n y3 gy3) (aI (okL (pl:=polF 40) (ppo_view_rule_L1_S v a b) (ppo_view_rule_L1_out v a b) (ppo_view_rule_L1_sim n v a b) n _ (.inl w5) gt4) z))))) (by kernel_rfl)
 ·
  obtain rfl:=soI h
  exact kP ⟨ord40,[rVC 1 [(13,vF)] [(12,.v (.bool y1))],(3,⟨[],[],[],[],[(14,.agg [.fn 62 [] [],.fn 63 [] [],.fn 66 [] [],.fn 67 [] [],.fn 69 [] [],.fn 70 [] [],.fn 71 [] [],.fn 72 [] [],.fn 73 [] [],.fn 75 [] [],.fn 76 [] [],.fn 77 [] [],.fn 78 [] []])],[],[],[],[]⟩)],[],[(4,(⟨[0,1,2,14,15],[],0,[],[],[]⟩,⟨[],[],[]⟩,.ret,ppo_view_rule_L1_T1 v a b w5))],[]⟩ ordB40 (fun z=>(aI (ppo_view_ahead_sim n v a b y1 gy1) (aB h2 (aI (ppo_rules_sim n y3 gy3) (aI (okL (pl:=polF 40) (ppo_view_rule_L1_S v a b) (ppo_view_rule_L1_out v a b) (ppo_view_rule_L1_sim n v a b) n _ (.inr w5) gt4) z))))) (by kernel_rfl)

def ord28:List (Nat×PT):=[(9,(ptS [0,1,2,3,4,5,6,7,8,9,10,11,12,13,14,15,16,17,18,19]))]
theorem ordB28:ordB (polF 28) ord28 (bodyOf Tryd.prog 28)=true:=by kernel_rfl
noncomputable def c_ppo_Pairs_L1:Code:=sub (bodyOf Tryd.prog 28) [1,1,1,1,0,1,0,0]
noncomputable def c_ppo_Pairs_L2:Code:=sub c_ppo_Pairs_L1 [1,1,0,0,1,1,0,0]
theorem ordB_ppo_Pairs_L2:ordB (polF 28) ord28 c_ppo_Pairs_L2=true:=by kernel_rfl
def ppo_Pairs_L2_S (z2:ppo_view) (xa2:Event) (sb:(List (Arr2 Int))×Int×Int×Int):St:=mkS 58 [(3,.fptr (ppo_view.enc z2) 0),(4,.mf 0),(5,(vI sb.2.2.1)),(6,.ptr (.L 6) 0 0),(7,(vI sb.2.2.2)),(14,.sl (z2.all.map Event.enc)),(15,(vI (z2.all.length:Int))),(16,(vI sb.2.1))] [(6,(Event.enc xa2))] [.arr true 2 (sb.1.map (eArr2 eI))] 0
def ppo_Pairs_L2_T0 (z2:ppo_view) (xa2:Event) (tt:(List (Arr2 Int))×Int):St:=mkS 58 [(3,.fptr (ppo_view.enc z2) 0),(4,.mf 0),(14,.sl (z2.all.map Event.enc)),(15,(vI (z2.all.length:Int))),(16,(vI tt.2))] [] [.arr true 2 (tt.1.map (eArr2 eI))] 0
def ppo_Pairs_L2_out (z2:ppo_view) (xa2:Event) (tt:((List (Arr2 Int))×Int)):Ex×St:=(.ex 2,ppo_Pairs_L2_T0 z2 xa2 tt)
theorem ppo_Pairs_L2_sim (n:Nat) (z2:ppo_view) (xa2:Event):∀ sb r,ppo_Pairs_L2 n z2 xa2 sb=some r→CodeD Tryd.prog c_ppo_Pairs_L2 (ppo_Pairs_L2_S z2 xa2 sb) (rk (ppo_Pairs_L2_S z2 xa2) (ppo_Pairs_L2_out z2 xa2) r):=by
 intro sb r h
 unfold ppo_Pairs_L2 at h
 rcases iteN h with ⟨hb1,h⟩ | ⟨hb1,h⟩
 ·
  obtain rfl:=soI h
  exact kR ⟨ord28,[rV 9 [(28,(vI (z2.all.length:Int))),(30,vF)]],[],[],[]⟩ [(4,⟨[3,4,14,15,16],[6],1,[],[],[]⟩,⟨[],[],[]⟩)] ordB_ppo_Pairs_L2 (rkE rfl neE) (fun z=>(aL Event.enc z2.all (aB hb1 z))) (by kernel_rfl)
 obtain ⟨xb2,gxb2,h⟩:=bindE h
 rcases iteN h with ⟨hb3,h⟩ | ⟨hb3,h⟩
 ·
  obtain rfl:=soI h
  exact kR ⟨ord28,[(9,⟨[],[],[(36,(Event.enc xb2))],[(28,(vI (z2.all.length:Int))),(30,vT),(42,vF)],[],[],[],[],[]⟩)],[],[],[]⟩ [(4,⟨[3,4,14,15,16],[6],1,[],[],[]⟩,⟨[],[],[]⟩)] ordB_ppo_Pairs_L2 (rkE rfl neE) (fun z=>(aL Event.enc z2.all (aB hb1 (aM Event.enc gxb2 (aB hb3 z))))) (by kernel_rfl)
 obtain ⟨yb4,gyb4,h⟩:=bindE h
 rcases iteN h with ⟨hb5,h⟩ | ⟨hb5,h⟩
 ·
  obtain rfl:=soI h
  exact kR ⟨ord28,[(9,⟨[],[],[(36,(Event.enc xb2))],[(28,(vI (z2.all.length:Int))),(30,vT),(42,vT)],[],[],[],[],[]⟩),rVC 11 [(49,vF)] [(48,(vI yb4))]],[],[],[]⟩ [(0,⟨[3,4,5,6,7,14,15,16],[],1,[],[],[]⟩,⟨[],[],[]⟩)] ordB_ppo_Pairs_L2 rkN (fun z=>(aL Event.enc z2.all (aB hb1 (aM Event.enc gxb2 (aB hb3 (aI (ppo_view_rule_sim n z2 sb.2.2.1 sb.2.2.2 yb4 gyb4) (aB hb5 z))))))) (by kernel_rfl)
 obtain ⟨hb6,h⟩:=grdE h
 obtain rfl:=soI h
 exact kR ⟨ord28,[(9,⟨[],[],[(36,(Event.enc xb2))],[(28,(vI (z2.all.length:Int))),(30,vT),(42,vT)],[],[],[],[],[]⟩),rVC 11 [(49,vT)] [(48,(vI yb4))],(12,⟨[],[55],[],[],[],[],[(55,(0,(sb.1++([(Arr2.mk sb.2.2.1 sb.2.2.2)]:List (Arr2 Int))).map (eArr2 eI)))],[],[]⟩)],[],[],[]⟩ [(0,⟨[3,4,5,6,7,14,15,16],[],1,[],[],[]⟩,⟨[],[],[]⟩)] ordB_ppo_Pairs_L2 rkN (fun z=>(aL Event.enc z2.all (aB hb1 (aM Event.enc gxb2 (aB hb3 (aI (ppo_view_rule_sim n z2 sb.2.2.1 sb.2.2.2 yb4 gyb4) (aB hb5 (aI (rfl:szOk 2 [[(vI sb.2.2.1),(vI sb.2.2.2)]]=true) (aI (rfl:okRows [[(vI sb.2.2.1),(vI sb.2.2.2)]]=true) (aI (ble_maps1 hb6:Nat.ble (((sb.1.map (eArr2 eI)).length + 1) * 16) 140737488355328=true) (aI (app_map (eArr2 eI) sb.1 ([(Arr2.mk sb.2.2.1 sb.2.2.2)]:List (Arr2 Int))) z))))))))))) (by kernel_rfl)

theorem ordB_ppo_Pairs_L1:ordB (polF 28) ord28 c_ppo_Pairs_L1=true:=by kernel_rfl
def ppo_Pairs_L1_S (z2:ppo_view) (sa:(List (Arr2 Int))×Int):St:=mkS 58 [(3,.fptr (ppo_view.enc z2) 0),(4,.mf 0),(14,.sl (z2.all.map Event.enc)),(15,(vI (z2.all.length:Int))),(16,(vI sa.2))] [] [.arr true 2 (sa.1.map (eArr2 eI))] 0
def ppo_Pairs_L1_T0 (z2:ppo_view) (tt:(List (Arr2 Int))):St:=mkS 58 [(4,.mf 0)] [] [.arr true 2 (tt.map (eArr2 eI))] 0
def ppo_Pairs_L1_out (z2:ppo_view) (tt:((List (Arr2 Int)))):Ex×St:=(.ex 0,ppo_Pairs_L1_T0 z2 tt)
theorem ppo_Pairs_L1_sim (n:Nat) (z2:ppo_view):∀ sa r,ppo_Pairs_L1 n z2 sa=some r→CodeD Tryd.prog c_ppo_Pairs_L1 (ppo_Pairs_L1_S z2 sa) (rk (ppo_Pairs_L1_S z2) (ppo_Pairs_L1_out z2) r):=by
 intro sa r h
 unfold ppo_Pairs_L1 at h
 rcases iteN h with ⟨ha1,h⟩ | ⟨ha1,h⟩
 ·
  obtain rfl:=soI h
  exact kR ⟨ord28,[rV 6 [(17,vF)]],[],[],[]⟩ [(2,⟨[4],[],1,[],[],[]⟩,⟨[],[],[]⟩)] ordB_ppo_Pairs_L1 (rkE rfl neE) (fun z=>(aB ha1 z)) (by kernel_rfl)
 obtain ⟨xa2,gxa2,h⟩:=bindE h
 obtain ⟨ta3,gta3,h⟩:=bindE h
 obtain rfl:=soI h
 exact kR ⟨ord28,[rV 6 [(17,vT)],(7,⟨[],[],[(19,(Event.enc xa2))],[],[],[],[],[],[]⟩)],[],[(9,(⟨[3,4,5,6,7,14,15,16],[],1,[],[],[]⟩,⟨[],[],[]⟩,(.ex 2),ppo_Pairs_L2_T0 z2 xa2 ta3))],[]⟩ [(0,⟨[3,4,14,15,16],[],1,[],[],[]⟩,⟨[],[],[]⟩)] ordB_ppo_Pairs_L1 rkN (fun z=>(aB ha1 (aM Event.enc gxa2 (aI (okL (pl:=polF 28) (ppo_Pairs_L2_S z2 xa2) (ppo_Pairs_L2_out z2 xa2) (ppo_Pairs_L2_sim n z2 xa2) n _ ta3 gta3) z)))) (by kernel_rfl)

theorem ppo_Pairs_sim (n:Nat) (c:Cand) (r:(List (Arr2 Int))) (h:ppo_Pairs n c=some r):PCall Tryd.prog 28 [(aAgg Cand.enc c)] (eqA (.sl (r.map (eArr2 eI)))):=by
 unfold ppo_Pairs at h
 obtain ⟨y1,gy1,h⟩:=bindE h
 rcases y1 with _ | z2
 ·
  obtain rfl:=soI h
  exact kP ⟨ord28,[rVC 1 [] [(8,.nilp)]],[],[],[]⟩ ordB28 (fun z=>(aI (ppo_of_sim n c none gy1) (LeA.nil:LeA .nilsl (.sl (([]:List (Arr2 Int)).map (eArr2 eI)))))) (by kernel_rfl)
 ·
  obtain ⟨t3,gt3,h⟩:=bindE h
  obtain rfl:=soI h
  exact kP ⟨ord28,[rVC 1 [] [(8,.fptr (ppo_view.enc z2) 0)],rV 5 [(15,(vI (z2.all.length:Int)))]],[],[(6,(⟨[3,4,14,15,16],[],0,[(4,2)],[],[]⟩,⟨[],[],[]⟩,(.ex 0),ppo_Pairs_L1_T0 z2 t3))],[]⟩ ordB28 (fun z=>(aI (ppo_of_sim n c (some z2) gy1) (aL Event.enc z2.all (aI (okL (pl:=polF 28) (ppo_Pairs_L1_S z2) (ppo_Pairs_L1_out z2) (ppo_Pairs_L1_sim n z2) n _ t3 gt3) z)))) (by kernel_rfl)

def ord19:List (Nat×PT):=[]
theorem ordB19:ordB (polF 19) ord19 (bodyOf Tryd.prog 19)=true:=by kernel_rfl
theorem axiom_good_sim (n:Nat) (r:Judged) (h:axiom_good n=some r):PCall Tryd.prog 19 [] (eqA ((aAgg Judged.enc r))):=by
 unfold axiom_good at h
 obtain rfl:=soI h
 exact kP ⟨ord19,[],[],[],[]⟩ ordB19 (fun z=>z) (by kernel_rfl)

def ord16:List (Nat×PT):=[(4,(ptS [0,1,2,3,4,5,6,7,8,9,10,11,12,13,14,15,16]))]
theorem ordB16:ordB (polF 16) ord16 (bodyOf Tryd.prog 16)=true:=by kernel_rfl
noncomputable def c_axiom_court_order_S_L1:Code:=sub (bodyOf Tryd.prog 16) [1,0,1,0,0]
theorem ordB_axiom_court_order_S_L1:ordB (polF 16) ord16 c_axiom_court_order_S_L1=true:=by kernel_rfl
def axiom_court_order_S_L1_S (ob:(List Cell)) (ob_:(List (List Event))) (ob__:(List Int)) (ob___:(List Int)) (ob____:(List (Int×(List Int)))) (ob_____:(List Event)) (ob______:(List Int)) (y1:(List (Arr2 Int))) (sa:Int):St:=mkS 41 [(0,.ptr (.O 2) 0 0),(2,.ptr (.L 2) 0 0),(11,.sl (y1.map (eArr2 eI))),(12,(vI (y1.length:Int))),(13,(vI sa))] [(2,[vF,(vI 0),(vI 0),(vI 0)])] [.arr true 4 [[.sl (ob.map Cell.enc),.sl (ob_.map (eSl Event.enc)),.sl (ob__.map eI),.sl (ob___.map eI)]],.mapo true (ob____.map (eKV (aInt .u64) (aSl eI))),.arr false 4 [[.ptr (.O 0) 0 0,.sl (ob_____.map Event.enc),.sl (ob______.map eI),.mp 1]],.arr false 1 [[.fn 16 [.ptr (.O 2) 0 0] []],[.fn 17 [.ptr (.O 2) 0 0] []],[.fn 18 [.ptr (.O 2) 0 0] []]]] 4
def axiom_court_order_S_L1_T0 (ob:(List Cell)) (ob_:(List (List Event))) (ob__:(List Int)) (ob___:(List Int)) (ob____:(List (Int×(List Int)))) (ob_____:(List Event)) (ob______:(List Int)) (y1:(List (Arr2 Int))) (tt:Unit):St:=mkS 41 [(2,.ptr (.L 2) 0 0)] [(2,[vF,(vI 0),(vI 0),(vI 0)])] [.arr true 4 [[.sl (ob.map Cell.enc),.sl (ob_.map (eSl Event.enc)),.sl (ob__.map eI),.sl (ob___.map eI)]],.mapo true (ob____.map (eKV (aInt .u64) (aSl eI))),.arr false 4 [[.ptr (.O 0) 0 0,.sl (ob_____.map Event.enc),.sl (ob______.map eI),.mp 1]],.arr false 1 [[.fn 16 [.ptr (.O 2) 0 0] []],[.fn 17 [.ptr (.O 2) 0 0] []],[.fn 18 [.ptr (.O 2) 0 0] []]]] 4
def axiom_court_order_S_L1_T1 (ob:(List Cell)) (ob_:(List (List Event))) (ob__:(List Int)) (ob___:(List Int)) (ob____:(List (Int×(List Int)))) (ob_____:(List Event)) (ob______:(List Int)) (y1:(List (Arr2 Int))) (tt:Bool×Int×Int×Int):St:=mkS 41 [(2,.ptr (.L 2) 0 0)] [(2,[.v (.bool tt.1),(vI tt.2.1),(vI tt.2.2.1),(vI tt.2.2.2)])] [.arr true 4 [[.sl (ob.map Cell.enc),.sl (ob_.map (eSl Event.enc)),.sl (ob__.map eI),.sl (ob___.map eI)]],.mapo true (ob____.map (eKV (aInt .u64) (aSl eI))),.arr false 4 [[.ptr (.O 0) 0 0,.sl (ob_____.map Event.enc),.sl (ob______.map eI),.mp 1]],.arr false 1 [[.fn 16 [.ptr (.O 2) 0 0] []],[.fn 17 [.ptr (.O 2) 0 0] []],[.fn 18 [.ptr (.O 2) 0 0] []]]] 4
def axiom_court_order_S_L1_out (ob:(List Cell)) (ob_:(List (List Event))) (ob__:(List Int)) (ob___:(List Int)) (ob____:(List (Int×(List Int)))) (ob_____:(List Event)) (ob______:(List Int)) (y1:(List (Arr2 Int))) (t0:(Unit⊕(Bool×Int×Int×Int))):Ex×St:=match t0 with | .inl tt=>(.ex 0,axiom_court_order_S_L1_T0 ob ob_ ob__ ob___ ob____ ob_____ ob______ y1 tt) | .inr tt=>(.ret,axiom_court_order_S_L1_T1 ob ob_ ob__ ob___ ob____ ob_____ ob______ y1 tt)
theorem axiom_court_order_S_L1_sim (n:Nat) (ob:(List Cell)) (ob_:(List (List Event))) (ob__:(List Int)) (ob___:(List Int)) (ob____:(List (Int×(List Int)))) (ob_____:(List Event)) (ob______:(List Int)) (y1:(List (Arr2 Int))):∀ sa r,axiom_court_order_S_L1 n ob ob_ ob__ ob___ ob____ ob_____ ob______ y1 sa=some r→CodeD Tryd.prog c_axiom_court_order_S_L1 (axiom_court_order_S_L1_S ob ob_ ob__ ob___ ob____ ob_____ ob______ y1 sa) (rk (axiom_court_order_S_L1_S ob ob_ ob__ ob___ ob____ ob_____ ob______ y1) (axiom_court_order_S_L1_out ob ob_ ob__ ob___ ob____ ob_____ ob______ y1) r):=by
 intro sa r h
 unfold axiom_court_order_S_L1 at h
 rcases iteN h with ⟨ha1,h⟩ | ⟨ha1,h⟩
 ·
  obtain rfl:=soI h
  exact kR ⟨ord16,[rV 2 [(14,vF)]],[],[],[]⟩ [(2,⟨[2],[],4,[],[],[]⟩,⟨[],[],[]⟩)] ordB_axiom_court_order_S_L1 (rkE rfl neE) (fun z=>(aB ha1 z)) (by kernel_rfl)
 obtain ⟨xa2,gxa2,h⟩:=bindE h
 obtain ⟨xa3,gxa3,h⟩:=bindE h
 obtain ⟨xa4,gxa4,h⟩:=bindE h
 rcases iteN h with ⟨ha5,h⟩ | ⟨ha5,h⟩
 ·
  obtain rfl:=soI h
  exact kR ⟨ord16,[rV 2 [(14,vT)],(3,⟨[],[],[(15,[(vI xa2.e0),(vI xa2.e1)])],[],[],[],[],[],[]⟩),(4,⟨[],[],[(23,[(vI xa3)]),(31,[(vI xa4)])],[(33,vF)],[],[],[],[],[]⟩)],[],[],[]⟩ [(0,⟨[0,2,11,12,13],[4],4,[],[],[]⟩,⟨[],[],[]⟩)] ordB_axiom_court_order_S_L1 rkN (fun z=>(aB ha1 (aI (at_map (eArr2 eI) gxa2:at? (y1.map (eArr2 eI)) sa=some [(vI xa2.e0),(vI xa2.e1)]) (aM eI gxa3 (aM eI gxa4 (aB ha5 z)))))) (by kernel_rfl)
 obtain ⟨ya6,gya6,h⟩:=bindE h
 obtain rfl:=soI h
 exact kR ⟨ord16,[rV 2 [(14,vT)],(3,⟨[],[],[(15,[(vI xa2.e0),(vI xa2.e1)])],[],[],[],[],[],[]⟩),(4,⟨[],[],[(23,[(vI xa3)]),(31,[(vI xa4)])],[(33,vT)],[],[],[],[],[]⟩),rVC 5 [] [(38,(aAgg Judged.enc ya6))]],[],[],[]⟩ [(1,⟨[2],[4],4,[],[],[]⟩,⟨[],[],[]⟩)] ordB_axiom_court_order_S_L1 (rkE rfl neR) (fun z=>(aB ha1 (aI (at_map (eArr2 eI) gxa2:at? (y1.map (eArr2 eI)) sa=some [(vI xa2.e0),(vI xa2.e1)]) (aM eI gxa3 (aM eI gxa4 (aB ha5 (aI (axiom_bad_sim n 2 xa2.e0 xa2.e1 ya6 gya6) z))))))) (by kernel_rfl)

def axiom_court_order_S_R (ob:(List Cell)) (ob_:(List (List Event))) (ob__:(List Int)) (ob___:(List Int)) (ob____:(List (Int×(List Int)))) (ob_____:(List Event)) (ob______:(List Int)) (y:(Bool×Int×Int×Int)):AV×List Ob:=(.agg [.v (.bool y.1),(vI y.2.1),(vI y.2.2.1),(vI y.2.2.2)],[.arr true 4 [[.sl (ob.map Cell.enc),.sl (ob_.map (eSl Event.enc)),.sl (ob__.map eI),.sl (ob___.map eI)]],.mapo true (ob____.map (eKV (aInt .u64) (aSl eI))),.arr false 4 [[.ptr (.O 0) 0 0,.sl (ob_____.map Event.enc),.sl (ob______.map eI),.mp 1]],.arr false 1 [[.fn 16 [.ptr (.O 2) 0 0] []],[.fn 17 [.ptr (.O 2) 0 0] []],[.fn 18 [.ptr (.O 2) 0 0] []]]])
theorem axiom_court_order_S_sim (n:Nat) (ob:(List Cell)) (ob_:(List (List Event))) (ob__:(List Int)) (ob___:(List Int)) (ob____:(List (Int×(List Int)))) (ob_____:(List Event)) (ob______:(List Int)) (y:(Bool×Int×Int×Int)) (h:axiom_court_order_S n ob ob_ ob__ ob___ ob____ ob_____ ob______=some y):SD Tryd.prog 16 [.ptr (.O 2) 0 0] [.arr true 4 [[.sl (ob.map Cell.enc),.sl (ob_.map (eSl Event.enc)),.sl (ob__.map eI),.sl (ob___.map eI)]],.mapo true (ob____.map (eKV (aInt .u64) (aSl eI))),.arr false 4 [[.ptr (.O 0) 0 0,.sl (ob_____.map Event.enc),.sl (ob______.map eI),.mp 1]],.arr false 1 [[.fn 16 [.ptr (.O 2) 0 0] []],[.fn 17 [.ptr (.O 2) 0 0] []],[.fn 18 [.ptr (.O 2) 0 0] []]]] (fun r' o'=>r'=(axiom_court_order_S_R ob ob_ ob__ ob___ ob____ ob_____ ob______ y).1∧o'=(axiom_court_order_S_R ob ob_ ob__ ob___ ob____ ob_____ ob______ y).2):=by
 unfold axiom_court_order_S at h
 obtain ⟨y1,gy1,h⟩:=bindE h
 obtain ⟨t2,gt2,h⟩:=bindE h
 rcases t2 with w3 | w3
 ·
  obtain ⟨y4,gy4,h⟩:=bindE h
  obtain rfl:=soI h
  exact kS ⟨ord16,[rVC 1 [(12,(vI (y1.length:Int)))] [(11,.sl (y1.map (eArr2 eI)))],rVC 7 [] [(40,(aAgg Judged.enc y4))]],[],[(2,(⟨[0,2,11,12,13],[],4,[],[],[]⟩,⟨[],[],[]⟩,(.ex 0),axiom_court_order_S_L1_T0 ob ob_ ob__ ob___ ob____ ob_____ ob______ y1 w3))],[]⟩ ordB16 ⟨rfl,rfl⟩ (fun z=>(aI (ppo_Pairs_sim n (Cand.mk ob ob_ ob__ ob___) y1 gy1) (aL (eArr2 eI) y1 (aI (okL (pl:=polF 16) (axiom_court_order_S_L1_S ob ob_ ob__ ob___ ob____ ob_____ ob______ y1) (axiom_court_order_S_L1_out ob ob_ ob__ ob___ ob____ ob_____ ob______ y1) (axiom_court_order_S_L1_sim n ob ob_ ob__ ob___ ob____ ob_____ ob______ y1) n _ (.inl w3) gt2) (aI (axiom_good_sim n y4 gy4) z))))) (by kernel_rfl)
 ·
  obtain rfl:=soI h
  exact kS ⟨ord16,[rVC 1 [(12,(vI (y1.length:Int)))] [(11,.sl (y1.map (eArr2 eI)))]],[],[(2,(⟨[0,2,11,12,13],[],4,[],[],[]⟩,⟨[],[],[]⟩,.ret,axiom_court_order_S_L1_T1 ob ob_ ob__ ob___ ob____ ob_____ ob______ y1 w3))],[]⟩ ordB16 ⟨rfl,rfl⟩ (fun z=>(aI (ppo_Pairs_sim n (Cand.mk ob ob_ ob__ ob___) y1 gy1) (aL (eArr2 eI) y1 (aI (okL (pl:=polF 16) (axiom_court_order_S_L1_S ob ob_ ob__ ob___ ob____ ob_____ ob______ y1) (axiom_court_order_S_L1_out ob ob_ ob__ ob___ ob____ ob_____ ob______ y1) (axiom_court_order_S_L1_sim n ob ob_ ob__ ob___ ob____ ob_____ ob______ y1) n _ (.inr w3) gt2) z)))) (by kernel_rfl)

end
end Go.Proofs.YtomahedcdcnnhaaDoor
