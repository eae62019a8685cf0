/- What the functions compute, they compute: printed by a program, path by path. No conditions. -/
import Derived.Test.YtomahedcdcnnhaaDoorP0
import Derived.KernelRfl
namespace Go.Proofs.YtomahedcdcnnhaaDoor
open Go A
set_option linter.unusedVariables false
set_option maxRecDepth 100000
set_option maxHeartbeats 0
section
variable (pc:Nat→List AV→(AV→Prop)→Prop) (sc:Nat→List AV→List Ob→(AV→List Ob→Prop)→Prop) (lp:Pol→Code→St→(Ex→St→Prop)→Prop) (cd:CutP)

def ord4:List (Nat×PT):=[(5,(ptS [0,1,2,3,4,5,6,7,8])),(6,(ptS [0,1,2,3,4,5,6,7,8]))]
theorem ordB4:ordB (polF 4) ord4 (bodyOf Tryd.prog 4)=true:=by kernel_rfl
theorem law_message_sim (n:Nat) (fences:Bool) (r:Cand) (h:law_message n fences=some r):PCall Tryd.prog 4 [.v (.bool fences)] (eqA ((aAgg Cand.enc r))):=by
 unfold law_message at h
 rcases iteE h with ⟨h1,h⟩ | ⟨h1,h⟩
 ·
  obtain rfl:=soI h
  exact kP (nA ord4 [rV 3 [(12,vT)]]) ordB4 (fun z=>(aB h1 ((LeA.agg (LeR.cons LeA.nil (LeR.cons (LeA.sl (LeRs.cons (LeR.cons (LeA.sl (LeRs.cons (LeR.cons (LeA.refl _) (LeR.cons (LeA.refl _) (LeR.cons (LeA.refl _) (LeR.cons (LeA.refl _) (LeR.cons (LeA.refl _) (LeR.cons (LeA.refl _) (LeR.cons (LeA.refl _) (LeR.cons (LeA.refl _) (LeR.cons (LeA.refl _) (LeR.cons (LeA.refl _) (LeR.cons (LeA.refl _) (LeR.cons LeA.nil (LeR.cons LeA.nil (LeR.cons LeA.nil LeR.nil)))))))))))))) (LeRs.cons (LeR.cons (LeA.refl _) (LeR.cons (LeA.refl _) (LeR.cons (LeA.refl _) (LeR.cons (LeA.refl _) (LeR.cons (LeA.refl _) (LeR.cons (LeA.refl _) (LeR.cons (LeA.refl _) (LeR.cons (LeA.refl _) (LeR.cons (LeA.refl _) (LeR.cons (LeA.refl _) (LeR.cons (LeA.refl _) (LeR.cons LeA.nil (LeR.cons LeA.nil (LeR.cons LeA.nil LeR.nil)))))))))))))) LeRs.nil))) LeR.nil) (LeRs.cons (LeR.cons (LeA.sl (LeRs.cons (LeR.cons (LeA.refl _) (LeR.cons (LeA.refl _) (LeR.cons (LeA.refl _) (LeR.cons (LeA.refl _) (LeR.cons (LeA.refl _) (LeR.cons (LeA.refl _) (LeR.cons (LeA.refl _) (LeR.cons (LeA.refl _) (LeR.cons (LeA.refl _) (LeR.cons (LeA.refl _) (LeR.cons (LeA.refl _) (LeR.cons LeA.nil (LeR.cons LeA.nil (LeR.cons LeA.nil LeR.nil)))))))))))))) (LeRs.cons (LeR.cons (LeA.refl _) (LeR.cons (LeA.refl _) (LeR.cons (LeA.refl _) (LeR.cons (LeA.refl _) (LeR.cons (LeA.refl _) (LeR.cons (LeA.refl _) (LeR.cons (LeA.refl _) (LeR.cons (LeA.refl _) (LeR.cons (LeA.refl _) (LeR.cons (LeA.refl _) (LeR.cons (LeA.refl _) (LeR.cons LeA.nil (LeR.cons LeA.nil (LeR.cons LeA.nil LeR.nil)))))))))))))) LeRs.nil))) LeR.nil) LeRs.nil))) (LeR.cons (LeA.refl _) (LeR.cons (LeA.refl _) LeR.nil))))):LeA (.agg [.nilsl,.sl [[.sl [[(vI 0),(vI 0),(vI 2),(vU 8),(vU 0),(vU 1),vF,vF,(vI 0),(vI 0),(vI 0),.nilsl,.nilsl,.nilsl],[(vI 0),(vI 1),(vI 2),(vU 16),(vU 0),(vU 1),vF,vF,(vI 0),(vI 0),(vI 0),.nilsl,.nilsl,.nilsl]]],[.sl [[(vI 1),(vI 0),(vI 1),(vU 16),(vU 1),(vU 0),vF,vF,(vI 0),(vI 0),(vI 0),.nilsl,.nilsl,.nilsl],[(vI 1),(vI 1),(vI 1),(vU 8),(vU 0),(vU 0),vF,vF,(vI 0),(vI 0),(vI 0),.nilsl,.nilsl,.nilsl]]]],.sl [[(vI (-1))],[(vI (-1))],[(vI 1)],[(vI (-1))]],.sl [[(vI 1)],[(vI 2)],[(vI 3)],[(vI 0)]]]) (.agg [.sl (((Cand.mk ([]:List Cell) ([([(Event.mk 0 0 2 8 0 1 false false 0 0 0 (Deps.mk ([]:List Int) ([]:List Int) ([]:List Int))),(Event.mk 0 1 2 16 0 1 false false 0 0 0 (Deps.mk ([]:List Int) ([]:List Int) ([]:List Int)))]:List Event),([(Event.mk 1 0 1 16 1 0 false false 0 0 0 (Deps.mk ([]:List Int) ([]:List Int) ([]:List Int))),(Event.mk 1 1 1 8 0 0 false false 0 0 0 (Deps.mk ([]:List Int) ([]:List Int) ([]:List Int)))]:List Event)]:List (List Event)) ([(-1),(-1),1,(-1)]:List Int) ([1,2,3,0]:List Int)).First).map Cell.enc),.sl (((Cand.mk ([]:List Cell) ([([(Event.mk 0 0 2 8 0 1 false false 0 0 0 (Deps.mk ([]:List Int) ([]:List Int) ([]:List Int))),(Event.mk 0 1 2 16 0 1 false false 0 0 0 (Deps.mk ([]:List Int) ([]:List Int) ([]:List Int)))]:List Event),([(Event.mk 1 0 1 16 1 0 false false 0 0 0 (Deps.mk ([]:List Int) ([]:List Int) ([]:List Int))),(Event.mk 1 1 1 8 0 0 false false 0 0 0 (Deps.mk ([]:List Int) ([]:List Int) ([]:List Int)))]:List Event)]:List (List Event)) ([(-1),(-1),1,(-1)]:List Int) ([1,2,3,0]:List Int)).Harts).map (eSl Event.enc)),.sl (((Cand.mk ([]:List Cell) ([([(Event.mk 0 0 2 8 0 1 false false 0 0 0 (Deps.mk ([]:List Int) ([]:List Int) ([]:List Int))),(Event.mk 0 1 2 16 0 1 false false 0 0 0 (Deps.mk ([]:List Int) ([]:List Int) ([]:List Int)))]:List Event),([(Event.mk 1 0 1 16 1 0 false false 0 0 0 (Deps.mk ([]:List Int) ([]:List Int) ([]:List Int))),(Event.mk 1 1 1 8 0 0 false false 0 0 0 (Deps.mk ([]:List Int) ([]:List Int) ([]:List Int)))]:List Event)]:List (List Event)) ([(-1),(-1),1,(-1)]:List Int) ([1,2,3,0]:List Int)).From).map eI),.sl (((Cand.mk ([]:List Cell) ([([(Event.mk 0 0 2 8 0 1 false false 0 0 0 (Deps.mk ([]:List Int) ([]:List Int) ([]:List Int))),(Event.mk 0 1 2 16 0 1 false false 0 0 0 (Deps.mk ([]:List Int) ([]:List Int) ([]:List Int)))]:List Event),([(Event.mk 1 0 1 16 1 0 false false 0 0 0 (Deps.mk ([]:List Int) ([]:List Int) ([]:List Int))),(Event.mk 1 1 1 8 0 0 false false 0 0 0 (Deps.mk ([]:List Int) ([]:List Int) ([]:List Int)))]:List Event)]:List (List Event)) ([(-1),(-1),1,(-1)]:List Int) ([1,2,3,0]:List Int)).Order).map eI)])))) (by kernel_rfl)
 obtain rfl:=soI h
 exact kP (nA ord4 [rV 3 [(12,vF)]]) ordB4 (fun z=>(aB h1 ((LeA.agg (LeR.cons LeA.nil (LeR.cons (LeA.sl (LeRs.cons (LeR.cons (LeA.sl (LeRs.cons (LeR.cons (LeA.refl _) (LeR.cons (LeA.refl _) (LeR.cons (LeA.refl _) (LeR.cons (LeA.refl _) (LeR.cons (LeA.refl _) (LeR.cons (LeA.refl _) (LeR.cons (LeA.refl _) (LeR.cons (LeA.refl _) (LeR.cons (LeA.refl _) (LeR.cons (LeA.refl _) (LeR.cons (LeA.refl _) (LeR.cons LeA.nil (LeR.cons LeA.nil (LeR.cons LeA.nil LeR.nil)))))))))))))) (LeRs.cons (LeR.cons (LeA.refl _) (LeR.cons (LeA.refl _) (LeR.cons (LeA.refl _) (LeR.cons (LeA.refl _) (LeR.cons (LeA.refl _) (LeR.cons (LeA.refl _) (LeR.cons (LeA.refl _) (LeR.cons (LeA.refl _) (LeR.cons (LeA.refl _) (LeR.cons (LeA.refl _) (LeR.cons (LeA.refl _) (LeR.cons LeA.nil (LeR.cons LeA.nil (LeR.cons LeA.nil LeR.nil)))))))))))))) (LeRs.cons (LeR.cons (LeA.refl _) (LeR.cons (LeA.refl _) (LeR.cons (LeA.refl _) (LeR.cons (LeA.refl _) (LeR.cons (LeA.refl _) (LeR.cons (LeA.refl _) (LeR.cons (LeA.refl _) (LeR.cons (LeA.refl _) (LeR.cons (LeA.refl _) (LeR.cons (LeA.refl _) (LeR.cons (LeA.refl _) (LeR.cons LeA.nil (LeR.cons LeA.nil (LeR.cons LeA.nil LeR.nil)))))))))))))) LeRs.nil)))) LeR.nil) (LeRs.cons (LeR.cons (LeA.sl (LeRs.cons (LeR.cons (LeA.refl _) (LeR.cons (LeA.refl _) (LeR.cons (LeA.refl _) (LeR.cons (LeA.refl _) (LeR.cons (LeA.refl _) (LeR.cons (LeA.refl _) (LeR.cons (LeA.refl _) (LeR.cons (LeA.refl _) (LeR.cons (LeA.refl _) (LeR.cons (LeA.refl _) (LeR.cons (LeA.refl _) (LeR.cons LeA.nil (LeR.cons LeA.nil (LeR.cons LeA.nil LeR.nil)))))))))))))) (LeRs.cons (LeR.cons (LeA.refl _) (LeR.cons (LeA.refl _) (LeR.cons (LeA.refl _) (LeR.cons (LeA.refl _) (LeR.cons (LeA.refl _) (LeR.cons (LeA.refl _) (LeR.cons (LeA.refl _) (LeR.cons (LeA.refl _) (LeR.cons (LeA.refl _) (LeR.cons (LeA.refl _) (LeR.cons (LeA.refl _) (LeR.cons LeA.nil (LeR.cons LeA.nil (LeR.cons LeA.nil LeR.nil)))))))))))))) (LeRs.cons (LeR.cons (LeA.refl _) (LeR.cons (LeA.refl _) (LeR.cons (LeA.refl _) (LeR.cons (LeA.refl _) (LeR.cons (LeA.refl _) (LeR.cons (LeA.refl _) (LeR.cons (LeA.refl _) (LeR.cons (LeA.refl _) (LeR.cons (LeA.refl _) (LeR.cons (LeA.refl _) (LeR.cons (LeA.refl _) (LeR.cons LeA.nil (LeR.cons LeA.nil (LeR.cons LeA.nil LeR.nil)))))))))))))) LeRs.nil)))) LeR.nil) LeRs.nil))) (LeR.cons (LeA.refl _) (LeR.cons (LeA.refl _) LeR.nil))))):LeA (.agg [.nilsl,.sl [[.sl [[(vI 0),(vI 0),(vI 2),(vU 8),(vU 0),(vU 1),vF,vF,(vI 0),(vI 0),(vI 0),.nilsl,.nilsl,.nilsl],[(vI 0),(vI 1),(vI 6),(vU 0),(vU 0),(vU 0),vF,vF,(vI 1),(vI 1),(vI 0),.nilsl,.nilsl,.nilsl],[(vI 0),(vI 2),(vI 2),(vU 16),(vU 0),(vU 1),vF,vF,(vI 0),(vI 0),(vI 0),.nilsl,.nilsl,.nilsl]]],[.sl [[(vI 1),(vI 0),(vI 1),(vU 16),(vU 1),(vU 0),vF,vF,(vI 0),(vI 0),(vI 0),.nilsl,.nilsl,.nilsl],[(vI 1),(vI 1),(vI 6),(vU 0),(vU 0),(vU 0),vF,vF,(vI 2),(vI 2),(vI 0),.nilsl,.nilsl,.nilsl],[(vI 1),(vI 2),(vI 1),(vU 8),(vU 0),(vU 0),vF,vF,(vI 0),(vI 0),(vI 0),.nilsl,.nilsl,.nilsl]]]],.sl [[(vI (-1))],[(vI (-1))],[(vI (-1))],[(vI 2)],[(vI (-1))],[(vI (-1))]],.sl [[(vI 2)],[(vI 3)],[(vI 5)],[(vI 0)]]]) (.agg [.sl (((Cand.mk ([]:List Cell) ([([(Event.mk 0 0 2 8 0 1 false false 0 0 0 (Deps.mk ([]:List Int) ([]:List Int) ([]:List Int))),(Event.mk 0 1 6 0 0 0 false false 1 1 0 (Deps.mk ([]:List Int) ([]:List Int) ([]:List Int))),(Event.mk 0 2 2 16 0 1 false false 0 0 0 (Deps.mk ([]:List Int) ([]:List Int) ([]:List Int)))]:List Event),([(Event.mk 1 0 1 16 1 0 false false 0 0 0 (Deps.mk ([]:List Int) ([]:List Int) ([]:List Int))),(Event.mk 1 1 6 0 0 0 false false 2 2 0 (Deps.mk ([]:List Int) ([]:List Int) ([]:List Int))),(Event.mk 1 2 1 8 0 0 false false 0 0 0 (Deps.mk ([]:List Int) ([]:List Int) ([]:List Int)))]:List Event)]:List (List Event)) ([(-1),(-1),(-1),2,(-1),(-1)]:List Int) ([2,3,5,0]:List Int)).First).map Cell.enc),.sl (((Cand.mk ([]:List Cell) ([([(Event.mk 0 0 2 8 0 1 false false 0 0 0 (Deps.mk ([]:List Int) ([]:List Int) ([]:List Int))),(Event.mk 0 1 6 0 0 0 false false 1 1 0 (Deps.mk ([]:List Int) ([]:List Int) ([]:List Int))),(Event.mk 0 2 2 16 0 1 false false 0 0 0 (Deps.mk ([]:List Int) ([]:List Int) ([]:List Int)))]:List Event),([(Event.mk 1 0 1 16 1 0 false false 0 0 0 (Deps.mk ([]:List Int) ([]:List Int) ([]:List Int))),(Event.mk 1 1 6 0 0 0 false false 2 2 0 (Deps.mk ([]:List Int) ([]:List Int) ([]:List Int))),(Event.mk 1 2 1 8 0 0 false false 0 0 0 (Deps.mk ([]:List Int) ([]:List Int) ([]:List Int)))]:List Event)]:List (List Event)) ([(-1),(-1),(-1),2,(-1),(-1)]:List Int) ([2,3,5,0]:List Int)).Harts).map (eSl Event.enc)),.sl (((Cand.mk ([]:List Cell) ([([(Event.mk 0 0 2 8 0 1 false false 0 0 0 (Deps.mk ([]:List Int) ([]:List Int) ([]:List Int))),(Event.mk 0 1 6 0 0 0 false false 1 1 0 (Deps.mk ([]:List Int) ([]:List Int) ([]:List Int))),(Event.mk 0 2 2 16 0 1 false false 0 0 0 (Deps.mk ([]:List Int) ([]:List Int) ([]:List Int)))]:List Event),([(Event.mk 1 0 1 16 1 0 false false 0 0 0 (Deps.mk ([]:List Int) ([]:List Int) ([]:List Int))),(Event.mk 1 1 6 0 0 0 false false 2 2 0 (Deps.mk ([]:List Int) ([]:List Int) ([]:List Int))),(Event.mk 1 2 1 8 0 0 false false 0 0 0 (Deps.mk ([]:List Int) ([]:List Int) ([]:List Int)))]:List Event)]:List (List Event)) ([(-1),(-1),(-1),2,(-1),(-1)]:List Int) ([2,3,5,0]:List Int)).From).map eI),.sl (((Cand.mk ([]:List Cell) ([([(Event.mk 0 0 2 8 0 1 false false 0 0 0 (Deps.mk ([]:List Int) ([]:List Int) ([]:List Int))),(Event.mk 0 1 6 0 0 0 false false 1 1 0 (Deps.mk ([]:List Int) ([]:List Int) ([]:List Int))),(Event.mk 0 2 2 16 0 1 false false 0 0 0 (Deps.mk ([]:List Int) ([]:List Int) ([]:List Int)))]:List Event),([(Event.mk 1 0 1 16 1 0 false false 0 0 0 (Deps.mk ([]:List Int) ([]:List Int) ([]:List Int))),(Event.mk 1 1 6 0 0 0 false false 2 2 0 (Deps.mk ([]:List Int) ([]:List Int) ([]:List Int))),(Event.mk 1 2 1 8 0 0 false false 0 0 0 (Deps.mk ([]:List Int) ([]:List Int) ([]:List Int)))]:List Event)]:List (List Event)) ([(-1),(-1),(-1),2,(-1),(-1)]:List Int) ([2,3,5,0]:List Int)).Order).map eI)])))) (by kernel_rfl)

def ord11:List (Nat×PT):=[]
theorem ordB11:ordB (polF 11) ord11 (bodyOf Tryd.prog 11)=true:=by kernel_rfl
theorem kit_Own_Cell_sim (n:Nat) (l:(List Cell)) (r:(List Cell)) (h:kit_Own_Cell n l=some r):PCall Tryd.prog 11 [.sl (l.map Cell.enc)] (eqA (.sl (r.map Cell.enc))):=by
 unfold kit_Own_Cell at h
 obtain ⟨h1,h⟩:=grdE h
 obtain rfl:=soI h
 exact kP (nA ord11 [(1,⟨[],[5],[],[],[],[],[],[],[]⟩)]) ordB11 (fun z=>(aI (szM:szOk 2 (l.map Cell.enc)=true) (aI (okM:okRows (l.map Cell.enc)=true) (aI (ble_map h1:Nat.ble ((l.map Cell.enc).length * 16) 140737488355328=true) z)))) (by kernel_rfl)

def ord12:List (Nat×PT):=[]
theorem ordB12:ordB (polF 12) ord12 (bodyOf Tryd.prog 12)=true:=by kernel_rfl
theorem kit_Own_int_sim (n:Nat) (l:(List Int)) (r:(List Int)) (h:kit_Own_int n l=some r):PCall Tryd.prog 12 [.sl (l.map eI)] (eqA (.sl (r.map eI))):=by
 unfold kit_Own_int at h
 obtain ⟨h1,h⟩:=grdE h
 obtain rfl:=soI h
 exact kP (nA ord12 [(1,⟨[],[5],[],[],[],[],[],[],[]⟩)]) ordB12 (fun z=>(aI (szM:szOk 1 (l.map eI)=true) (aI (okM:okRows (l.map eI)=true) (aI (ble_map h1:Nat.ble ((l.map eI).length * 8) 140737488355328=true) z)))) (by kernel_rfl)

def ord31:List (Nat×PT):=[(1,(ptS [0,1,2,3,4,5,6,7,8,9,10]))]
theorem ordB31:ordB (polF 31) ord31 (bodyOf Tryd.prog 31)=true:=by kernel_rfl
theorem kit_OwnDeps_sim (n:Nat) (d:Deps) (r:Deps) (h:kit_OwnDeps n d=some r):PCall Tryd.prog 31 [(aAgg Deps.enc d)] (eqA ((aAgg Deps.enc r))):=by
 unfold kit_OwnDeps at h
 obtain ⟨y1,gy1,h⟩:=bindE h
 obtain ⟨y2,gy2,h⟩:=bindE h
 obtain ⟨y3,gy3,h⟩:=bindE h
 obtain rfl:=soI h
 exact kP (nA ord31 [rVC 1 [] [(5,.sl (y1.map eI)),(8,.sl (y2.map eI)),(11,.sl (y3.map eI))]]) ordB31 (fun z=>(aI (kit_Own_int_sim n d.Addr y1 gy1) (aI (kit_Own_int_sim n d.Data y2 gy2) (aI (kit_Own_int_sim n d.Way y3 gy3) z)))) (by kernel_rfl)

def ord23:List (Nat×PT):=[]
theorem ordB23:ordB (polF 23) ord23 (bodyOf Tryd.prog 23)=true:=by kernel_rfl
theorem kit_OwnEvent_sim (n:Nat) (e:Event) (r:Event) (h:kit_OwnEvent n e=some r):PCall Tryd.prog 23 [(aAgg Event.enc e)] (eqA ((aAgg Event.enc r))):=by
 unfold kit_OwnEvent at h
 obtain ⟨y1,gy1,h⟩:=bindE h
 obtain rfl:=soI h
 exact kP (nA ord23 [rVC 1 [] [(5,(aAgg Deps.enc y1))]]) ordB23 (fun z=>(aI (kit_OwnDeps_sim n e.Deps y1 gy1) z)) (by kernel_rfl)

def ord13:List (Nat×PT):=[]
theorem ordB13:ordB (polF 13) ord13 (bodyOf Tryd.prog 13)=true:=by kernel_rfl
noncomputable def Z0:Code:=sub (bodyOf Tryd.prog 13) [1,1,0,1,0,0]
theorem Z1:ordB (polF 13) ord13 Z0=true:=by kernel_rfl
def Z2 (l:(List Event)) (sa:(List Event)×Int):St:=mkS 20 [(0,.sl (l.map Event.enc)),(3,.mf 0),(4,(vI sa.2))] [] [.arr true 14 (sa.1.map Event.enc)] 0
def Z3 (l:(List Event)) (tt:(List Event)):St:=mkS 20 [(3,.mf 0)] [] [.arr true 14 (tt.map Event.enc)] 0
def Z4 (l:(List Event)) (tt:((List Event))):Ex×St:=(.ex 0,Z3 l tt)
theorem Z5 (n:Nat) (l:(List Event)):∀ sa r,kit_OwnEvents_L1 n l sa=some r→CodeD Tryd.prog Z0 (Z2 l sa) (rk (Z2 l) (Z4 l) r):=by
 intro sa r h
 unfold kit_OwnEvents_L1 at h
 rcases iteN h with ⟨ha1,h⟩ | ⟨ha1,h⟩
 ·
  exact kQ h (nA ord13 [rV 3 [(7,(vI (l.length:Int))),(8,vF)]]) [wK 2 [3] [] 1] Z1 (rkE rfl neE) (fun z=>(aL Event.enc l (aB ha1 z))) (by kernel_rfl)
 obtain ⟨xa2,gxa2,h⟩:=bindE h
 obtain ⟨ya3,gya3,h⟩:=bindE h
 obtain ⟨ha4,h⟩:=grdE h
 exact kQ h (nA ord13 [rV 3 [(7,(vI (l.length:Int))),(8,vT)],(5,⟨[],[18],[(14,(Event.enc xa2))],[],[(16,(aAgg Event.enc ya3))],[],[(18,(0,(sa.1++([ya3]:List Event)).map Event.enc))],[],[]⟩)]) [wK 0 [0,3,4] [] 1] Z1 rkN (fun z=>(aL Event.enc l (aB ha1 (aM Event.enc gxa2 (aI (kit_OwnEvent_sim n xa2 ya3 gya3) (aI (rfl:szOk 14 [(Event.enc ya3)]=true) (aI (rfl:okRows [(Event.enc ya3)]=true) (aI (ble_maps1 ha4:Nat.ble (((sa.1.map Event.enc).length + 1) * 152) 140737488355328=true) (aI (app_map Event.enc sa.1 ([ya3]:List Event)) z))))))))) (by kernel_rfl)

theorem kit_OwnEvents_sim (n:Nat) (l:(List Event)) (r:(List Event)) (h:kit_OwnEvents n l=some r):PCall Tryd.prog 13 [.sl (l.map Event.enc)] (eqA (.sl (r.map Event.enc))):=by
 unfold kit_OwnEvents at h
 obtain ⟨t1,gt1,h⟩:=bindE h
 obtain rfl:=soI h
 exact kP ⟨ord13,[],[],[(3,(⟨[0,3,4],[],0,[(3,14)],[],[]⟩,l0,(.ex 0),Z3 l t1))],[]⟩ ordB13 (fun z=>(aI (okL (pl:=polF 13) (Z2 l) (Z4 l) (Z5 n l) n _ t1 gt1) z)) (by kernel_rfl)

def ord5:List (Nat×PT):=[(1,(ptS [0,1,2,3,4,5,6,7,8,9,10,11])),(5,(ptS [0,1,2,3,4,5,6,7,8,9,10,11]))]
theorem ordB5:ordB (polF 5) ord5 (bodyOf Tryd.prog 5)=true:=by kernel_rfl
noncomputable def Z6:Code:=sub (bodyOf Tryd.prog 5) [1,1,0,1,0,0]
theorem Z7:ordB (polF 5) ord5 Z6=true:=by kernel_rfl
def Z8 (c:Cand) (y1:(List Cell)) (y2:(List Int)) (y3:(List Int)) (sa:(List (List Event))×Int):St:=mkS 34 [(1,.ptr (.L 1) 0 0),(2,.ptr (.L 2) 0 0),(3,.ptr (.L 3) 0 0),(4,(vI sa.2))] [(3,[.sl (y1.map Cell.enc),.mf 0,.sl (y2.map eI),.sl (y3.map eI)]),(2,[.nilsl,.nilsl,.nilsl,.nilsl]),(1,(Cand.enc c))] [.arr true 1 (sa.1.map (eSl Event.enc))] 0
def Z9 (c:Cand) (y1:(List Cell)) (y2:(List Int)) (y3:(List Int)) (tt:(List (List Event))):St:=mkS 34 [(2,.ptr (.L 2) 0 0),(3,.ptr (.L 3) 0 0)] [(3,[.sl (y1.map Cell.enc),.mf 0,.sl (y2.map eI),.sl (y3.map eI)]),(2,[.nilsl,.nilsl,.nilsl,.nilsl])] [.arr true 1 (tt.map (eSl Event.enc))] 0
def Z10 (c:Cand) (y1:(List Cell)) (y2:(List Int)) (y3:(List Int)) (tt:((List (List Event)))):Ex×St:=(.ex 0,Z9 c y1 y2 y3 tt)
theorem Z11 (n:Nat) (c:Cand) (y1:(List Cell)) (y2:(List Int)) (y3:(List Int)):∀ sa r,kit_OwnCand_L1 n c y1 y2 y3 sa=some r→CodeD Tryd.prog Z6 (Z8 c y1 y2 y3 sa) (rk (Z8 c y1 y2 y3) (Z10 c y1 y2 y3) r):=by
 intro sa r h
 unfold kit_OwnCand_L1 at h
 rcases iteN h with ⟨ha1,h⟩ | ⟨ha1,h⟩
 ·
  exact kQ h (nA ord5 [rV 3 [(18,(vI (c.Harts.length:Int))),(19,vF)]]) [wK 2 [2,3] [1] 1] Z7 (rkE rfl neE) (fun z=>(aL (eSl Event.enc) c.Harts (aB ha1 z))) (by kernel_rfl)
 obtain ⟨xa2,gxa2,h⟩:=bindE h
 obtain ⟨ya3,gya3,h⟩:=bindE h
 obtain ⟨ha4,h⟩:=grdE h
 exact kQ h (nA ord5 [rV 3 [(18,(vI (c.Harts.length:Int))),(19,vT)],(5,⟨[],[31],[(27,[.sl (xa2.map Event.enc)])],[],[(29,.sl (ya3.map Event.enc))],[],[(31,(0,(sa.1++([ya3]:List (List Event))).map (eSl Event.enc)))],[],[]⟩)]) [wK 0 [1,2,3,4] [] 1] Z7 rkN (fun z=>(aL (eSl Event.enc) c.Harts (aB ha1 (aM (eSl Event.enc) gxa2 (aI (kit_OwnEvents_sim n xa2 ya3 gya3) (aI (rfl:szOk 1 [[.sl (ya3.map Event.enc)]]=true) (aI (rfl:okRows [[.sl (ya3.map Event.enc)]]=true) (aI (ble_maps1 ha4:Nat.ble (((sa.1.map (eSl Event.enc)).length + 1) * 24) 140737488355328=true) (aI (app_map (eSl Event.enc) sa.1 ([ya3]:List (List Event))) z))))))))) (by kernel_rfl)

theorem kit_OwnCand_sim (n:Nat) (c:Cand) (r:Cand) (h:kit_OwnCand n c=some r):PCall Tryd.prog 5 [(aAgg Cand.enc c)] (eqA ((aAgg Cand.enc r))):=by
 unfold kit_OwnCand at h
 obtain ⟨y1,gy1,h⟩:=bindE h
 obtain ⟨y2,gy2,h⟩:=bindE h
 obtain ⟨y3,gy3,h⟩:=bindE h
 obtain ⟨t4,gt4,h⟩:=bindE h
 obtain rfl:=soI h
 exact kP ⟨ord5,[rVC 1 [] [(7,.sl (y1.map Cell.enc)),(10,.sl (y2.map eI)),(13,.sl (y3.map eI))]],[],[(3,(⟨[1,2,3,4],[],0,[],[(3,1,1)],[]⟩,l0,(.ex 0),Z9 c y1 y2 y3 t4))],[]⟩ ordB5 (fun z=>(aI (kit_Own_Cell_sim n c.First y1 gy1) (aI (kit_Own_int_sim n c.From y2 gy2) (aI (kit_Own_int_sim n c.Order y3 gy3) (aI (okL (pl:=polF 5) (Z8 c y1 y2 y3) (Z10 c y1 y2 y3) (Z11 n c y1 y2 y3) n _ t4 gt4) z))))) (by kernel_rfl)

def ord32:List (Nat×PT):=[(4,(ptS [0,1,2,3,4,5,6,7,8,9,10,11,12,13,14,15,16,17,18]))]
theorem ordB32:ordB (polF 32) ord32 (bodyOf Tryd.prog 32)=true:=by kernel_rfl
noncomputable def Z12:Code:=sub (bodyOf Tryd.prog 32) [1,0,1,0,0]
theorem Z13:ordB (polF 32) ord32 Z12=true:=by kernel_rfl
def Z14 (l:(List Cell)) (sa:Int):St:=mkS 32 [(0,.sl (l.map Cell.enc)),(5,.sl (l.map Cell.enc)),(6,(vI (l.length:Int))),(7,(vI sa))] [] [] 0
def Z15 (l:(List Cell)) (tt:Unit):St:=mkS 32 [] [] [] 0
def Z16 (l:(List Cell)) (tt:Unit):St:=mkS 32 [(2,vF)] [] [] 0
def Z17 (l:(List Cell)) (t0:(Unit⊕Unit)):Ex×St:=match t0 with | .inl tt=>(.ex 0,Z15 l tt) | .inr tt=>(.ret,Z16 l tt)
theorem Z18 (n:Nat) (l:(List Cell)):∀ sa r,cand_cells_L1 n l sa=some r→CodeD Tryd.prog Z12 (Z14 l sa) (rk (Z14 l) (Z17 l) r):=by
 intro sa r h
 unfold cand_cells_L1 at h
 rcases iteN h with ⟨ha1,h⟩ | ⟨ha1,h⟩
 ·
  exact kQ h (nA ord32 [rV 2 [(8,vF)]]) [wK 2 [] [] 0] Z13 (rkE rfl neE) (fun z=>(aB ha1 z)) (by kernel_rfl)
 obtain ⟨xa2,gxa2,h⟩:=bindE h
 have c1_:=fun (R:Prop) (z:R)=>(aB ha1 (aM Cell.enc gxa2 z))
 rcases iteE h with ⟨ha3,h⟩ | ⟨ha3,h⟩
 ·
  exact kQ h (nA ord32 [rV 2 [(8,vT)],rR 3 [(10,(Cell.enc xa2))],rV 4 [(16,vT)]]) [wK 1 [2] [4] 0] Z13 (rkE rfl neR) (fun z=>(c1_ _ (aB ha3 z))) (by kernel_rfl)
 rcases iteN h with ⟨ha4,h⟩ | ⟨ha4,h⟩
 ·
  exact kQ h (nA ord32 [rV 2 [(8,vT)],rR 3 [(10,(Cell.enc xa2))],rV 4 [(16,vF),(19,vF)]]) [wK 0 [0,5,6,7] [4] 0] Z13 rkN (fun z=>(c1_ _ (aB ha3 (aB ha4 z)))) (by kernel_rfl)
 obtain ⟨xa5,gxa5,h⟩:=bindE h
 have c2_:=fun (R:Prop) (z:R)=>(aB ha3 (aB ha4 (aM Cell.enc gxa5 z)))
 rcases iteE h with ⟨ha6,h⟩ | ⟨ha6,h⟩
 ·
  exact kQ h (nA ord32 [rV 2 [(8,vT)],rR 3 [(10,(Cell.enc xa2))],(4,⟨[],[],[(23,(Cell.enc xa5))],[(16,vF),(19,vT),(30,vT)],[],[],[],[],[]⟩)]) [wK 1 [2] [4] 0] Z13 (rkE rfl neR) (fun z=>(c1_ _ (c2_ _ (aB ha6 z)))) (by kernel_rfl)
 exact kQ h (nA ord32 [rV 2 [(8,vT)],rR 3 [(10,(Cell.enc xa2))],(4,⟨[],[],[(23,(Cell.enc xa5))],[(16,vF),(19,vT),(30,vF)],[],[],[],[],[]⟩)]) [wK 0 [0,5,6,7] [4] 0] Z13 rkN (fun z=>(c1_ _ (c2_ _ (aB ha6 z)))) (by kernel_rfl)

theorem cand_cells_sim (n:Nat) (l:(List Cell)) (r:Bool) (h:cand_cells n l=some r):PCall Tryd.prog 32 [.sl (l.map Cell.enc)] (eqA (.v (.bool r))):=by
 unfold cand_cells at h
 obtain ⟨t1,gt1,h⟩:=bindE h
 rcases t1 with w2 | w2
 ·
  obtain rfl:=soI h
  exact kP ⟨ord32,[rV 1 [(6,(vI (l.length:Int)))]],[],[(2,(⟨[0,5,6,7],[],0,[],[],[]⟩,l0,(.ex 0),Z15 l w2))],[]⟩ ordB32 (fun z=>(aL Cell.enc l (aI (okL (pl:=polF 32) (Z14 l) (Z17 l) (Z18 n l) n _ (.inl w2) gt1) z))) (by kernel_rfl)
 ·
  obtain rfl:=soI h
  exact kP ⟨ord32,[rV 1 [(6,(vI (l.length:Int)))]],[],[(2,(⟨[0,5,6,7],[],0,[],[],[]⟩,l0,.ret,Z16 l w2))],[]⟩ ordB32 (fun z=>(aL Cell.enc l (aI (okL (pl:=polF 32) (Z14 l) (Z17 l) (Z18 n l) n _ (.inr w2) gt1) z))) (by kernel_rfl)

def ord29:List (Nat×PT):=[]
theorem ordB29:ordB (polF 29) ord29 (bodyOf Tryd.prog 29)=true:=by kernel_rfl
theorem event_has_sim (n:Nat) (kind:Int) (r:Int) (h:event_has n kind=some r):PCall Tryd.prog 29 [(vI kind)] (eqA ((vU r))):=by
 unfold event_has at h
 rcases iteE h with ⟨h1,h⟩ | ⟨h1,h⟩
 ·
  obtain rfl:=soI h
  exact kP (nA ord29 [rV 1 [(5,vT)]]) ordB29 (fun z=>(aB h1 z)) (by kernel_rfl)
 rcases iteE h with ⟨h2,h⟩ | ⟨h2,h⟩
 ·
  obtain rfl:=soI h
  exact kP (nA ord29 [rV 1 [(5,vF),(8,vT)]]) ordB29 (fun z=>(aB h1 (aB h2 z))) (by kernel_rfl)
 have c3_:=fun (R:Prop) (z:R)=>(aB h1 (aB h2 z))
 rcases iteE h with ⟨h3,h⟩ | ⟨h3,h⟩
 ·
  obtain rfl:=soI h
  exact kP (nA ord29 [rV 1 [(5,vF),(8,vF)],rV 3 [(10,(vI 0))]]) ordB29 (fun z=>(c3_ _ (aE .i64 h3 z))) (by kernel_rfl)
 rcases iteE h with ⟨h3,h⟩ | ⟨h3,h⟩
 ·
  obtain rfl:=soI h
  exact kP (nA ord29 [rV 1 [(5,vF),(8,vF)],rV 3 [(10,(vI 1))]]) ordB29 (fun z=>(c3_ _ (aE .i64 h3 z))) (by kernel_rfl)
 rcases iteE h with ⟨h3,h⟩ | ⟨h3,h⟩
 ·
  obtain rfl:=soI h
  exact kP (nA ord29 [rV 1 [(5,vF),(8,vF)],rV 3 [(10,(vI 2))]]) ordB29 (fun z=>(c3_ _ (aE .i64 h3 z))) (by kernel_rfl)
 rcases iteE h with ⟨h3,h⟩ | ⟨h3,h⟩
 ·
  obtain rfl:=soI h
  exact kP (nA ord29 [rV 1 [(5,vF),(8,vF)],rV 3 [(10,(vI 3))]]) ordB29 (fun z=>(c3_ _ (aE .i64 h3 z))) (by kernel_rfl)
 rcases iteE h with ⟨h3,h⟩ | ⟨h3,h⟩
 ·
  obtain rfl:=soI h
  exact kP (nA ord29 [rV 1 [(5,vF),(8,vF)],rV 3 [(10,(vI 4))]]) ordB29 (fun z=>(c3_ _ (aE .i64 h3 z))) (by kernel_rfl)
 rcases iteE h with ⟨h3,h⟩ | ⟨h3,h⟩
 ·
  obtain rfl:=soI h
  exact kP (nA ord29 [rV 1 [(5,vF),(8,vF)],rV 3 [(10,(vI 5))]]) ordB29 (fun z=>(c3_ _ (aE .i64 h3 z))) (by kernel_rfl)
 rcases iteE h with ⟨h3,h⟩ | ⟨h3,h⟩
 ·
  obtain rfl:=soI h
  exact kP (nA ord29 [rV 1 [(5,vF),(8,vF)],rV 3 [(10,(vI 6))]]) ordB29 (fun z=>(c3_ _ (aE .i64 h3 z))) (by kernel_rfl)
 cases h

def ord84:List (Nat×PT):=[(6,(ptS [0,1,2,3,4,5,6,7,8]))]
theorem ordB84:ordB (polF 84) ord84 (bodyOf Tryd.prog 84)=true:=by kernel_rfl
noncomputable def Z19:Code:=sub (bodyOf Tryd.prog 84) [1,1,0,1,0,0]
theorem Z20:ordB (polF 84) ord84 Z19=true:=by kernel_rfl
def Z21 (s1_:(List Int)) (s2_:(List Int)) (sa:Int):St:=mkS 26 [(0,.sl (s1_.map eI)),(1,.sl (s2_.map eI)),(12,(vI (s1_.length:Int))),(13,(vI sa))] [] [] 0
def Z22 (s1_:(List Int)) (s2_:(List Int)) (tt:Unit):St:=mkS 26 [] [] [] 0
def Z23 (s1_:(List Int)) (s2_:(List Int)) (tt:Unit):St:=mkS 26 [(4,vF)] [] [] 0
def Z24 (s1_:(List Int)) (s2_:(List Int)) (t0:(Unit⊕Unit)):Ex×St:=match t0 with | .inl tt=>(.ex 0,Z22 s1_ s2_ tt) | .inr tt=>(.ret,Z23 s1_ s2_ tt)
theorem Z25 (n:Nat) (s1_:(List Int)) (s2_:(List Int)):∀ sa r,slices_Equal_int_int_L1 n s1_ s2_ sa=some r→CodeD Tryd.prog Z19 (Z21 s1_ s2_ sa) (rk (Z21 s1_ s2_) (Z24 s1_ s2_) r):=by
 intro sa r h
 unfold slices_Equal_int_int_L1 at h
 rcases iteN h with ⟨ha1,h⟩ | ⟨ha1,h⟩
 ·
  exact kQ h (nA ord84 [rV 4 [(14,vF)]]) [wK 2 [] [] 0] Z20 (rkE rfl neE) (fun z=>(aB ha1 z)) (by kernel_rfl)
 obtain ⟨xa2,gxa2,h⟩:=bindE h
 obtain ⟨xa3,gxa3,h⟩:=bindE h
 have c4_:=fun (R:Prop) (z:R)=>(aB ha1 (aM eI gxa2 (aM eI gxa3 z)))
 rcases iteE h with ⟨ha4,h⟩ | ⟨ha4,h⟩
 ·
  exact kQ h (nA ord84 [rV 4 [(14,vT)],(6,⟨[],[],[(18,[(vI xa2)]),(22,[(vI xa3)])],[(24,vT)],[],[],[],[],[]⟩)]) [wK 1 [4] [] 0] Z20 (rkE rfl neR) (fun z=>(c4_ _ (aB ha4 z))) (by kernel_rfl)
 exact kQ h (nA ord84 [rV 4 [(14,vT)],(6,⟨[],[],[(18,[(vI xa2)]),(22,[(vI xa3)])],[(24,vF)],[],[],[],[],[]⟩)]) [wK 0 [0,1,12,13] [] 0] Z20 rkN (fun z=>(c4_ _ (aB ha4 z))) (by kernel_rfl)

theorem slices_Equal_int_int_sim (n:Nat) (s1_:(List Int)) (s2_:(List Int)) (r:Bool) (h:slices_Equal_int_int n s1_ s2_=some r):PCall Tryd.prog 84 [.sl (s1_.map eI),.sl (s2_.map eI)] (eqA (.v (.bool r))):=by
 unfold slices_Equal_int_int at h
 rcases iteE h with ⟨h1,h⟩ | ⟨h1,h⟩
 ·
  obtain rfl:=soI h
  exact kP (nA ord84 [rV 1 [(7,(vI (s1_.length:Int))),(9,(vI (s2_.length:Int))),(10,vT)]]) ordB84 (fun z=>(aL eI s1_ (aL eI s2_ (aB h1 z)))) (by kernel_rfl)
 obtain ⟨t2,gt2,h⟩:=bindE h
 have d0_:AV.v (.int .i64 (((s1_.map eI).length:Nat):Int))=AV.v (.int .i64 (s1_.length:Int)):=len_map _ _
 have c5_:=fun (R:Prop) (z:R)=>(aI d0_ (aL eI s2_ (aB h1 (aI d0_ z))))
 rcases t2 with w3 | w3
 ·
  obtain rfl:=soI h
  exact kP ⟨ord84,[rV 1 [(7,(vI (s1_.length:Int))),(9,(vI (s2_.length:Int))),(10,vF)],rV 3 [(12,(vI (s1_.length:Int)))]],[],[(4,(⟨[0,1,12,13],[],0,[],[],[]⟩,l0,(.ex 0),Z22 s1_ s2_ w3))],[]⟩ ordB84 (fun z=>(c5_ _ (aI (okL (pl:=polF 84) (Z21 s1_ s2_) (Z24 s1_ s2_) (Z25 n s1_ s2_) n _ (.inl w3) gt2) z))) (by kernel_rfl)
 ·
  obtain rfl:=soI h
  exact kP ⟨ord84,[rV 1 [(7,(vI (s1_.length:Int))),(9,(vI (s2_.length:Int))),(10,vF)],rV 3 [(12,(vI (s1_.length:Int)))]],[],[(4,(⟨[0,1,12,13],[],0,[],[],[]⟩,l0,.ret,Z23 s1_ s2_ w3))],[]⟩ ordB84 (fun z=>(c5_ _ (aI (okL (pl:=polF 84) (Z21 s1_ s2_) (Z24 s1_ s2_) (Z25 n s1_ s2_) n _ (.inr w3) gt2) z))) (by kernel_rfl)

def ord85:List (Nat×PT):=[]
theorem ordB85:ordB (polF 85) ord85 (bodyOf Tryd.prog 85)=true:=by kernel_rfl
theorem event_Same_1_sim (n:Nat) (e:Event) (r:event_rest) (h:event_Same_1 n e=some r):PCall Tryd.prog 85 [(aAgg Event.enc e)] (eqA ((aAgg event_rest.enc r))):=by
 unfold event_Same_1 at h
 obtain rfl:=soI h
 exact kP (nA ord85 []) ordB85 (fun z=>z) (by kernel_rfl)

def ord54:List (Nat×PT):=[(1,(ptS [0,1,2,3,4,5,6,7])),(5,(ptS [0,1,2,3,4,5,6,7]))]
theorem ordB54:ordB (polF 54) ord54 (bodyOf Tryd.prog 54)=true:=by kernel_rfl
theorem event_Same_sim (n:Nat) (a:Event) (b:Event) (r:Bool) (h:event_Same n a b=some r):PCall Tryd.prog 54 [(aAgg Event.enc a),(aAgg Event.enc b)] (eqA (.v (.bool r))):=by
 unfold event_Same at h
 obtain ⟨y1,gy1,h⟩:=bindE h
 have c6_:=fun (R:Prop) (z:R)=>(aI (slices_Equal_int_int_sim n a.Deps.Addr b.Deps.Addr y1 gy1) z)
 rcases iteE h with ⟨h2,h⟩ | ⟨h2,h⟩
 ·
  obtain rfl:=soI h
  exact kP (nA ord54 [rVC 2 [(18,vT)] [(16,.v (.bool y1))]]) ordB54 (fun z=>(c6_ _ (aB h2 z))) (by kernel_rfl)
 obtain ⟨y3,gy3,h⟩:=bindE h
 have c7_:=fun (R:Prop) (z:R)=>(aB h2 (aI (slices_Equal_int_int_sim n a.Deps.Data b.Deps.Data y3 gy3) z))
 rcases iteE h with ⟨h4,h⟩ | ⟨h4,h⟩
 ·
  obtain rfl:=soI h
  exact kP (nA ord54 [rVC 2 [(18,vF),(26,vT)] [(16,.v (.bool y1)),(23,.v (.bool y3))]]) ordB54 (fun z=>(c6_ _ (c7_ _ (aB h4 z)))) (by kernel_rfl)
 obtain ⟨y5,gy5,h⟩:=bindE h
 have c8_:=fun (R:Prop) (z:R)=>(aB h4 (aI (slices_Equal_int_int_sim n a.Deps.Way b.Deps.Way y5 gy5) z))
 rcases iteE h with ⟨h6,h⟩ | ⟨h6,h⟩
 ·
  obtain rfl:=soI h
  exact kP (nA ord54 [rVC 2 [(18,vF),(26,vF),(33,vT)] [(16,.v (.bool y1)),(23,.v (.bool y3)),(31,.v (.bool y5))]]) ordB54 (fun z=>(c6_ _ (c7_ _ (c8_ _ (aB h6 z))))) (by kernel_rfl)
 obtain ⟨y7,gy7,h⟩:=bindE h
 obtain ⟨y8,gy8,h⟩:=bindE h
 have c9_:=fun (R:Prop) (z:R)=>(aB h6 (aI (event_Same_1_sim n a y7 gy7) (aI (event_Same_1_sim n b y8 gy8) z)))
 rcases iteE h with ⟨h9,h⟩ | ⟨h9,h⟩
 ·
  obtain rfl:=soI h
  exact kP (nA ord54 [rVC 2 [(18,vF),(26,vF),(33,vF)] [(16,.v (.bool y1)),(23,.v (.bool y3)),(31,.v (.bool y5))],(5,⟨[],[40],[],[(40,vT)],[(36,(aAgg event_rest.enc y7)),(39,(aAgg event_rest.enc y8))],[],[],[],[]⟩)]) ordB54 (fun z=>(c6_ _ (c7_ _ (c8_ _ (c9_ _ (aI ((aggEq_event_rest_eql y7 y8).trans (congrArg (fun b=>some (Value.bool b)) h9):aggEq Tryd.prog .eql 124 [(.int .i64 y7.hart),(.int .i64 y7.at_),(.int .i64 y7.kind),(.int .i64 y7.pred),(.int .i64 y7.succ),(.int .i64 y7.pair),(.int .u64 y7.addr),(.int .u64 y7.load),(.int .u64 y7.store),(.bool y7.aq),(.bool y7.rl)] [(.int .i64 y8.hart),(.int .i64 y8.at_),(.int .i64 y8.kind),(.int .i64 y8.pred),(.int .i64 y8.succ),(.int .i64 y8.pair),(.int .u64 y8.addr),(.int .u64 y8.load),(.int .u64 y8.store),(.bool y8.aq),(.bool y8.rl)]=some (.bool true)) (aI (rfl:AV.v (.bool true)=AV.v (.bool true)) z))))))) (by kernel_rfl)
 obtain rfl:=soI h
 exact kP (nA ord54 [rVC 2 [(18,vF),(26,vF),(33,vF)] [(16,.v (.bool y1)),(23,.v (.bool y3)),(31,.v (.bool y5))],(5,⟨[],[40],[],[(40,vF)],[(36,(aAgg event_rest.enc y7)),(39,(aAgg event_rest.enc y8))],[],[],[],[]⟩)]) ordB54 (fun z=>(c6_ _ (c7_ _ (c8_ _ (c9_ _ (aI ((aggEq_event_rest_eql y7 y8).trans (congrArg (fun b=>some (Value.bool b)) h9):aggEq Tryd.prog .eql 124 [(.int .i64 y7.hart),(.int .i64 y7.at_),(.int .i64 y7.kind),(.int .i64 y7.pred),(.int .i64 y7.succ),(.int .i64 y7.pair),(.int .u64 y7.addr),(.int .u64 y7.load),(.int .u64 y7.store),(.bool y7.aq),(.bool y7.rl)] [(.int .i64 y8.hart),(.int .i64 y8.at_),(.int .i64 y8.kind),(.int .i64 y8.pred),(.int .i64 y8.succ),(.int .i64 y8.pair),(.int .u64 y8.addr),(.int .u64 y8.load),(.int .u64 y8.store),(.bool y8.aq),(.bool y8.rl)]=some (.bool false)) (aI (rfl:AV.v (.bool false)=AV.v (.bool false)) z))))))) (by kernel_rfl)

def ord86:List (Nat×PT):=[]
theorem ordB86:ordB (polF 86) ord86 (bodyOf Tryd.prog 86)=true:=by kernel_rfl
noncomputable def Z26:Code:=sub (bodyOf Tryd.prog 86) [1,1,0,1,0,0]
theorem Z27:ordB (polF 86) ord86 Z26=true:=by kernel_rfl
def Z28 (l:(List Int)) (sa:Int×Int):St:=mkS 17 [(3,(vI sa.1)),(6,.sl (l.map eI)),(7,(vI (l.length:Int))),(8,(vI sa.2))] [] [] 0
def Z29 (l:(List Int)) (tt:Unit):St:=mkS 17 [] [] [] 0
def Z30 (l:(List Int)) (tt:Unit):St:=mkS 17 [(2,vF)] [] [] 0
def Z31 (l:(List Int)) (t0:(Unit⊕Unit)):Ex×St:=match t0 with | .inl tt=>(.ex 0,Z29 l tt) | .inr tt=>(.ret,Z30 l tt)
theorem Z32 (n:Nat) (l:(List Int)):∀ sa r,taint_Rising_L1 n l sa=some r→CodeD Tryd.prog Z26 (Z28 l sa) (rk (Z28 l) (Z31 l) r):=by
 intro sa r h
 unfold taint_Rising_L1 at h
 rcases iteN h with ⟨ha1,h⟩ | ⟨ha1,h⟩
 ·
  exact kQ h (nA ord86 [rV 3 [(9,vF)]]) [wK 2 [] [] 0] Z27 (rkE rfl neE) (fun z=>(aB ha1 z)) (by kernel_rfl)
 obtain ⟨xa2,gxa2,h⟩:=bindE h
 have c10_:=fun (R:Prop) (z:R)=>(aB ha1 (aM eI gxa2 z))
 rcases iteE h with ⟨ha3,h⟩ | ⟨ha3,h⟩
 ·
  exact kQ h (nA ord86 [rV 3 [(9,vT)],rR 4 [(10,[(vI xa2)])],rV 5 [(14,vT)]]) [wK 1 [2] [] 0] Z27 (rkE rfl neR) (fun z=>(c10_ _ (aB ha3 z))) (by kernel_rfl)
 exact kQ h (nA ord86 [rV 3 [(9,vT)],rR 4 [(10,[(vI xa2)])],rV 5 [(14,vF)]]) [wK 0 [3,6,7,8] [] 0] Z27 rkN (fun z=>(c10_ _ (aB ha3 z))) (by kernel_rfl)

theorem taint_Rising_sim (n:Nat) (l:(List Int)) (r:Bool) (h:taint_Rising n l=some r):PCall Tryd.prog 86 [.sl (l.map eI)] (eqA (.v (.bool r))):=by
 unfold taint_Rising at h
 obtain ⟨t1,gt1,h⟩:=bindE h
 rcases t1 with w2 | w2
 ·
  obtain rfl:=soI h
  exact kP ⟨ord86,[rV 2 [(7,(vI (l.length:Int)))]],[],[(3,(⟨[3,6,7,8],[],0,[],[],[]⟩,l0,(.ex 0),Z29 l w2))],[]⟩ ordB86 (fun z=>(aL eI l (aI (okL (pl:=polF 86) (Z28 l) (Z31 l) (Z32 n l) n _ (.inl w2) gt1) z))) (by kernel_rfl)
 ·
  obtain rfl:=soI h
  exact kP ⟨ord86,[rV 2 [(7,(vI (l.length:Int)))]],[],[(3,(⟨[3,6,7,8],[],0,[],[],[]⟩,l0,.ret,Z30 l w2))],[]⟩ ordB86 (fun z=>(aL eI l (aI (okL (pl:=polF 86) (Z28 l) (Z31 l) (Z32 n l) n _ (.inr w2) gt1) z))) (by kernel_rfl)

def ord55:List (Nat×PT):=[]
theorem ordB55:ordB (polF 55) ord55 (bodyOf Tryd.prog 55)=true:=by kernel_rfl
theorem event_below_sim (n:Nat) (l:(List Int)) (at_:Int) (r:Bool) (h:event_below n l at_=some r):PCall Tryd.prog 55 [.sl (l.map eI),(vI at_)] (eqA (.v (.bool r))):=by
 unfold event_below at h
 obtain ⟨y1,gy1,h⟩:=bindE h
 have c11_:=fun (R:Prop) (z:R)=>(aI (taint_Rising_sim n l y1 gy1) z)
 rcases iteN h with ⟨h2,h⟩ | ⟨h2,h⟩
 ·
  obtain rfl:=soI h
  exact kP (nA ord55 [rVC 1 [(7,vF)] [(6,.v (.bool y1))]]) ordB55 (fun z=>(c11_ _ (aB h2 z))) (by kernel_rfl)
 have c12_:=fun (R:Prop) (z:R)=>(aB h2 (aL eI l z))
 rcases iteE h with ⟨h3,h⟩ | ⟨h3,h⟩
 ·
  obtain rfl:=soI h
  exact kP (nA ord55 [rVC 1 [(7,vT),(9,(vI (l.length:Int))),(11,vT)] [(6,.v (.bool y1))]]) ordB55 (fun z=>(c11_ _ (c12_ _ (aB h3 z)))) (by kernel_rfl)
 obtain ⟨x4,gx4,h⟩:=bindE h
 obtain rfl:=soI h
 exact kP (nA ord55 [(1,⟨[],[],[(16,[(vI x4)])],[(7,vT),(9,(vI (l.length:Int))),(11,vF),(14,(vI (l.length:Int)))],[(6,.v (.bool y1))],[],[],[],[]⟩)]) ordB55 (fun z=>(c11_ _ (c12_ _ (aB h3 (aL eI l (aM eI gx4 z)))))) (by kernel_rfl)

def ord42:List (Nat×PT):=[(5,(ptS [0,1,2,3,4,5,6,7])),(6,(ptS [0,1,2,3,4,5,6,7,8,9,10])),(10,(ptS [0,1,2,3,4,5,6,7,8])),(12,(ptS [0,1,2,3,4,5,6,7]))]
theorem ordB42:ordB (polF 42) ord42 (bodyOf Tryd.prog 42)=true:=by kernel_rfl
noncomputable def Z33:Code:=sub (bodyOf Tryd.prog 42) [1,1,1,1,1]
noncomputable def Z34:Code:=sub Z33 [1]
noncomputable def Z35:Code:=sub Z34 [1]
noncomputable def Z36:Code:=sub Z35 [1]
noncomputable def Z37:Code:=sub Z36 [1]
theorem Z38:ordB (polF 42) ord42 Z37=true:=by kernel_rfl
def Z39 (e:Event) (y1:Int) (sf:Int×(List Int)×(List Int)×(List Int)×Int×Int×Int×Bool×Bool×Int×Int):St:=mkS 134 [(1,.ptr (.L 1) 0 0),(3,(vU y1)),(4,.ptr (.L 4) 0 0),(5,.ptr (.L 5) 0 0)] [(5,[(vI e.Hart),(vI e.At),(vI e.Kind),(vU sf.2.2.2.2.1),(vU sf.2.2.2.2.2.1),(vU sf.2.2.2.2.2.2.1),.v (.bool sf.2.2.2.2.2.2.2.1),.v (.bool sf.2.2.2.2.2.2.2.2.1),(vI sf.2.2.2.2.2.2.2.2.2.1),(vI sf.2.2.2.2.2.2.2.2.2.2),(vI sf.1),.sl (sf.2.1.map eI),.sl (sf.2.2.1.map eI),.sl (sf.2.2.2.1.map eI)]),(4,(Deps.enc e.Deps)),(1,(Event.enc e))] [] 0
def Z40 (e:Event) (y1:Int) (tt:Int):St:=mkS 134 [(2,(vI tt))] [] [] 0
def Z41 (e:Event) (y1:Int) (tt:Int):Ex×St:=(.ret,Z40 e y1 tt)
theorem Z42 (n:Nat) (e:Event) (y1:Int):∀ sf t,event_Check_C5 n e y1 sf=some t→CodeD Tryd.prog Z37 (Z39 e y1 sf) (pk (Z41 e y1) t):=by
 intro sf t h
 unfold event_Check_C5 at h
 rcases iteE h with ⟨hf1,h⟩ | ⟨hf1,h⟩
 ·
  exact kQ h (nA ord42 [rV 15 [(67,vT)]]) [wK 1 [2] [5,4,1] 0] Z38 (pkE rfl) (fun z=>(aB hf1 z)) (by kernel_rfl)
 rcases iteE h with ⟨hf2,h⟩ | ⟨hf2,h⟩
 ·
  exact kQ h (nA ord42 [rV 15 [(67,vF)],rV 16 [(67,vT)]]) [wK 1 [2] [5,4,1] 0] Z38 (pkE rfl) (fun z=>(aB hf1 (aB hf2 z))) (by kernel_rfl)
 have c13_:=fun (R:Prop) (z:R)=>(aB hf1 (aB hf2 z))
 rcases iteE h with ⟨hf3,h⟩ | ⟨hf3,h⟩
 ·
  exact kQ h (nA ord42 [rV 15 [(67,vF)],rV 16 [(67,vF)],rV 17 [(67,vT)]]) [wK 1 [2] [5,4,1] 0] Z38 (pkE rfl) (fun z=>(c13_ _ (aB hf3 z))) (by kernel_rfl)
 rcases iteE h with ⟨hf4,h⟩ | ⟨hf4,h⟩
 ·
  exact kQ h (nA ord42 [rV 15 [(67,vF)],rV 16 [(67,vF)],rV 17 [(67,vF)],rV 18 [(67,vT)]]) [wK 1 [2] [5,4,1] 0] Z38 (pkE rfl) (fun z=>(c13_ _ (aB hf3 (aB hf4 z)))) (by kernel_rfl)
 obtain ⟨yf5,gyf5,h⟩:=bindE h
 have c14_:=fun (R:Prop) (z:R)=>(aB hf3 (aB hf4 (aI (event_Same_sim n (Event.mk e.Hart e.At e.Kind sf.2.2.2.2.1 sf.2.2.2.2.2.1 sf.2.2.2.2.2.2.1 sf.2.2.2.2.2.2.2.1 sf.2.2.2.2.2.2.2.2.1 sf.2.2.2.2.2.2.2.2.2.1 sf.2.2.2.2.2.2.2.2.2.2 sf.1 (Deps.mk sf.2.1 sf.2.2.1 sf.2.2.2.1)) e yf5 gyf5) z)))
 rcases iteE h with ⟨hf6,h⟩ | ⟨hf6,h⟩
 ·
  exact kQ h (nA ord42 [rV 15 [(67,vF)],rV 16 [(67,vF)],rV 17 [(67,vF)],rV 18 [(67,vF)],rVC 19 [(67,vT)] [(81,.v (.bool yf5))]]) [wK 1 [2] [5,4,1] 0] Z38 (pkE rfl) (fun z=>(c13_ _ (c14_ _ (aB hf6 z)))) (by kernel_rfl)
 rcases iteE h with ⟨hf7,h⟩ | ⟨hf7,h⟩
 ·
  exact kQ h (nA ord42 [rV 15 [(67,vF)],rV 16 [(67,vF)],rV 17 [(67,vF)],rV 18 [(67,vF)],rVC 19 [(67,vF)] [(81,.v (.bool yf5))],rV 21 [(83,vT)]]) [wK 1 [2] [5,4,1] 0] Z38 (pkE rfl) (fun z=>(c13_ _ (c14_ _ (aB hf6 (aB hf7 z))))) (by kernel_rfl)
 have c15_:=fun (R:Prop) (z:R)=>(aB hf6 (aB hf7 z))
 rcases iteE h with ⟨hf8,h⟩ | ⟨hf8,h⟩
 ·
  exact kQ h (nA ord42 [rV 15 [(67,vF)],rV 16 [(67,vF)],rV 17 [(67,vF)],rV 18 [(67,vF)],rVC 19 [(67,vF)] [(81,.v (.bool yf5))],rV 21 [(83,vF)],rV 22 [(83,vT)]]) [wK 1 [2] [5,4,1] 0] Z38 (pkE rfl) (fun z=>(c13_ _ (c14_ _ (c15_ _ (aB hf8 z))))) (by kernel_rfl)
 rcases iteE h with ⟨hf9,h⟩ | ⟨hf9,h⟩
 ·
  exact kQ h (nA ord42 [rV 15 [(67,vF)],rV 16 [(67,vF)],rV 17 [(67,vF)],rV 18 [(67,vF)],rVC 19 [(67,vF)] [(81,.v (.bool yf5))],rV 21 [(83,vF)],rV 22 [(83,vF)],rV 23 [(83,vT)]]) [wK 1 [2] [5,4,1] 0] Z38 (pkE rfl) (fun z=>(c13_ _ (c14_ _ (c15_ _ (aB hf8 (aB hf9 z)))))) (by kernel_rfl)
 have c16_:=fun (R:Prop) (z:R)=>(aB hf8 (aB hf9 z))
 rcases iteE h with ⟨hf10,h⟩ | ⟨hf10,h⟩
 ·
  exact kQ h (nA ord42 [rV 15 [(67,vF)],rV 16 [(67,vF)],rV 17 [(67,vF)],rV 18 [(67,vF)],rVC 19 [(67,vF)] [(81,.v (.bool yf5))],rV 21 [(83,vF)],rV 22 [(83,vF)],rV 23 [(83,vF)],rV 24 [(83,vT)]]) [wK 1 [2] [5,4,1] 0] Z38 (pkE rfl) (fun z=>(c13_ _ (c14_ _ (c15_ _ (c16_ _ (aB hf10 z)))))) (by kernel_rfl)
 rcases iteE h with ⟨hf11,h⟩ | ⟨hf11,h⟩
 ·
  exact kQ h (nA ord42 [rV 15 [(67,vF)],rV 16 [(67,vF)],rV 17 [(67,vF)],rV 18 [(67,vF)],rVC 19 [(67,vF)] [(81,.v (.bool yf5))],rV 21 [(83,vF)],rV 22 [(83,vF)],rV 23 [(83,vF)],rV 24 [(83,vF)],rV 25 [(83,vT)]]) [wK 1 [2] [5,4,1] 0] Z38 (pkE rfl) (fun z=>(c13_ _ (c14_ _ (c15_ _ (c16_ _ (aB hf10 (aB hf11 z))))))) (by kernel_rfl)
 have c17_:=fun (R:Prop) (z:R)=>(aB hf10 (aB hf11 z))
 rcases iteN h with ⟨hf12,h⟩ | ⟨hf12,h⟩
 ·
  obtain ⟨yf13,gyf13,h⟩:=bindE h
  have c22_:=fun (R:Prop) (z:R)=>(aB hf12 (aI (event_below_sim n e.Deps.Addr e.At yf13 gyf13) z))
  rcases iteE h with ⟨hf14,h⟩ | ⟨hf14,h⟩
  ·
   exact kQ h (nA ord42 [rV 15 [(67,vF)],rV 16 [(67,vF)],rV 17 [(67,vF)],rV 18 [(67,vF)],rVC 19 [(67,vF)] [(81,.v (.bool yf5))],rV 21 [(83,vF)],rV 22 [(83,vF)],rV 23 [(83,vF)],rV 24 [(83,vF)],rV 25 [(83,vF)],rV 27 [(104,vF)],rVC 28 [(100,vT)] [(120,.v (.bool yf13))]]) [wK 1 [2] [5,4,1] 0] Z38 (pkE rfl) (fun z=>(c13_ _ (c14_ _ (c15_ _ (c16_ _ (c17_ _ (c22_ _ (aB hf14 z)))))))) (by kernel_rfl)
  obtain ⟨yf15,gyf15,h⟩:=bindE h
  have c23_:=fun (R:Prop) (z:R)=>(aB hf14 (aI (event_below_sim n e.Deps.Data e.At yf15 gyf15) z))
  rcases iteE h with ⟨hf16,h⟩ | ⟨hf16,h⟩
  ·
   exact kQ h (nA ord42 [rV 15 [(67,vF)],rV 16 [(67,vF)],rV 17 [(67,vF)],rV 18 [(67,vF)],rVC 19 [(67,vF)] [(81,.v (.bool yf5))],rV 21 [(83,vF)],rV 22 [(83,vF)],rV 23 [(83,vF)],rV 24 [(83,vF)],rV 25 [(83,vF)],rV 27 [(104,vF)],rVC 28 [(100,vF)] [(120,.v (.bool yf13))],rVC 29 [(100,vT)] [(126,.v (.bool yf15))]]) [wK 1 [2] [5,4,1] 0] Z38 (pkE rfl) (fun z=>(c13_ _ (c14_ _ (c15_ _ (c16_ _ (c17_ _ (c22_ _ (c23_ _ (aB hf16 z))))))))) (by kernel_rfl)
  obtain ⟨yf17,gyf17,h⟩:=bindE h
  have c24_:=fun (R:Prop) (z:R)=>(aB hf16 (aI (event_below_sim n e.Deps.Way e.At yf17 gyf17) z))
  rcases iteE h with ⟨hf18,h⟩ | ⟨hf18,h⟩
  ·
   exact kQ h (nA ord42 [rV 15 [(67,vF)],rV 16 [(67,vF)],rV 17 [(67,vF)],rV 18 [(67,vF)],rVC 19 [(67,vF)] [(81,.v (.bool yf5))],rV 21 [(83,vF)],rV 22 [(83,vF)],rV 23 [(83,vF)],rV 24 [(83,vF)],rV 25 [(83,vF)],rV 27 [(104,vF)],rVC 28 [(100,vF)] [(120,.v (.bool yf13))],rVC 29 [(100,vF)] [(126,.v (.bool yf15))],rVC 30 [(100,vT)] [(132,.v (.bool yf17))]]) [wK 1 [2] [5,4,1] 0] Z38 (pkE rfl) (fun z=>(c13_ _ (c14_ _ (c15_ _ (c16_ _ (c17_ _ (c22_ _ (c23_ _ (c24_ _ (aB hf18 z)))))))))) (by kernel_rfl)
  exact kQ h (nA ord42 [rV 15 [(67,vF)],rV 16 [(67,vF)],rV 17 [(67,vF)],rV 18 [(67,vF)],rVC 19 [(67,vF)] [(81,.v (.bool yf5))],rV 21 [(83,vF)],rV 22 [(83,vF)],rV 23 [(83,vF)],rV 24 [(83,vF)],rV 25 [(83,vF)],rV 27 [(104,vF)],rVC 28 [(100,vF)] [(120,.v (.bool yf13))],rVC 29 [(100,vF)] [(126,.v (.bool yf15))],rVC 30 [(100,vF)] [(132,.v (.bool yf17))]]) [wK 1 [2] [5,4,1] 0] Z38 (pkE rfl) (fun z=>(c13_ _ (c14_ _ (c15_ _ (c16_ _ (c17_ _ (c22_ _ (c23_ _ (c24_ _ (aB hf18 z)))))))))) (by kernel_rfl)
 rcases iteE h with ⟨hf13,h⟩ | ⟨hf13,h⟩
 ·
  exact kQ h (nA ord42 [rV 15 [(67,vF)],rV 16 [(67,vF)],rV 17 [(67,vF)],rV 18 [(67,vF)],rVC 19 [(67,vF)] [(81,.v (.bool yf5))],rV 21 [(83,vF)],rV 22 [(83,vF)],rV 23 [(83,vF)],rV 24 [(83,vF)],rV 25 [(83,vF)],rV 27 [(104,vT),(108,vT)]]) [wK 1 [2] [5,4,1] 0] Z38 (pkE rfl) (fun z=>(c13_ _ (c14_ _ (c15_ _ (c16_ _ (c17_ _ (aB hf12 (aB hf13 z)))))))) (by kernel_rfl)
 have c18_:=fun (R:Prop) (z:R)=>(aB hf12 (aB hf13 z))
 rcases iteE h with ⟨hf14,h⟩ | ⟨hf14,h⟩
 ·
  exact kQ h (nA ord42 [rV 15 [(67,vF)],rV 16 [(67,vF)],rV 17 [(67,vF)],rV 18 [(67,vF)],rVC 19 [(67,vF)] [(81,.v (.bool yf5))],rV 21 [(83,vF)],rV 22 [(83,vF)],rV 23 [(83,vF)],rV 24 [(83,vF)],rV 25 [(83,vF)],rV 27 [(100,vT),(104,vT),(108,vF)]]) [wK 1 [2] [5,4,1] 0] Z38 (pkE rfl) (fun z=>(c13_ _ (c14_ _ (c15_ _ (c16_ _ (c17_ _ (c18_ _ (aB hf14 z)))))))) (by kernel_rfl)
 obtain ⟨yf15,gyf15,h⟩:=bindE h
 have c19_:=fun (R:Prop) (z:R)=>(aB hf14 (aI (event_below_sim n e.Deps.Addr e.At yf15 gyf15) z))
 rcases iteE h with ⟨hf16,h⟩ | ⟨hf16,h⟩
 ·
  exact kQ h (nA ord42 [rV 15 [(67,vF)],rV 16 [(67,vF)],rV 17 [(67,vF)],rV 18 [(67,vF)],rVC 19 [(67,vF)] [(81,.v (.bool yf5))],rV 21 [(83,vF)],rV 22 [(83,vF)],rV 23 [(83,vF)],rV 24 [(83,vF)],rV 25 [(83,vF)],rV 27 [(100,vF),(104,vT),(108,vF)],rVC 28 [(100,vT)] [(120,.v (.bool yf15))]]) [wK 1 [2] [5,4,1] 0] Z38 (pkE rfl) (fun z=>(c13_ _ (c14_ _ (c15_ _ (c16_ _ (c17_ _ (c18_ _ (c19_ _ (aB hf16 z))))))))) (by kernel_rfl)
 obtain ⟨yf17,gyf17,h⟩:=bindE h
 have c20_:=fun (R:Prop) (z:R)=>(aB hf16 (aI (event_below_sim n e.Deps.Data e.At yf17 gyf17) z))
 rcases iteE h with ⟨hf18,h⟩ | ⟨hf18,h⟩
 ·
  exact kQ h (nA ord42 [rV 15 [(67,vF)],rV 16 [(67,vF)],rV 17 [(67,vF)],rV 18 [(67,vF)],rVC 19 [(67,vF)] [(81,.v (.bool yf5))],rV 21 [(83,vF)],rV 22 [(83,vF)],rV 23 [(83,vF)],rV 24 [(83,vF)],rV 25 [(83,vF)],rV 27 [(100,vF),(104,vT),(108,vF)],rVC 28 [(100,vF)] [(120,.v (.bool yf15))],rVC 29 [(100,vT)] [(126,.v (.bool yf17))]]) [wK 1 [2] [5,4,1] 0] Z38 (pkE rfl) (fun z=>(c13_ _ (c14_ _ (c15_ _ (c16_ _ (c17_ _ (c18_ _ (c19_ _ (c20_ _ (aB hf18 z)))))))))) (by kernel_rfl)
 obtain ⟨yf19,gyf19,h⟩:=bindE h
 have c21_:=fun (R:Prop) (z:R)=>(aB hf18 (aI (event_below_sim n e.Deps.Way e.At yf19 gyf19) z))
 rcases iteE h with ⟨hf20,h⟩ | ⟨hf20,h⟩
 ·
  exact kQ h (nA ord42 [rV 15 [(67,vF)],rV 16 [(67,vF)],rV 17 [(67,vF)],rV 18 [(67,vF)],rVC 19 [(67,vF)] [(81,.v (.bool yf5))],rV 21 [(83,vF)],rV 22 [(83,vF)],rV 23 [(83,vF)],rV 24 [(83,vF)],rV 25 [(83,vF)],rV 27 [(100,vF),(104,vT),(108,vF)],rVC 28 [(100,vF)] [(120,.v (.bool yf15))],rVC 29 [(100,vF)] [(126,.v (.bool yf17))],rVC 30 [(100,vT)] [(132,.v (.bool yf19))]]) [wK 1 [2] [5,4,1] 0] Z38 (pkE rfl) (fun z=>(c13_ _ (c14_ _ (c15_ _ (c16_ _ (c17_ _ (c18_ _ (c19_ _ (c20_ _ (c21_ _ (aB hf20 z))))))))))) (by kernel_rfl)
 exact kQ h (nA ord42 [rV 15 [(67,vF)],rV 16 [(67,vF)],rV 17 [(67,vF)],rV 18 [(67,vF)],rVC 19 [(67,vF)] [(81,.v (.bool yf5))],rV 21 [(83,vF)],rV 22 [(83,vF)],rV 23 [(83,vF)],rV 24 [(83,vF)],rV 25 [(83,vF)],rV 27 [(100,vF),(104,vT),(108,vF)],rVC 28 [(100,vF)] [(120,.v (.bool yf15))],rVC 29 [(100,vF)] [(126,.v (.bool yf17))],rVC 30 [(100,vF)] [(132,.v (.bool yf19))]]) [wK 1 [2] [5,4,1] 0] Z38 (pkE rfl) (fun z=>(c13_ _ (c14_ _ (c15_ _ (c16_ _ (c17_ _ (c18_ _ (c19_ _ (c20_ _ (c21_ _ (aB hf20 z))))))))))) (by kernel_rfl)

theorem Z43:ordB (polF 42) ord42 Z36=true:=by kernel_rfl
def Z44 (e:Event) (y1:Int) (se:(List Int)×(List Int)×(List Int)×Int×Int×Int×Bool×Bool×Int×Int):St:=mkS 134 [(1,.ptr (.L 1) 0 0),(3,(vU y1)),(4,.ptr (.L 4) 0 0),(5,.ptr (.L 5) 0 0)] [(5,[(vI e.Hart),(vI e.At),(vI e.Kind),(vU se.2.2.2.1),(vU se.2.2.2.2.1),(vU se.2.2.2.2.2.1),.v (.bool se.2.2.2.2.2.2.1),.v (.bool se.2.2.2.2.2.2.2.1),(vI se.2.2.2.2.2.2.2.2.1),(vI se.2.2.2.2.2.2.2.2.2),(vI 0),.sl (se.1.map eI),.sl (se.2.1.map eI),.sl (se.2.2.1.map eI)]),(4,(Deps.enc e.Deps)),(1,(Event.enc e))] [] 0
def Z45 (e:Event) (y1:Int) (tt:Int):St:=mkS 134 [(2,(vI tt))] [] [] 0
def Z46 (e:Event) (y1:Int) (tt:Int):Ex×St:=(.ret,Z45 e y1 tt)
theorem Z47 (n:Nat) (e:Event) (y1:Int):∀ se t,event_Check_C4 n e y1 se=some t→CodeD Tryd.prog Z36 (Z44 e y1 se) (pk (Z46 e y1) t):=by
 intro se t h
 unfold event_Check_C4 at h
 rcases iteE h with ⟨he1,h⟩ | ⟨he1,h⟩
 ·
  obtain ⟨te2,gte2,h⟩:=bindE h
  exact kQ h ⟨ord42,[rV 13 [(63,vT)]],[],[],[(15,(⟨[1,3,4,5],[],0,[],[],[]⟩,l0,.ret,Z40 e y1 te2))]⟩ [wK 1 [2] [] 0] Z43 (pkE rfl) (fun z=>(aB he1 (aI (Z42 n e y1 _ te2 gte2) z))) (by kernel_rfl)
 obtain ⟨te2,gte2,h⟩:=bindE h
 exact kQ h ⟨ord42,[rV 13 [(63,vF)]],[],[],[(15,(⟨[1,3,4,5],[],0,[],[],[]⟩,l0,.ret,Z40 e y1 te2))]⟩ [wK 1 [2] [] 0] Z43 (pkE rfl) (fun z=>(aB he1 (aI (Z42 n e y1 _ te2 gte2) z))) (by kernel_rfl)

theorem Z48:ordB (polF 42) ord42 Z35=true:=by kernel_rfl
def Z49 (e:Event) (y1:Int) (sd:(List Int)×(List Int)×(List Int)×Int×Int×Int×Int×Int):St:=mkS 134 [(1,.ptr (.L 1) 0 0),(3,(vU y1)),(4,.ptr (.L 4) 0 0),(5,.ptr (.L 5) 0 0)] [(5,[(vI e.Hart),(vI e.At),(vI e.Kind),(vU sd.2.2.2.1),(vU sd.2.2.2.2.1),(vU sd.2.2.2.2.2.1),vF,vF,(vI sd.2.2.2.2.2.2.1),(vI sd.2.2.2.2.2.2.2),(vI 0),.sl (sd.1.map eI),.sl (sd.2.1.map eI),.sl (sd.2.2.1.map eI)]),(4,(Deps.enc e.Deps)),(1,(Event.enc e))] [] 0
def Z50 (e:Event) (y1:Int) (tt:Int):St:=mkS 134 [(2,(vI tt))] [] [] 0
def Z51 (e:Event) (y1:Int) (tt:Int):Ex×St:=(.ret,Z50 e y1 tt)
theorem Z52 (n:Nat) (e:Event) (y1:Int):∀ sd t,event_Check_C3 n e y1 sd=some t→CodeD Tryd.prog Z35 (Z49 e y1 sd) (pk (Z51 e y1) t):=by
 intro sd t h
 unfold event_Check_C3 at h
 rcases iteE h with ⟨hd1,h⟩ | ⟨hd1,h⟩
 ·
  obtain ⟨td2,gtd2,h⟩:=bindE h
  exact kQ h ⟨ord42,[rV 11 [(54,vT)]],[],[],[(13,(⟨[1,3,4,5],[],0,[],[],[]⟩,l0,.ret,Z45 e y1 td2))]⟩ [wK 1 [2] [] 0] Z48 (pkE rfl) (fun z=>(aB hd1 (aI (Z47 n e y1 _ td2 gtd2) z))) (by kernel_rfl)
 obtain ⟨td2,gtd2,h⟩:=bindE h
 exact kQ h ⟨ord42,[rV 11 [(54,vF)]],[],[],[(13,(⟨[1,3,4,5],[],0,[],[],[]⟩,l0,.ret,Z45 e y1 td2))]⟩ [wK 1 [2] [] 0] Z48 (pkE rfl) (fun z=>(aB hd1 (aI (Z47 n e y1 _ td2 gtd2) z))) (by kernel_rfl)

theorem Z53:ordB (polF 42) ord42 Z34=true:=by kernel_rfl
def Z54 (e:Event) (y1:Int) (sb:(List Int)×(List Int)×Int×Int×Int×Int):St:=mkS 134 [(1,.ptr (.L 1) 0 0),(3,(vU y1)),(4,.ptr (.L 4) 0 0),(5,.ptr (.L 5) 0 0)] [(5,[(vI e.Hart),(vI e.At),(vI e.Kind),(vU sb.2.2.1),(vU sb.2.2.2.1),(vU 0),vF,vF,(vI sb.2.2.2.2.1),(vI sb.2.2.2.2.2),(vI 0),.sl (sb.1.map eI),.nilsl,.sl (sb.2.1.map eI)]),(4,(Deps.enc e.Deps)),(1,(Event.enc e))] [] 0
def Z55 (e:Event) (y1:Int) (tt:Int):St:=mkS 134 [(2,(vI tt))] [] [] 0
def Z56 (e:Event) (y1:Int) (tt:Int):Ex×St:=(.ret,Z55 e y1 tt)
theorem Z57 (n:Nat) (e:Event) (y1:Int):∀ sb t,event_Check_C2 n e y1 sb=some t→CodeD Tryd.prog Z34 (Z54 e y1 sb) (pk (Z56 e y1) t):=by
 intro sb t h
 unfold event_Check_C2 at h
 rcases iteE h with ⟨hb1,h⟩ | ⟨hb1,h⟩
 ·
  obtain ⟨tb2,gtb2,h⟩:=bindE h
  exact kQ h ⟨ord42,[rV 9 [(44,vT)]],[],[],[(11,(⟨[1,3,4,5],[],0,[],[],[]⟩,l0,.ret,Z50 e y1 tb2))]⟩ [wK 1 [2] [] 0] Z53 (pkE rfl) (fun z=>(aB hb1 (aI (Z52 n e y1 _ tb2 gtb2) z))) (by kernel_rfl)
 obtain ⟨tb2,gtb2,h⟩:=bindE h
 exact kQ h ⟨ord42,[rV 9 [(44,vF)]],[],[],[(11,(⟨[1,3,4,5],[],0,[],[],[]⟩,⟨[],[(5,[(vI e.Hart),(vI e.At),(vI e.Kind),(vU sb.2.2.1),(vU sb.2.2.2.1),(vU 0),vF,vF,(vI sb.2.2.2.2.1),(vI sb.2.2.2.2.2),(vI 0),.sl (sb.1.map eI),.sl (([]:List Int).map eI),.sl (sb.2.1.map eI)])],[]⟩,.ret,Z50 e y1 tb2))]⟩ [wK 1 [2] [] 0] Z53 (pkE rfl) (fun z=>(aB hb1 (aI ((LeR.cons (LeA.refl _) (LeR.cons (LeA.refl _) (LeR.cons (LeA.refl _) (LeR.cons (LeA.refl _) (LeR.cons (LeA.refl _) (LeR.cons (LeA.refl _) (LeR.cons (LeA.refl _) (LeR.cons (LeA.refl _) (LeR.cons (LeA.refl _) (LeR.cons (LeA.refl _) (LeR.cons (LeA.refl _) (LeR.cons (LeA.refl _) (LeR.cons LeA.nil (LeR.cons (LeA.refl _) LeR.nil)))))))))))))):LeR [(vI e.Hart),(vI e.At),(vI e.Kind),(vU sb.2.2.1),(vU sb.2.2.2.1),(vU 0),vF,vF,(vI sb.2.2.2.2.1),(vI sb.2.2.2.2.2),(vI 0),.sl (sb.1.map eI),.nilsl,.sl (sb.2.1.map eI)] [(vI e.Hart),(vI e.At),(vI e.Kind),(vU sb.2.2.1),(vU sb.2.2.2.1),(vU 0),vF,vF,(vI sb.2.2.2.2.1),(vI sb.2.2.2.2.2),(vI 0),.sl (sb.1.map eI),.sl (([]:List Int).map eI),.sl (sb.2.1.map eI)]) (aI (Z52 n e y1 _ tb2 gtb2) z)))) (by kernel_rfl)

theorem Z58:ordB (polF 42) ord42 Z33=true:=by kernel_rfl
def Z59 (e:Event) (y1:Int) (sa:(List Int)×(List Int)×Int×Int×Int):St:=mkS 134 [(1,.ptr (.L 1) 0 0),(3,(vU y1)),(4,.ptr (.L 4) 0 0),(5,.ptr (.L 5) 0 0)] [(5,[(vI e.Hart),(vI e.At),(vI e.Kind),(vU sa.2.2.1),(vU 0),(vU 0),vF,vF,(vI sa.2.2.2.1),(vI sa.2.2.2.2),(vI 0),.sl (sa.1.map eI),.nilsl,.sl (sa.2.1.map eI)]),(4,(Deps.enc e.Deps)),(1,(Event.enc e))] [] 0
def Z60 (e:Event) (y1:Int) (tt:Int):St:=mkS 134 [(2,(vI tt))] [] [] 0
def Z61 (e:Event) (y1:Int) (tt:Int):Ex×St:=(.ret,Z60 e y1 tt)
theorem Z62 (n:Nat) (e:Event) (y1:Int):∀ sa t,event_Check_C1 n e y1 sa=some t→CodeD Tryd.prog Z33 (Z59 e y1 sa) (pk (Z61 e y1) t):=by
 intro sa t h
 unfold event_Check_C1 at h
 rcases iteE h with ⟨ha1,h⟩ | ⟨ha1,h⟩
 ·
  obtain ⟨ta2,gta2,h⟩:=bindE h
  exact kQ h ⟨ord42,[rV 7 [(38,vT)]],[],[],[(9,(⟨[1,3,4,5],[],0,[],[],[]⟩,l0,.ret,Z55 e y1 ta2))]⟩ [wK 1 [2] [] 0] Z58 (pkE rfl) (fun z=>(aB ha1 (aI (Z57 n e y1 _ ta2 gta2) z))) (by kernel_rfl)
 obtain ⟨ta2,gta2,h⟩:=bindE h
 exact kQ h ⟨ord42,[rV 7 [(38,vF)]],[],[],[(9,(⟨[1,3,4,5],[],0,[],[],[]⟩,l0,.ret,Z55 e y1 ta2))]⟩ [wK 1 [2] [] 0] Z58 (pkE rfl) (fun z=>(aB ha1 (aI (Z57 n e y1 _ ta2 gta2) z))) (by kernel_rfl)

theorem event_Check_sim (n:Nat) (e:Event) (r:Int) (h:event_Check n e=some r):PCall Tryd.prog 42 [(aAgg Event.enc e)] (eqA ((vI r))):=by
 unfold event_Check at h
 obtain ⟨y1,gy1,h⟩:=bindE h
 have c25_:=fun (R:Prop) (z:R)=>(aI (event_has_sim n e.Kind y1 gy1) z)
 rcases iteN h with ⟨h2,h⟩ | ⟨h2,h⟩
 ·
  obtain ⟨t3,gt3,h⟩:=bindE h
  obtain rfl:=soI h
  exact kP ⟨ord42,[rVC 1 [] [(8,(vU y1))],rV 4 [(20,vF)]],[],[],[(7,(⟨[1,3,4,5],[],0,[],[],[]⟩,l0,.ret,Z60 e y1 t3))]⟩ ordB42 (fun z=>(c25_ _ (aB h2 (aI (Z62 n e y1 _ t3 gt3) z)))) (by kernel_rfl)
 obtain ⟨t3,gt3,h⟩:=bindE h
 obtain rfl:=soI h
 exact kP ⟨ord42,[rVC 1 [] [(8,(vU y1))],rV 4 [(20,vT)]],[],[],[(7,(⟨[1,3,4,5],[],0,[],[],[]⟩,⟨[],[(5,[(vI e.Hart),(vI e.At),(vI e.Kind),(vU 0),(vU 0),(vU 0),vF,vF,(vI e.Pred),(vI e.Succ),(vI 0),.sl (([]:List Int).map eI),.nilsl,.sl (([]:List Int).map eI)])],[]⟩,.ret,Z60 e y1 t3))]⟩ ordB42 (fun z=>(c25_ _ (aB h2 (aI ((LeR.cons (LeA.refl _) (LeR.cons (LeA.refl _) (LeR.cons (LeA.refl _) (LeR.cons (LeA.refl _) (LeR.cons (LeA.refl _) (LeR.cons (LeA.refl _) (LeR.cons (LeA.refl _) (LeR.cons (LeA.refl _) (LeR.cons (LeA.refl _) (LeR.cons (LeA.refl _) (LeR.cons (LeA.refl _) (LeR.cons LeA.nil (LeR.cons (LeA.refl _) (LeR.cons LeA.nil LeR.nil)))))))))))))):LeR [(vI e.Hart),(vI e.At),(vI e.Kind),(vU 0),(vU 0),(vU 0),vF,vF,(vI e.Pred),(vI e.Succ),(vI 0),.nilsl,.nilsl,.nilsl] [(vI e.Hart),(vI e.At),(vI e.Kind),(vU 0),(vU 0),(vU 0),vF,vF,(vI e.Pred),(vI e.Succ),(vI 0),.sl (([]:List Int).map eI),.nilsl,.sl (([]:List Int).map eI)]) (aI (Z62 n e y1 _ t3 gt3) z))))) (by kernel_rfl)

def ord33:List (Nat×PT):=[(11,(ptS [0,1,2,3,4,5,6,7,8,9,10,11,12,13]))]
theorem ordB33:ordB (polF 33) ord33 (bodyOf Tryd.prog 33)=true:=by kernel_rfl
noncomputable def Z63:Code:=sub (bodyOf Tryd.prog 33) [1,1,0,1,0,0]
theorem Z64:ordB (polF 33) ord33 Z63=true:=by kernel_rfl
def Z65 (hart:Int) (l:(List Event)) (sa:Int×Int):St:=mkS 52 [(0,(vI hart)),(1,.sl (l.map Event.enc)),(5,(vI sa.2)),(8,.sl (l.map Event.enc)),(9,(vI (l.length:Int))),(10,(vI sa.1))] [] [] 0
def Z66 (hart:Int) (l:(List Event)) (tt:Unit):St:=mkS 52 [] [] [] 0
def Z67 (hart:Int) (l:(List Event)) (tt:Unit):St:=mkS 52 [(4,(vI 4))] [] [] 0
def Z68 (hart:Int) (l:(List Event)) (t0:(Unit⊕Unit)):Ex×St:=match t0 with | .inl tt=>(.ex 0,Z66 hart l tt) | .inr tt=>(.ret,Z67 hart l tt)
theorem Z69 (n:Nat) (hart:Int) (l:(List Event)):∀ sa r,event_Row_L1 n hart l sa=some r→CodeD Tryd.prog Z63 (Z65 hart l sa) (rk (Z65 hart l) (Z68 hart l) r):=by
 intro sa r h
 unfold event_Row_L1 at h
 rcases iteN h with ⟨ha1,h⟩ | ⟨ha1,h⟩
 ·
  exact kQ h (nA ord33 [rV 3 [(11,vF)]]) [wK 2 [] [] 0] Z64 (rkE rfl neE) (fun z=>(aB ha1 z)) (by kernel_rfl)
 obtain ⟨xa2,gxa2,h⟩:=bindE h
 obtain ⟨ya3,gya3,h⟩:=bindE h
 have c26_:=fun (R:Prop) (z:R)=>(aB ha1 (aM Event.enc gxa2 (aI (event_Check_sim n xa2 ya3 gya3) z)))
 rcases iteE h with ⟨ha4,h⟩ | ⟨ha4,h⟩
 ·
  exact kQ h (nA ord33 [rV 3 [(11,vT)],rR 4 [(13,(Event.enc xa2))],rVC 5 [(18,vT)] [(16,(vI ya3))]]) [wK 1 [4] [7] 0] Z64 (rkE rfl neR) (fun z=>(c26_ _ (aB ha4 z))) (by kernel_rfl)
 rcases iteE h with ⟨ha5,h⟩ | ⟨ha5,h⟩
 ·
  exact kQ h (nA ord33 [rV 3 [(11,vT)],rR 4 [(13,(Event.enc xa2))],rVC 5 [(18,vF),(24,vT)] [(16,(vI ya3))]]) [wK 1 [4] [7] 0] Z64 (rkE rfl neR) (fun z=>(c26_ _ (aB ha4 (aB ha5 z)))) (by kernel_rfl)
 have c27_:=fun (R:Prop) (z:R)=>(aB ha4 (aB ha5 z))
 rcases iteE h with ⟨ha6,h⟩ | ⟨ha6,h⟩
 ·
  exact kQ h (nA ord33 [rV 3 [(11,vT)],rR 4 [(13,(Event.enc xa2))],rVC 5 [(18,vF),(24,vF),(29,vT)] [(16,(vI ya3))]]) [wK 1 [4] [7] 0] Z64 (rkE rfl neR) (fun z=>(c26_ _ (c27_ _ (aB ha6 z)))) (by kernel_rfl)
 rcases iteE h with ⟨ha7,h⟩ | ⟨ha7,h⟩
 ·
  exact kQ h (nA ord33 [rV 3 [(11,vT)],rR 4 [(13,(Event.enc xa2))],rVC 5 [(18,vF),(24,vF),(29,vF)] [(16,(vI ya3))],rV 8 [(32,vT)]]) [wK 0 [0,1,5,8,9,10] [7] 0] Z64 rkN (fun z=>(c26_ _ (c27_ _ (aB ha6 (aB ha7 z))))) (by kernel_rfl)
 have c28_:=fun (R:Prop) (z:R)=>(aB ha6 (aB ha7 z))
 rcases iteN h with ⟨ha8,h⟩ | ⟨ha8,h⟩
 ·
  exact kQ h (nA ord33 [rV 3 [(11,vT)],rR 4 [(13,(Event.enc xa2))],rVC 5 [(18,vF),(24,vF),(29,vF)] [(16,(vI ya3))],rV 8 [(32,vF)],rV 10 [(35,vF)]]) [wK 0 [0,1,5,8,9,10] [7] 0] Z64 rkN (fun z=>(c26_ _ (c27_ _ (c28_ _ (aB ha8 z))))) (by kernel_rfl)
 rcases iteE h with ⟨ha9,h⟩ | ⟨ha9,h⟩
 ·
  exact kQ h (nA ord33 [rV 3 [(11,vT)],rR 4 [(13,(Event.enc xa2))],rVC 5 [(18,vF),(24,vF),(29,vF)] [(16,(vI ya3))],rV 8 [(32,vF)],rV 10 [(35,vT)],rV 11 [(41,vT)]]) [wK 1 [4] [7] 0] Z64 (rkE rfl neR) (fun z=>(c26_ _ (c27_ _ (c28_ _ (aB ha8 (aB ha9 z)))))) (by kernel_rfl)
 obtain ⟨xa10,gxa10,h⟩:=bindE h
 have c29_:=fun (R:Prop) (z:R)=>(aB ha8 (aB ha9 (aM Event.enc gxa10 z)))
 rcases iteE h with ⟨ha11,h⟩ | ⟨ha11,h⟩
 ·
  exact kQ h (nA ord33 [rV 3 [(11,vT)],rR 4 [(13,(Event.enc xa2))],rVC 5 [(18,vF),(24,vF),(29,vF)] [(16,(vI ya3))],rV 8 [(32,vF)],rV 10 [(35,vT)],(11,⟨[],[],[(44,(Event.enc xa10))],[(41,vF),(50,vT)],[],[],[],[],[]⟩)]) [wK 1 [4] [7] 0] Z64 (rkE rfl neR) (fun z=>(c26_ _ (c27_ _ (c28_ _ (c29_ _ (aB ha11 z)))))) (by kernel_rfl)
 exact kQ h (nA ord33 [rV 3 [(11,vT)],rR 4 [(13,(Event.enc xa2))],rVC 5 [(18,vF),(24,vF),(29,vF)] [(16,(vI ya3))],rV 8 [(32,vF)],rV 10 [(35,vT)],(11,⟨[],[],[(44,(Event.enc xa10))],[(41,vF),(50,vF)],[],[],[],[],[]⟩)]) [wK 0 [0,1,5,8,9,10] [7] 0] Z64 rkN (fun z=>(c26_ _ (c27_ _ (c28_ _ (c29_ _ (aB ha11 z)))))) (by kernel_rfl)

theorem event_Row_sim (n:Nat) (hart:Int) (l:(List Event)) (r:Int) (h:event_Row n hart l=some r):PCall Tryd.prog 33 [(vI hart),.sl (l.map Event.enc)] (eqA ((vI r))):=by
 unfold event_Row at h
 obtain ⟨t1,gt1,h⟩:=bindE h
 rcases t1 with w2 | w2
 ·
  obtain rfl:=soI h
  exact kP ⟨ord33,[rV 2 [(9,(vI (l.length:Int)))]],[],[(3,(⟨[0,1,5,8,9,10],[],0,[],[],[]⟩,l0,(.ex 0),Z66 hart l w2))],[]⟩ ordB33 (fun z=>(aL Event.enc l (aI (okL (pl:=polF 33) (Z65 hart l) (Z68 hart l) (Z69 n hart l) n _ (.inl w2) gt1) z))) (by kernel_rfl)
 ·
  obtain rfl:=soI h
  exact kP ⟨ord33,[rV 2 [(9,(vI (l.length:Int)))]],[],[(3,(⟨[0,1,5,8,9,10],[],0,[],[],[]⟩,l0,.ret,Z67 hart l w2))],[]⟩ ordB33 (fun z=>(aL Event.enc l (aI (okL (pl:=polF 33) (Z65 hart l) (Z68 hart l) (Z69 n hart l) n _ (.inr w2) gt1) z))) (by kernel_rfl)

def ord56:List (Nat×PT):=[]
theorem ordB56:ordB (polF 56) ord56 (bodyOf Tryd.prog 56)=true:=by kernel_rfl
def slices_Grow_api_Event_api_Event_S_R (n_:Int) (y0:((Nat×Nat×Nat×(List Event))⊕Unit)):AV×List Ob:=match y0 with | .inl y=>(.msl 0 y.1 y.2.1 y.2.2.1,[.arr true 14 (y.2.2.2.map Event.enc)]) | .inr y=>(.nilsl,[])
theorem slices_Grow_api_Event_api_Event_S_sim (n:Nat) (n_:Int) (y:((Nat×Nat×Nat×(List Event))⊕Unit)) (h:slices_Grow_api_Event_api_Event_S n n_=some y):SD Tryd.prog 56 [.nilsl,(vI n_)] [] (fun r' o'=>r'=(slices_Grow_api_Event_api_Event_S_R n_ y).1∧o'=(slices_Grow_api_Event_api_Event_S_R n_ y).2):=by
 unfold slices_Grow_api_Event_api_Event_S at h
 rcases iteE h with ⟨h1,h⟩ | ⟨h1,h⟩
 ·
  cases h
 rcases iteN h with ⟨h2,h⟩ | ⟨h2,h⟩
 ·
  obtain rfl:=soI h
  exact kS (nA ord56 [rV 1 [(6,vF)],rV 4 [(16,vF)]]) ordB56 ⟨rfl,rfl⟩ (fun z=>(aB h1 (aB h2 z))) (by kernel_rfl)
 obtain ⟨h3,h⟩:=grdE h
 obtain ⟨h4,h⟩:=grdE h
 obtain rfl:=soI h
 exact kS ⟨ord56,[rV 1 [(6,vF)],rV 4 [(16,vT)],(5,⟨[],[22,25],[],[(25,.msl 0 0 0 (((subW .i64 n_ 0)).toNat))],[],[],[],[],[]⟩)],[(5,⟨[],[],[(0,(List.replicate ((subW .i64 n_ 0)).toNat (Event.mk 0 0 0 0 0 0 false false 0 0 0 (Deps.mk ([]:List Int) ([]:List Int) ([]:List Int)))).map Event.enc)]⟩)],[],[]⟩ ordB56 ⟨rfl,rfl⟩ (fun z=>(aB h1 (aB h2 (aI h3 (aI ((by rw [List.length_replicate]; exact h4):(decide ((0:Int)≤0)&&decide (0≤(((List.replicate ((subW .i64 n_ 0)).toNat ([(vI 0),(vI 0),(vI 0),(vU 0),(vU 0),(vU 0),vF,vF,(vI 0),(vI 0),(vI 0),.nilsl,.nilsl,.nilsl]:List AV)).length:Nat):Int)))=true) (aI (rep_len _ _ _ _ _ _:AV.msl 0 0 (0 - 0) ((List.replicate ((subW .i64 n_ 0)).toNat ([(vI 0),(vI 0),(vI 0),(vU 0),(vU 0),(vU 0),vF,vF,(vI 0),(vI 0),(vI 0),.nilsl,.nilsl,.nilsl]:List AV)).length - 0)=AV.msl 0 0 0 (((subW .i64 n_ 0)).toNat)) (aI (rep_le Event.enc _ (LeR.cons (LeA.refl _) (LeR.cons (LeA.refl _) (LeR.cons (LeA.refl _) (LeR.cons (LeA.refl _) (LeR.cons (LeA.refl _) (LeR.cons (LeA.refl _) (LeR.cons (LeA.refl _) (LeR.cons (LeA.refl _) (LeR.cons (LeA.refl _) (LeR.cons (LeA.refl _) (LeR.cons (LeA.refl _) (LeR.cons LeA.nil (LeR.cons LeA.nil (LeR.cons LeA.nil LeR.nil)))))))))))))):LeRs (List.replicate ((subW .i64 n_ 0)).toNat ([(vI 0),(vI 0),(vI 0),(vU 0),(vU 0),(vU 0),vF,vF,(vI 0),(vI 0),(vI 0),.nilsl,.nilsl,.nilsl]:List AV)) ((List.replicate ((subW .i64 n_ 0)).toNat (Event.mk 0 0 0 0 0 0 false false 0 0 0 (Deps.mk ([]:List Int) ([]:List Int) ([]:List Int)))).map Event.enc)) z))))))) (by kernel_rfl)

def ord43:List (Nat×PT):=[]
theorem ordB43:ordB (polF 43) ord43 (bodyOf Tryd.prog 43)=true:=by kernel_rfl
noncomputable def Z70:Code:=sub (bodyOf Tryd.prog 43) [1,1,0,1,0,0]
noncomputable def Z71:Code:=sub (bodyOf Tryd.prog 43) [1,1,1,1,0,1,0,0]
noncomputable def Z72:Code:=sub (bodyOf Tryd.prog 43) [1,1,1,1,0,1,0,0]
theorem Z73:ordB (polF 43) ord43 Z70=true:=by kernel_rfl
def Z74 (slices:(List (List Event))) (sa:Int×Int):St:=mkS 36 [(0,.sl (slices.map (eSl Event.enc))),(3,(vI sa.2)),(9,.sl (slices.map (eSl Event.enc))),(10,(vI (slices.length:Int))),(11,(vI sa.1))] [] [] 0
def Z75 (slices:(List (List Event))) (tt:Int):St:=mkS 36 [(0,.sl (slices.map (eSl Event.enc))),(3,(vI tt))] [] [] 0
def Z76 (slices:(List (List Event))) (tt:Int):Ex×St:=(.ex 0,Z75 slices tt)
theorem Z77 (n:Nat) (slices:(List (List Event))):∀ sa r,slices_Concat_api_Event_api_Event_L1 n slices sa=some r→CodeD Tryd.prog Z70 (Z74 slices sa) (rk (Z74 slices) (Z76 slices) r):=by
 intro sa r h
 unfold slices_Concat_api_Event_api_Event_L1 at h
 rcases iteN h with ⟨ha1,h⟩ | ⟨ha1,h⟩
 ·
  exact kQ h (nA ord43 [rV 3 [(12,vF)]]) [wK 2 [0,3] [] 0] Z73 (rkE rfl neE) (fun z=>(aB ha1 z)) (by kernel_rfl)
 obtain ⟨xa2,gxa2,h⟩:=bindE h
 have c30_:=fun (R:Prop) (z:R)=>(aB ha1 (aM (eSl Event.enc) gxa2 (aL Event.enc xa2 z)))
 rcases iteE h with ⟨ha3,h⟩ | ⟨ha3,h⟩
 ·
  cases h
 exact kQ h (nA ord43 [rV 3 [(12,vT)],rR 4 [(13,[.sl (xa2.map Event.enc)])],rV 5 [(17,(vI (xa2.length:Int)))],rV 6 [(20,vF)]]) [wK 0 [0,3,9,10,11] [] 0] Z73 rkN (fun z=>(c30_ _ (aB ha3 z))) (by kernel_rfl)

theorem Z78:ordB (polF 43) ord43 Z71=true:=by kernel_rfl
def Z79 (slices:(List (List Event))) (wa3:Nat×Nat×Nat×(List Event)) (sa:Nat×Nat×(List Event)×Int):St:=mkS 36 [(6,.msl 0 wa3.1 sa.1 sa.2.1),(25,.sl (slices.map (eSl Event.enc))),(26,(vI (slices.length:Int))),(27,(vI sa.2.2.2))] [] [.arr true 14 (sa.2.2.1.map Event.enc)] 0
def Z80 (slices:(List (List Event))) (wa3:Nat×Nat×Nat×(List Event)) (tt:Nat×Nat×(List Event)):St:=mkS 36 [(6,.msl 0 wa3.1 tt.1 tt.2.1)] [] [.arr true 14 (tt.2.2.map Event.enc)] 0
def Z81 (slices:(List (List Event))) (wa3:Nat×Nat×Nat×(List Event)) (tt:(Nat×Nat×(List Event))):Ex×St:=(.ex 2,Z80 slices wa3 tt)
theorem Z82 (n:Nat) (slices:(List (List Event))) (wa3:Nat×Nat×Nat×(List Event)):∀ sa r,slices_Concat_api_Event_api_Event_L2 n slices wa3 sa=some r→CodeD Tryd.prog Z71 (Z79 slices wa3 sa) (rk (Z79 slices wa3) (Z81 slices wa3) r):=by
 intro sa r h
 unfold slices_Concat_api_Event_api_Event_L2 at h
 rcases iteN h with ⟨ha1,h⟩ | ⟨ha1,h⟩
 ·
  exact kQ h (nA ord43 [rV 11 [(28,vF)]]) [wK 4 [6] [] 1] Z78 (rkE rfl neE) (fun z=>(aB ha1 z)) (by kernel_rfl)
 obtain ⟨xa2,gxa2,h⟩:=bindE h
 obtain ⟨ha3,h⟩:=grdE h
 obtain ⟨ha4,h⟩:=grdE h
 exact kQ h (nA ord43 [rV 11 [(28,vT)],rR 12 [(29,[.sl (xa2.map Event.enc)])],(13,⟨[],[33],[],[(33,.msl 0 wa3.1 (sa.1 + xa2.length) (sa.2.1 - xa2.length))],[],[],[(33,(0,(sa.2.2.1.take (wa3.1 + sa.1)++(xa2++sa.2.2.1.drop (wa3.1 + sa.1 + xa2.length))).map Event.enc))],[],[]⟩)]) [wK 0 [6,25,26,27] [] 1] Z78 rkN (fun z=>(aB ha1 (aM (eSl Event.enc) gxa2 (aI (szM:szOk 14 (xa2.map Event.enc)=true) (aI (okM:okRows (xa2.map Event.enc)=true) (aI (ble_maps3 ha3:Nat.ble (xa2.map Event.enc).length sa.2.1=true) (aI (ble_maps4 ha4:Nat.ble (wa3.1 + sa.1 + sa.2.1) (sa.2.2.1.map Event.enc).length=true) (aI (msl_map Event.enc xa2 _ _ _ _:AV.msl 0 wa3.1 (sa.1 + (xa2.map Event.enc).length) (sa.2.1 - (xa2.map Event.enc).length)=AV.msl 0 wa3.1 (sa.1 + xa2.length) (sa.2.1 - xa2.length)) (aI (put_map Event.enc sa.2.2.1 xa2 _:(sa.2.2.1.map Event.enc).take (wa3.1 + sa.1)++((xa2.map Event.enc)++(sa.2.2.1.map Event.enc).drop (wa3.1 + sa.1 + (xa2.map Event.enc).length))=(sa.2.2.1.take (wa3.1 + sa.1)++(xa2++sa.2.2.1.drop (wa3.1 + sa.1 + xa2.length))).map Event.enc) z))))))))) (by kernel_rfl)

theorem Z83:ordB (polF 43) ord43 Z72=true:=by kernel_rfl
def Z84 (slices:(List (List Event))) (sa:(List Event)×Int):St:=mkS 36 [(6,.mf 0),(25,.sl (slices.map (eSl Event.enc))),(26,(vI (slices.length:Int))),(27,(vI sa.2))] [] [.arr true 14 (sa.1.map Event.enc)] 0
def Z85 (slices:(List (List Event))) (tt:(List Event)):St:=mkS 36 [(6,.mf 0)] [] [.arr true 14 (tt.map Event.enc)] 0
def Z86 (slices:(List (List Event))) (tt:((List Event))):Ex×St:=(.ex 2,Z85 slices tt)
theorem Z87 (n:Nat) (slices:(List (List Event))):∀ sa r,slices_Concat_api_Event_api_Event_L3 n slices sa=some r→CodeD Tryd.prog Z72 (Z84 slices sa) (rk (Z84 slices) (Z86 slices) r):=by
 intro sa r h
 unfold slices_Concat_api_Event_api_Event_L3 at h
 rcases iteN h with ⟨ha1,h⟩ | ⟨ha1,h⟩
 ·
  exact kQ h (nA ord43 [rV 11 [(28,vF)]]) [wK 4 [6] [] 1] Z83 (rkE rfl neE) (fun z=>(aB ha1 z)) (by kernel_rfl)
 obtain ⟨xa2,gxa2,h⟩:=bindE h
 obtain ⟨ha3,h⟩:=grdE h
 exact kQ h (nA ord43 [rV 11 [(28,vT)],rR 12 [(29,[.sl (xa2.map Event.enc)])],(13,⟨[],[33],[],[],[],[],[(33,(0,(sa.1++xa2).map Event.enc))],[],[]⟩)]) [wK 0 [6,25,26,27] [] 1] Z83 rkN (fun z=>(aB ha1 (aM (eSl Event.enc) gxa2 (aI (szM:szOk 14 (xa2.map Event.enc)=true) (aI (okM:okRows (xa2.map Event.enc)=true) (aI (ble_maps2 ha3:Nat.ble (((sa.1.map Event.enc).length + (xa2.map Event.enc).length) * 152) 140737488355328=true) (aI (app_map Event.enc sa.1 xa2) z))))))) (by kernel_rfl)

theorem slices_Concat_api_Event_api_Event_sim (n:Nat) (slices:(List (List Event))) (r:(List Event)) (h:slices_Concat_api_Event_api_Event n slices=some r):PCall Tryd.prog 43 [.sl (slices.map (eSl Event.enc))] (eqA (.sl (r.map Event.enc))):=by
 unfold slices_Concat_api_Event_api_Event at h
 obtain ⟨t1,gt1,h⟩:=bindE h
 obtain ⟨y2,gy2,h⟩:=bindE h
 have c31_:=fun (R:Prop) (z:R)=>(aL (eSl Event.enc) slices (aI (okL (pl:=polF 43) (Z74 slices) (Z76 slices) (Z77 n slices) n _ t1 gt1) z))
 rcases y2 with wa3 | wb3
 ·
  obtain ⟨t4,gt4,h⟩:=bindE h
  obtain rfl:=soI h
  exact kP ⟨ord43,[rV 2 [(10,(vI (slices.length:Int)))],(9,⟨[],[],[],[],[],[(24,(.msl 0 wa3.1 wa3.2.1 wa3.2.2.1,[.arr true 14 (wa3.2.2.2.map Event.enc)]))],[],[],[]⟩),rV 10 [(26,(vI (slices.length:Int)))]],[],[(3,(⟨[0,3,9,10,11],[],0,[],[],[]⟩,l0,(.ex 0),Z75 slices t1)),(11,(⟨[6,25,26,27],[],1,[],[],[]⟩,l0,(.ex 2),Z80 slices wa3 t4))],[]⟩ ordB43 (fun z=>(c31_ _ (aI (slices_Grow_api_Event_api_Event_S_sim n t1 (.inl wa3) gy2) (aL (eSl Event.enc) slices (aI (okL (pl:=polF 43) (Z79 slices wa3) (Z81 slices wa3) (Z82 n slices wa3) n _ t4 gt4) ((sl_dtL Event.enc t4.2.2 _ _):LeA (.sl (((t4.2.2.map Event.enc).drop wa3.1).take t4.1)) (.sl (((t4.2.2.drop wa3.1).take t4.1).map Event.enc)))))))) (by kernel_rfl)
 ·
  obtain ⟨t4,gt4,h⟩:=bindE h
  obtain rfl:=soI h
  exact kP ⟨ord43,[rV 2 [(10,(vI (slices.length:Int)))],(9,⟨[],[],[],[],[],[(24,(.nilsl,[]))],[],[],[]⟩),rV 10 [(26,(vI (slices.length:Int)))]],[],[(3,(⟨[0,3,9,10,11],[],0,[],[],[]⟩,l0,(.ex 0),Z75 slices t1)),(11,(⟨[6,25,26,27],[],0,[(6,14)],[],[]⟩,l0,(.ex 2),Z85 slices t4))],[]⟩ ordB43 (fun z=>(c31_ _ (aI (slices_Grow_api_Event_api_Event_S_sim n t1 (.inr wb3) gy2) (aL (eSl Event.enc) slices (aI (okL (pl:=polF 43) (Z84 slices) (Z86 slices) (Z87 n slices) n _ t4 gt4) z))))) (by kernel_rfl)

def ord34:List (Nat×PT):=[]
theorem ordB34:ordB (polF 34) ord34 (bodyOf Tryd.prog 34)=true:=by kernel_rfl
def cand_flat_S_R (oA:(List Cell)) (oB:(List (List Event))) (oC:(List Int)) (oD:(List Int)) (y:(List Event)):AV×List Ob:=(.sl (y.map Event.enc),[.arr true 4 [[.sl (oA.map Cell.enc),.sl (oB.map (eSl Event.enc)),.sl (oC.map eI),.sl (oD.map eI)]]])
theorem cand_flat_S_sim (n:Nat) (oA:(List Cell)) (oB:(List (List Event))) (oC:(List Int)) (oD:(List Int)) (y:(List Event)) (h:cand_flat_S n oA oB oC oD=some y):SD Tryd.prog 34 [.ptr (.O 0) 0 0] [.arr true 4 [[.sl (oA.map Cell.enc),.sl (oB.map (eSl Event.enc)),.sl (oC.map eI),.sl (oD.map eI)]]] (fun r' o'=>r'=(cand_flat_S_R oA oB oC oD y).1∧o'=(cand_flat_S_R oA oB oC oD y).2):=by
 unfold cand_flat_S at h
 obtain ⟨y1,gy1,h⟩:=bindE h
 obtain rfl:=soI h
 exact kS (nA ord34 [rVC 1 [] [(7,.sl (y1.map Event.enc))]]) ordB34 ⟨rfl,rfl⟩ (fun z=>(aI (slices_Concat_api_Event_api_Event_sim n oB y1 gy1) z)) (by kernel_rfl)

def ord20:List (Nat×PT):=[]
theorem ordB20:ordB (polF 20) ord20 (bodyOf Tryd.prog 20)=true:=by kernel_rfl
theorem event_Reads_sim (n:Nat) (e:Event) (r:Bool) (h:event_Reads n e=some r):PCall Tryd.prog 20 [(aAgg Event.enc e)] (eqA (.v (.bool r))):=by
 unfold event_Reads at h
 obtain ⟨y1,gy1,h⟩:=bindE h
 obtain rfl:=soI h
 exact kP (nA ord20 [rVC 1 [] [(5,(vU y1))]]) ordB20 (fun z=>(aI (event_has_sim n e.Kind y1 gy1) z)) (by kernel_rfl)

def ord87:List (Nat×PT):=[]
theorem ordB87:ordB (polF 87) ord87 (bodyOf Tryd.prog 87)=true:=by kernel_rfl
theorem cmp_isNaN_uint64_sim (n:Nat) (x:Int) (r:Bool) (h:cmp_isNaN_uint64 n x=some r):PCall Tryd.prog 87 [(vU x)] (eqA (.v (.bool r))):=by
 unfold cmp_isNaN_uint64 at h
 obtain rfl:=soI h
 exact kP (nA ord87 []) ordB87 (fun z=>z) (by kernel_rfl)

def ord59:List (Nat×PT):=[]
theorem ordB59:ordB (polF 59) ord59 (bodyOf Tryd.prog 59)=true:=by kernel_rfl
theorem cmp_Compare_uint64_sim (n:Nat) (x:Int) (y:Int) (r:Int) (h:cmp_Compare_uint64 n x y=some r):PCall Tryd.prog 59 [(vU x),(vU y)] (eqA ((vI r))):=by
 unfold cmp_Compare_uint64 at h
 obtain ⟨y1,gy1,h⟩:=bindE h
 obtain ⟨y2,gy2,h⟩:=bindE h
 have c32_:=fun (R:Prop) (z:R)=>(aI (cmp_isNaN_uint64_sim n x y1 gy1) (aI (cmp_isNaN_uint64_sim n y y2 gy2) z))
 rcases iteE h with ⟨h3,h⟩ | ⟨h3,h⟩
 ·
  rcases iteE h with ⟨h4,h⟩ | ⟨h4,h⟩
  ·
   obtain rfl:=soI h
   exact kP (nA ord59 [rVC 1 [] [(8,.v (.bool y1))],rVC 2 [] [(10,.v (.bool y2))],rV 3 [(11,vT)],rV 4 [(12,vT)]]) ordB59 (fun z=>(c32_ _ (aB h3 (aB h4 z)))) (by kernel_rfl)
  obtain rfl:=soI h
  exact kP (nA ord59 [rVC 1 [] [(8,.v (.bool y1))],rVC 2 [] [(10,.v (.bool y2))],rV 3 [(11,vT)],rV 4 [(12,vF)]]) ordB59 (fun z=>(c32_ _ (aB h3 (aB h4 z)))) (by kernel_rfl)
 rcases iteE h with ⟨h4,h⟩ | ⟨h4,h⟩
 ·
  obtain rfl:=soI h
  exact kP (nA ord59 [rVC 1 [] [(8,.v (.bool y1))],rVC 2 [] [(10,.v (.bool y2))],rV 3 [(11,vF)],rV 7 [(13,vT)]]) ordB59 (fun z=>(c32_ _ (aB h3 (aB h4 z)))) (by kernel_rfl)
 have c33_:=fun (R:Prop) (z:R)=>(aB h3 (aB h4 z))
 rcases iteE h with ⟨h5,h⟩ | ⟨h5,h⟩
 ·
  obtain rfl:=soI h
  exact kP (nA ord59 [rVC 1 [] [(8,.v (.bool y1))],rVC 2 [] [(10,.v (.bool y2))],rV 3 [(11,vF)],rV 7 [(13,vF)],rV 9 [(16,vT)]]) ordB59 (fun z=>(c32_ _ (c33_ _ (aB h5 z)))) (by kernel_rfl)
 rcases iteE h with ⟨h6,h⟩ | ⟨h6,h⟩
 ·
  obtain rfl:=soI h
  exact kP (nA ord59 [rVC 1 [] [(8,.v (.bool y1))],rVC 2 [] [(10,.v (.bool y2))],rV 3 [(11,vF)],rV 7 [(13,vF)],rV 9 [(16,vF)],rV 11 [(19,vT)]]) ordB59 (fun z=>(c32_ _ (c33_ _ (aB h5 (aB h6 z))))) (by kernel_rfl)
 obtain rfl:=soI h
 exact kP (nA ord59 [rVC 1 [] [(8,.v (.bool y1))],rVC 2 [] [(10,.v (.bool y2))],rV 3 [(11,vF)],rV 7 [(13,vF)],rV 9 [(16,vF)],rV 11 [(19,vF)]]) ordB59 (fun z=>(c32_ _ (c33_ _ (aB h5 (aB h6 z))))) (by kernel_rfl)

def ord58:List (Nat×PT):=[]
theorem ordB58:ordB (polF 58) ord58 (bodyOf Tryd.prog 58)=true:=by kernel_rfl
theorem cand_found_1_sim (n:Nat) (x:Cell) (a:Int) (r:Int) (h:cand_found_1 n x a=some r):PCall Tryd.prog 58 [(aAgg Cell.enc x),(vU a)] (eqA ((vI r))):=by
 unfold cand_found_1 at h
 obtain ⟨y1,gy1,h⟩:=bindE h
 obtain rfl:=soI h
 exact kP (nA ord58 [rVC 1 [] [(8,(vI y1))]]) ordB58 (fun z=>(aI (cmp_Compare_uint64_sim n x.Addr a y1 gy1) z)) (by kernel_rfl)

def ord57:List (Nat×PT):=[]
theorem ordB57:ordB (polF 57) ord57 (bodyOf Tryd.prog 57)=true:=by kernel_rfl
noncomputable def Z88:Code:=sub (bodyOf Tryd.prog 57) [1,1,1,0,0,0]
theorem Z89:ordB (polF 57) ord57 Z88=true:=by kernel_rfl
def Z90 (x:(List Cell)) (target:Int) (sa:Int×Int):St:=mkS 49 [(0,.sl (x.map Cell.enc)),(1,(vU target)),(2,.fn 58 [] []),(8,(vI (x.length:Int))),(9,(vI sa.2)),(10,(vI sa.1))] [] [] 0
def Z91 (x:(List Cell)) (target:Int) (tt:Int):St:=mkS 49 [(0,.sl (x.map Cell.enc)),(1,(vU target)),(2,.fn 58 [] []),(8,(vI (x.length:Int))),(9,(vI tt))] [] [] 0
def Z92 (x:(List Cell)) (target:Int) (tt:Int):Ex×St:=(.ex 0,Z91 x target tt)
theorem Z93 (n:Nat) (x:(List Cell)) (target:Int):∀ sa r,slices_BinarySearchFunc_api_Cell_api_Cell_uint64_L1 n x target sa=some r→CodeD Tryd.prog Z88 (Z90 x target sa) (rk (Z90 x target) (Z92 x target) r):=by
 intro sa r h
 unfold slices_BinarySearchFunc_api_Cell_api_Cell_uint64_L1 at h
 rcases iteN h with ⟨ha1,h⟩ | ⟨ha1,h⟩
 ·
  exact kQ h (nA ord57 [rV 3 [(17,vF)]]) [wK 2 [0,1,2,8,9] [] 0] Z89 (rkE rfl neE) (fun z=>(aB ha1 z)) (by kernel_rfl)
 obtain ⟨xa2,gxa2,h⟩:=bindE h
 obtain ⟨ya3,gya3,h⟩:=bindE h
 have c34_:=fun (R:Prop) (z:R)=>(aB ha1 (aM Cell.enc gxa2 (aI (cand_found_1_sim n xa2 target ya3 gya3) z)))
 rcases iteE h with ⟨ha4,h⟩ | ⟨ha4,h⟩
 ·
  exact kQ h (nA ord57 [rV 3 [(17,vT)],(5,⟨[],[],[(27,(Cell.enc xa2))],[(31,vT)],[(30,(vI ya3))],[],[],[],[]⟩)]) [wK 0 [0,1,2,8,9,10] [] 0] Z89 rkN (fun z=>(c34_ _ (aB ha4 z))) (by kernel_rfl)
 exact kQ h (nA ord57 [rV 3 [(17,vT)],(5,⟨[],[],[(27,(Cell.enc xa2))],[(31,vF)],[(30,(vI ya3))],[],[],[],[]⟩)]) [wK 0 [0,1,2,8,9,10] [] 0] Z89 rkN (fun z=>(c34_ _ (aB ha4 z))) (by kernel_rfl)

theorem slices_BinarySearchFunc_api_Cell_api_Cell_uint64_sim (n:Nat) (x:(List Cell)) (target:Int) (r:Int×Bool) (h:slices_BinarySearchFunc_api_Cell_api_Cell_uint64 n x target=some r):PCall Tryd.prog 57 [.sl (x.map Cell.enc),(vU target),.fn 58 [] []] (eqA (.tup [(vI r.1),.v (.bool r.2)])):=by
 unfold slices_BinarySearchFunc_api_Cell_api_Cell_uint64 at h
 obtain ⟨t1,gt1,h⟩:=bindE h
 have c35_:=fun (R:Prop) (z:R)=>(aL Cell.enc x (aI (okL (pl:=polF 57) (Z90 x target) (Z92 x target) (Z93 n x target) n _ t1 gt1) z))
 rcases iteN h with ⟨h2,h⟩ | ⟨h2,h⟩
 ·
  obtain rfl:=soI h
  exact kP ⟨ord57,[rV 1 [(13,(vI (x.length:Int)))],rV 8 [(39,vF)]],[],[(3,(⟨[0,1,2,8,9,10],[],0,[],[],[]⟩,l0,(.ex 0),Z91 x target t1))],[]⟩ ordB57 (fun z=>(c35_ _ (aB h2 z))) (by kernel_rfl)
 obtain ⟨x3,gx3,h⟩:=bindE h
 obtain ⟨y4,gy4,h⟩:=bindE h
 obtain rfl:=soI h
 exact kP ⟨ord57,[rV 1 [(13,(vI (x.length:Int)))],(8,⟨[],[],[(43,(Cell.enc x3))],[(39,vT)],[(46,(vI y4))],[],[],[],[]⟩)],[],[(3,(⟨[0,1,2,8,9,10],[],0,[],[],[]⟩,l0,(.ex 0),Z91 x target t1))],[]⟩ ordB57 (fun z=>(c35_ _ (aB h2 (aM Cell.enc gx3 (aI (cand_found_1_sim n x3 target y4 gy4) z))))) (by kernel_rfl)

def ord44:List (Nat×PT):=[]
theorem ordB44:ordB (polF 44) ord44 (bodyOf Tryd.prog 44)=true:=by kernel_rfl
theorem cand_found_sim (n:Nat) (l:(List Cell)) (addr:Int) (r:Int) (h:cand_found n l addr=some r):PCall Tryd.prog 44 [.sl (l.map Cell.enc),(vU addr)] (eqA ((vU r))):=by
 unfold cand_found at h
 obtain ⟨y1,gy1,h⟩:=bindE h
 have c36_:=fun (R:Prop) (z:R)=>(aI (slices_BinarySearchFunc_api_Cell_api_Cell_uint64_sim n l addr y1 gy1) z)
 rcases iteE h with ⟨h2,h⟩ | ⟨h2,h⟩
 ·
  obtain rfl:=soI h
  exact kP (nA ord44 [rVC 1 [] [(10,.tup [(vI y1.1),.v (.bool y1.2)])],rV 2 [(14,vT)]]) ordB44 (fun z=>(c36_ _ (aB h2 z))) (by kernel_rfl)
 obtain ⟨x3,gx3,h⟩:=bindE h
 obtain rfl:=soI h
 exact kP (nA ord44 [rVC 1 [] [(10,.tup [(vI y1.1),.v (.bool y1.2)])],rV 2 [(14,vF)],rR 4 [(17,(Cell.enc x3))]]) ordB44 (fun z=>(c36_ _ (aB h2 (aM Cell.enc gx3 z)))) (by kernel_rfl)

def ord27:List (Nat×PT):=[]
theorem ordB27:ordB (polF 27) ord27 (bodyOf Tryd.prog 27)=true:=by kernel_rfl
theorem event_Writes_sim (n:Nat) (e:Event) (r:Bool) (h:event_Writes n e=some r):PCall Tryd.prog 27 [(aAgg Event.enc e)] (eqA (.v (.bool r))):=by
 unfold event_Writes at h
 obtain ⟨y1,gy1,h⟩:=bindE h
 obtain rfl:=soI h
 exact kP (nA ord27 [rVC 1 [] [(5,(vU y1))]]) ordB27 (fun z=>(aI (event_has_sim n e.Kind y1 gy1) z)) (by kernel_rfl)

def ord35:List (Nat×PT):=[(1,(ptS [0,1,2,3,4,5,6,7,8,9,10,11,12,13])),(5,(ptS [0,1,2,3,4,5,6,7,8,9,10]))]
theorem ordB35:ordB (polF 35) ord35 (bodyOf Tryd.prog 35)=true:=by kernel_rfl
theorem cand_from_sim (n:Nat) (c:Cand) (all:(List Event)) (n_:Int) (r:Bool) (h:cand_from n c all n_=some r):PCall Tryd.prog 35 [.fptr (Cand.enc c) 0,.sl (all.map Event.enc),(vI n_)] (eqA (.v (.bool r))):=by
 unfold cand_from at h
 obtain ⟨x1,gx1,h⟩:=bindE h
 obtain ⟨x2,gx2,h⟩:=bindE h
 obtain ⟨y3,gy3,h⟩:=bindE h
 have c37_:=fun (R:Prop) (z:R)=>(aM Event.enc gx1 (aM eI gx2 (aI (event_Reads_sim n x1 y3 gy3) z)))
 rcases iteE h with ⟨h4,h⟩ | ⟨h4,h⟩
 ·
  obtain rfl:=soI h
  exact kP (nA ord35 [rR 1 [(12,(Event.enc x1)),(19,[(vI x2)])],rVC 2 [(21,vT)] [(23,.v (.bool y3))]]) ordB35 (fun z=>(c37_ _ (aB h4 z))) (by kernel_rfl)
 rcases iteE h with ⟨h5,h⟩ | ⟨h5,h⟩
 ·
  obtain ⟨y6,gy6,h⟩:=bindE h
  obtain rfl:=soI h
  exact kP (nA ord35 [rR 1 [(12,(Event.enc x1)),(19,[(vI x2)])],rVC 2 [(21,vF)] [(23,.v (.bool y3))],rV 4 [(27,vT)],rVC 5 [] [(38,(vU y6))]]) ordB35 (fun z=>(c37_ _ (aB h4 (aB h5 (aI (cand_found_sim n c.First x1.Addr y6 gy6) z))))) (by kernel_rfl)
 have c38_:=fun (R:Prop) (z:R)=>(aB h4 (aB h5 z))
 rcases iteE h with ⟨h6,h⟩ | ⟨h6,h⟩
 ·
  obtain rfl:=soI h
  exact kP (nA ord35 [rR 1 [(12,(Event.enc x1)),(19,[(vI x2)])],rVC 2 [(21,vF)] [(23,.v (.bool y3))],rV 4 [(27,vF)],rV 6 [(43,vT)]]) ordB35 (fun z=>(c37_ _ (c38_ _ (aB h6 z)))) (by kernel_rfl)
 have c39_:=fun (R:Prop) (z:R)=>(aB h6 (aL Event.enc all z))
 rcases iteE h with ⟨h7,h⟩ | ⟨h7,h⟩
 ·
  obtain rfl:=soI h
  exact kP (nA ord35 [rR 1 [(12,(Event.enc x1)),(19,[(vI x2)])],rVC 2 [(21,vF)] [(23,.v (.bool y3))],rV 4 [(27,vF)],rV 6 [(43,vF),(46,(vI (all.length:Int))),(49,vT)]]) ordB35 (fun z=>(c37_ _ (c38_ _ (c39_ _ (aB h7 z))))) (by kernel_rfl)
 rcases iteE h with ⟨h8,h⟩ | ⟨h8,h⟩
 ·
  obtain rfl:=soI h
  exact kP (nA ord35 [rR 1 [(12,(Event.enc x1)),(19,[(vI x2)])],rVC 2 [(21,vF)] [(23,.v (.bool y3))],rV 4 [(27,vF)],rV 6 [(40,vT),(43,vF),(46,(vI (all.length:Int))),(49,vF)]]) ordB35 (fun z=>(c37_ _ (c38_ _ (c39_ _ (aB h7 (aB h8 z)))))) (by kernel_rfl)
 obtain ⟨x9,gx9,h⟩:=bindE h
 obtain ⟨y10,gy10,h⟩:=bindE h
 have c40_:=fun (R:Prop) (z:R)=>(aB h7 (aB h8 (aM Event.enc gx9 (aI (event_Writes_sim n x9 y10 gy10) z))))
 rcases iteN h with ⟨h11,h⟩ | ⟨h11,h⟩
 ·
  obtain rfl:=soI h
  exact kP (nA ord35 [rR 1 [(12,(Event.enc x1)),(19,[(vI x2)])],rVC 2 [(21,vF)] [(23,.v (.bool y3))],rV 4 [(27,vF)],rV 6 [(40,vF),(43,vF),(46,(vI (all.length:Int))),(49,vF)],rR 8 [(56,(Event.enc x9))],rVC 9 [(60,vF)] [(59,.v (.bool y10))]]) ordB35 (fun z=>(c37_ _ (c38_ _ (c39_ _ (c40_ _ (aB h11 z)))))) (by kernel_rfl)
 rcases iteE h with ⟨h12,h⟩ | ⟨h12,h⟩
 ·
  obtain rfl:=soI h
  exact kP (nA ord35 [rR 1 [(12,(Event.enc x1)),(19,[(vI x2)])],rVC 2 [(21,vF)] [(23,.v (.bool y3))],rV 4 [(27,vF)],rV 6 [(40,vF),(43,vF),(46,(vI (all.length:Int))),(49,vF)],rR 8 [(56,(Event.enc x9))],rVC 9 [(60,vT),(67,vT)] [(59,.v (.bool y10))]]) ordB35 (fun z=>(c37_ _ (c38_ _ (c39_ _ (c40_ _ (aB h11 (aB h12 z))))))) (by kernel_rfl)
 obtain rfl:=soI h
 exact kP (nA ord35 [rR 1 [(12,(Event.enc x1)),(19,[(vI x2)])],rVC 2 [(21,vF)] [(23,.v (.bool y3))],rV 4 [(27,vF)],rV 6 [(40,vF),(43,vF),(46,(vI (all.length:Int))),(49,vF)],rR 8 [(56,(Event.enc x9))],rVC 9 [(60,vT),(67,vF)] [(59,.v (.bool y10))]]) ordB35 (fun z=>(c37_ _ (c38_ _ (c39_ _ (c40_ _ (aB h11 (aB h12 z))))))) (by kernel_rfl)

def ord45:List (Nat×PT):=[]
theorem ordB45:ordB (polF 45) ord45 (bodyOf Tryd.prog 45)=true:=by kernel_rfl
theorem event_Memory_sim (n:Nat) (e:Event) (r:Bool) (h:event_Memory n e=some r):PCall Tryd.prog 45 [(aAgg Event.enc e)] (eqA (.v (.bool r))):=by
 unfold event_Memory at h
 obtain ⟨y1,gy1,h⟩:=bindE h
 have c41_:=fun (R:Prop) (z:R)=>(aI (event_Reads_sim n e y1 gy1) z)
 rcases iteE h with ⟨h2,h⟩ | ⟨h2,h⟩
 ·
  obtain rfl:=soI h
  exact kP (nA ord45 [rVC 1 [(5,vT)] [(4,.v (.bool y1))]]) ordB45 (fun z=>(c41_ _ (aB h2 z))) (by kernel_rfl)
 obtain ⟨y3,gy3,h⟩:=bindE h
 obtain rfl:=soI h
 exact kP (nA ord45 [rVC 1 [(5,vF)] [(4,.v (.bool y1)),(7,.v (.bool y3))]]) ordB45 (fun z=>(c41_ _ (aB h2 (aI (event_Writes_sim n e y3 gy3) z)))) (by kernel_rfl)

def ord36:List (Nat×PT):=[]
theorem ordB36:ordB (polF 36) ord36 (bodyOf Tryd.prog 36)=true:=by kernel_rfl
noncomputable def Z94:Code:=sub (bodyOf Tryd.prog 36) [1,1,1,0,1,0,0]
noncomputable def Z95:Code:=sub (bodyOf Tryd.prog 36) [1,1,1,1,0,1,0,0]
theorem Z96:ordB (polF 36) ord36 Z94=true:=by kernel_rfl
def Z97 (c:Cand) (all:(List Event)) (sa:(List Bool)×Int×Int):St:=mkS 61 [(0,.fptr (Cand.enc c) 0),(5,.mf 0),(6,(vI sa.2.2)),(14,.sl (all.map Event.enc)),(15,(vI (all.length:Int))),(16,(vI sa.2.1))] [] [.arr true 1 (sa.1.map eBool)] 0
def Z98 (c:Cand) (all:(List Event)) (tt:(List Bool)×Int):St:=mkS 61 [(0,.fptr (Cand.enc c) 0),(5,.mf 0),(6,(vI tt.2))] [] [.arr true 1 (tt.1.map eBool)] 0
def Z99 (c:Cand) (all:(List Event)) (tt:((List Bool)×Int)):Ex×St:=(.ex 0,Z98 c all tt)
theorem Z100 (n:Nat) (c:Cand) (all:(List Event)):∀ sa r,cand_ordered_L1 n c all sa=some r→CodeD Tryd.prog Z94 (Z97 c all sa) (rk (Z97 c all) (Z99 c all) r):=by
 intro sa r h
 unfold cand_ordered_L1 at h
 rcases iteN h with ⟨ha1,h⟩ | ⟨ha1,h⟩
 ·
  exact kQ h (nA ord36 [rV 4 [(17,vF)]]) [wK 2 [0,5,6] [] 1] Z96 (rkE rfl neE) (fun z=>(aB ha1 z)) (by kernel_rfl)
 obtain ⟨xa2,gxa2,h⟩:=bindE h
 obtain ⟨ya3,gya3,h⟩:=bindE h
 have c42_:=fun (R:Prop) (z:R)=>(aB ha1 (aM Event.enc gxa2 (aI (event_Memory_sim n xa2 ya3 gya3) z)))
 rcases iteN h with ⟨ha4,h⟩ | ⟨ha4,h⟩
 ·
  exact kQ h (nA ord36 [rV 4 [(17,vT)],rR 5 [(19,(Event.enc xa2))],rVC 6 [(22,vF)] [(22,.v (.bool ya3))]]) [wK 0 [0,5,6,14,15,16] [8] 1] Z96 rkN (fun z=>(c42_ _ (aB ha4 z))) (by kernel_rfl)
 obtain ⟨xa5,gxa5,h⟩:=bindE h
 exact kQ h (nA ord36 [rV 4 [(17,vT)],rR 5 [(19,(Event.enc xa2))],rVC 6 [(22,vT)] [(22,.v (.bool ya3))],(7,⟨[],[],[(25,[.v (.bool xa5)]),(1000025,[.v (.bool xa5)])],[],[],[],[(1000025,(0,(sa.1.set (sa.2.1).toNat true).map eBool))],[],[]⟩)]) [wK 0 [0,5,6,14,15,16] [8] 1] Z96 rkN (fun z=>(c42_ _ (aB ha4 (aM eBool gxa5 (aN eBool gxa5 (aI (set_map eBool sa.1 ((sa.2.1).toNat) true) z)))))) (by kernel_rfl)

theorem Z101:ordB (polF 36) ord36 Z95=true:=by kernel_rfl
def Z102 (c:Cand) (sa:(List Bool)×Int×Int):St:=mkS 61 [(5,.mf 0),(6,(vI sa.2.2)),(32,.sl (c.Order.map eI)),(33,(vI (c.Order.length:Int))),(34,(vI sa.2.1))] [] [.arr true 1 (sa.1.map eBool)] 0
def Z103 (c:Cand) (tt:Int):St:=mkS 61 [(6,(vI tt))] [] [] 0
def Z104 (c:Cand) (tt:Unit):St:=mkS 61 [(4,vF)] [] [] 0
def Z105 (c:Cand) (t0:(Int⊕Unit)):Ex×St:=match t0 with | .inl tt=>(.ex 2,Z103 c tt) | .inr tt=>(.ret,Z104 c tt)
theorem Z106 (n:Nat) (c:Cand):∀ sa r,cand_ordered_L2 n c sa=some r→CodeD Tryd.prog Z95 (Z102 c sa) (rk (Z102 c) (Z105 c) r):=by
 intro sa r h
 unfold cand_ordered_L2 at h
 rcases iteN h with ⟨ha1,h⟩ | ⟨ha1,h⟩
 ·
  exact kQ h (nA ord36 [rV 11 [(35,vF)]]) [wK 4 [6] [] 0] Z101 (rkE rfl neE) (fun z=>(aB ha1 z)) (by kernel_rfl)
 obtain ⟨xa2,gxa2,h⟩:=bindE h
 have c43_:=fun (R:Prop) (z:R)=>(aB ha1 (aM eI gxa2 z))
 rcases iteE h with ⟨ha3,h⟩ | ⟨ha3,h⟩
 ·
  exact kQ h (nA ord36 [rV 11 [(35,vT)],rR 12 [(36,[(vI xa2)])],rV 13 [(40,vT)]]) [wK 1 [4] [] 0] Z101 (rkE rfl neR) (fun z=>(c43_ _ (aB ha3 z))) (by kernel_rfl)
 have c44_:=fun (R:Prop) (z:R)=>(aB ha3 (aL eBool sa.1 z))
 rcases iteE h with ⟨ha4,h⟩ | ⟨ha4,h⟩
 ·
  exact kQ h (nA ord36 [rV 11 [(35,vT)],rR 12 [(36,[(vI xa2)])],rV 13 [(40,vF),(43,(vI (sa.1.length:Int))),(46,vT)]]) [wK 1 [4] [] 0] Z101 (rkE rfl neR) (fun z=>(c43_ _ (c44_ _ (aB ha4 z)))) (by kernel_rfl)
 obtain ⟨xa5,gxa5,h⟩:=bindE h
 have c45_:=fun (R:Prop) (z:R)=>(aB ha4 (aM eBool gxa5 (aN eBool gxa5 z)))
 rcases iteE h with ⟨ha6,h⟩ | ⟨ha6,h⟩
 ·
  exact kQ h (nA ord36 [rV 11 [(35,vT)],rR 12 [(36,[(vI xa2)])],(13,⟨[],[],[(49,[.v (.bool xa5)]),(50,[.v (.bool xa5)])],[(40,vF),(43,(vI (sa.1.length:Int))),(46,vF),(52,vT)],[],[],[],[],[]⟩)]) [wK 1 [4] [] 0] Z101 (rkE rfl neR) (fun z=>(c43_ _ (c44_ _ (c45_ _ (aB ha6 z))))) (by kernel_rfl)
 exact kQ h (nA ord36 [rV 11 [(35,vT)],rR 12 [(36,[(vI xa2)])],(13,⟨[],[],[(49,[.v (.bool xa5)]),(50,[.v (.bool xa5)])],[(40,vF),(43,(vI (sa.1.length:Int))),(46,vF),(52,vF)],[],[],[],[],[]⟩),(15,⟨[],[],[(55,[.v (.bool xa5)]),(1000055,[.v (.bool xa5)])],[],[],[],[(1000055,(0,(sa.1.set (xa2).toNat false).map eBool))],[],[]⟩)]) [wK 0 [5,6,32,33,34] [] 1] Z101 rkN (fun z=>(c43_ _ (c44_ _ (c45_ _ (aB ha6 (aM eBool gxa5 (aN eBool gxa5 (aI (set_map eBool sa.1 ((xa2).toNat) false) z)))))))) (by kernel_rfl)

theorem cand_ordered_sim (n:Nat) (c:Cand) (all:(List Event)) (r:Bool) (h:cand_ordered n c all=some r):PCall Tryd.prog 36 [.fptr (Cand.enc c) 0,.sl (all.map Event.enc)] (eqA (.v (.bool r))):=by
 unfold cand_ordered at h
 obtain ⟨h1,h⟩:=grdE h
 obtain ⟨t2,gt2,h⟩:=bindE h
 obtain ⟨t3,gt3,h⟩:=bindE h
 have d0_:AV.v (.int .i64 (((all.map Event.enc).length:Nat):Int))=AV.v (.int .i64 (all.length:Int)):=len_map _ _
 have c46_:=fun (R:Prop) (z:R)=>(aI d0_ (aI h1 (aI (rep_map eBool _ false:List.replicate ((all.length:Int)).toNat [vF]=(List.replicate ((all.length:Int)).toNat false).map eBool) (aI d0_ (aI (okL (pl:=polF 36) (Z97 c all) (Z99 c all) (Z100 n c all) n _ t2 gt2) (aL eI c.Order z))))))
 rcases t3 with w4 | w4
 ·
  obtain rfl:=soI h
  exact kP ⟨ord36,[(1,⟨[],[13],[],[(12,(vI (all.length:Int)))],[],[],[(13,(0,(List.replicate ((all.length:Int)).toNat false).map eBool))],[],[]⟩),rV 3 [(15,(vI (all.length:Int)))],rV 10 [(33,(vI (c.Order.length:Int)))]],[],[(4,(⟨[0,5,6,14,15,16],[],1,[],[],[]⟩,l0,(.ex 0),Z98 c all t2)),(11,(⟨[5,6,32,33,34],[],1,[],[],[]⟩,l0,(.ex 2),Z103 c w4))],[]⟩ ordB36 (fun z=>(c46_ _ (aI (okL (pl:=polF 36) (Z102 c) (Z105 c) (Z106 n c) n _ (.inl w4) gt3) z))) (by kernel_rfl)
 ·
  obtain rfl:=soI h
  exact kP ⟨ord36,[(1,⟨[],[13],[],[(12,(vI (all.length:Int)))],[],[],[(13,(0,(List.replicate ((all.length:Int)).toNat false).map eBool))],[],[]⟩),rV 3 [(15,(vI (all.length:Int)))],rV 10 [(33,(vI (c.Order.length:Int)))]],[],[(4,(⟨[0,5,6,14,15,16],[],1,[],[],[]⟩,l0,(.ex 0),Z98 c all t2)),(11,(⟨[5,6,32,33,34],[],1,[],[],[]⟩,l0,.ret,Z104 c w4))],[]⟩ ordB36 (fun z=>(c46_ _ (aI (okL (pl:=polF 36) (Z102 c) (Z105 c) (Z106 n c) n _ (.inr w4) gt3) z))) (by kernel_rfl)

def ord24:List (Nat×PT):=[]
theorem ordB24:ordB (polF 24) ord24 (bodyOf Tryd.prog 24)=true:=by kernel_rfl
noncomputable def Z107:Code:=sub (bodyOf Tryd.prog 24) [1,1,1,0,1,0,0]
noncomputable def Z108:Code:=sub (bodyOf Tryd.prog 24) [1,1,1,1,1,1,0,1,0,0]
theorem Z109:ordB (polF 24) ord24 Z107=true:=by kernel_rfl
def Z110 (c:Cand) (sa:Int×Int):St:=mkS 64 [(1,.ptr (.O 0) 0 0),(3,(vI sa.2)),(25,.sl (c.Harts.map (eSl Event.enc))),(26,(vI (c.Harts.length:Int))),(27,(vI sa.1))] [] [.arr true 4 [(Cand.enc c)]] 0
def Z111 (c:Cand) (tt:Int):St:=mkS 64 [(1,.ptr (.O 0) 0 0),(3,(vI tt))] [] [.arr true 4 [(Cand.enc c)]] 0
def Z112 (c:Cand) (tt:Unit):St:=mkS 64 [(2,(vI 2))] [] [] 0
def Z113 (c:Cand) (t0:(Int⊕Unit)):Ex×St:=match t0 with | .inl tt=>(.ex 0,Z111 c tt) | .inr tt=>(.ret,Z112 c tt)
theorem Z114 (n:Nat) (c:Cand):∀ sa r,cand_Check_L1 n c sa=some r→CodeD Tryd.prog Z107 (Z110 c sa) (rk (Z110 c) (Z113 c) r):=by
 intro sa r h
 unfold cand_Check_L1 at h
 rcases iteN h with ⟨ha1,h⟩ | ⟨ha1,h⟩
 ·
  exact kQ h (nA ord24 [rV 5 [(28,vF)]]) [wK 2 [1,3] [] 1] Z109 (rkE rfl neE) (fun z=>(aB ha1 z)) (by kernel_rfl)
 obtain ⟨xa2,gxa2,h⟩:=bindE h
 have c47_:=fun (R:Prop) (z:R)=>(aB ha1 (aM (eSl Event.enc) gxa2 (aL Event.enc xa2 z)))
 rcases iteE h with ⟨ha3,h⟩ | ⟨ha3,h⟩
 ·
  exact kQ h (nA ord24 [rV 5 [(28,vT)],rR 6 [(30,[.sl (xa2.map Event.enc)])],rV 7 [(34,(vI (xa2.length:Int)))],rV 8 [(38,vT)]]) [wK 1 [2] [] 0] Z109 (rkE rfl neR) (fun z=>(c47_ _ (aB ha3 z))) (by kernel_rfl)
 obtain ⟨ya4,gya4,h⟩:=bindE h
 have c48_:=fun (R:Prop) (z:R)=>(aB ha3 (aI (event_Row_sim n sa.1 xa2 ya4 gya4) z))
 rcases iteE h with ⟨ha5,h⟩ | ⟨ha5,h⟩
 ·
  exact kQ h (nA ord24 [rV 5 [(28,vT)],rR 6 [(30,[.sl (xa2.map Event.enc)])],rV 7 [(34,(vI (xa2.length:Int)))],rVC 8 [(38,vF),(43,vT)] [(41,(vI ya4))]]) [wK 1 [2] [] 0] Z109 (rkE rfl neR) (fun z=>(c47_ _ (c48_ _ (aB ha5 z)))) (by kernel_rfl)
 exact kQ h (nA ord24 [rV 5 [(28,vT)],rR 6 [(30,[.sl (xa2.map Event.enc)])],rV 7 [(34,(vI (xa2.length:Int)))],rVC 8 [(38,vF),(43,vF)] [(41,(vI ya4))]]) [wK 0 [1,3,25,26,27] [] 1] Z109 rkN (fun z=>(c47_ _ (c48_ _ (aB ha5 z)))) (by kernel_rfl)

theorem Z115:ordB (polF 24) ord24 Z108=true:=by kernel_rfl
def Z116 (c:Cand) (y7:(List Event)) (sa:Int):St:=mkS 64 [(1,.ptr (.O 0) 0 0),(6,.sl (y7.map Event.enc)),(52,(vI (y7.length:Int))),(53,(vI sa))] [] [.arr true 4 [(Cand.enc c)]] 0
def Z117 (c:Cand) (y7:(List Event)) (tt:Unit):St:=mkS 64 [(1,.ptr (.O 0) 0 0),(6,.sl (y7.map Event.enc))] [] [.arr true 4 [(Cand.enc c)]] 0
def Z118 (c:Cand) (y7:(List Event)) (tt:Unit):St:=mkS 64 [(2,(vI 2))] [] [] 0
def Z119 (c:Cand) (y7:(List Event)) (t0:(Unit⊕Unit)):Ex×St:=match t0 with | .inl tt=>(.ex 2,Z117 c y7 tt) | .inr tt=>(.ret,Z118 c y7 tt)
theorem Z120 (n:Nat) (c:Cand) (y7:(List Event)):∀ sa r,cand_Check_L2 n c y7 sa=some r→CodeD Tryd.prog Z108 (Z116 c y7 sa) (rk (Z116 c y7) (Z119 c y7) r):=by
 intro sa r h
 unfold cand_Check_L2 at h
 rcases iteN h with ⟨ha1,h⟩ | ⟨ha1,h⟩
 ·
  exact kQ h (nA ord24 [rV 15 [(54,vF)]]) [wK 4 [1,6] [] 1] Z115 (rkE rfl neE) (fun z=>(aB ha1 z)) (by kernel_rfl)
 obtain ⟨ya2,gya2,h⟩:=bindE h
 have c49_:=fun (R:Prop) (z:R)=>(aB ha1 (aI (cand_from_sim n c y7 sa ya2 gya2) z))
 rcases iteE h with ⟨ha3,h⟩ | ⟨ha3,h⟩
 ·
  exact kQ h (nA ord24 [rV 15 [(54,vT)],rVC 17 [(59,vT)] [(58,.v (.bool ya2))]]) [wK 1 [2] [] 0] Z115 (rkE rfl neR) (fun z=>(c49_ _ (aB ha3 z))) (by kernel_rfl)
 exact kQ h (nA ord24 [rV 15 [(54,vT)],rVC 17 [(59,vF)] [(58,.v (.bool ya2))]]) [wK 0 [1,6,52,53] [] 1] Z115 rkN (fun z=>(c49_ _ (aB ha3 z))) (by kernel_rfl)

theorem cand_Check_sim (n:Nat) (c:Cand) (r:Int) (h:cand_Check n c=some r):PCall Tryd.prog 24 [(aAgg Cand.enc c)] (eqA ((vI r))):=by
 unfold cand_Check at h
 obtain ⟨y1,gy1,h⟩:=bindE h
 have c50_:=fun (R:Prop) (z:R)=>(aI (cand_cells_sim n c.First y1 gy1) z)
 rcases iteE h with ⟨h2,h⟩ | ⟨h2,h⟩
 ·
  obtain rfl:=soI h
  exact kP (nA ord24 [rVC 1 [(12,vT)] [(10,.v (.bool y1))]]) ordB24 (fun z=>(c50_ _ (aB h2 z))) (by kernel_rfl)
 have c51_:=fun (R:Prop) (z:R)=>(aB h2 (aL (eSl Event.enc) c.Harts z))
 rcases iteE h with ⟨h3,h⟩ | ⟨h3,h⟩
 ·
  obtain rfl:=soI h
  exact kP (nA ord24 [rVC 1 [(12,vF),(15,(vI (c.Harts.length:Int))),(18,vT)] [(10,.v (.bool y1))]]) ordB24 (fun z=>(c50_ _ (c51_ _ (aB h3 z)))) (by kernel_rfl)
 have c52_:=fun (R:Prop) (z:R)=>(aB h3 (aL (eSl Event.enc) c.Harts z))
 rcases iteE h with ⟨h4,h⟩ | ⟨h4,h⟩
 ·
  obtain rfl:=soI h
  exact kP (nA ord24 [rVC 1 [(12,vF),(15,(vI (c.Harts.length:Int))),(18,vF),(21,(vI (c.Harts.length:Int))),(23,vT)] [(10,.v (.bool y1))]]) ordB24 (fun z=>(c50_ _ (c51_ _ (c52_ _ (aB h4 z))))) (by kernel_rfl)
 obtain ⟨t5,gt5,h⟩:=bindE h
 have c53_:=fun (R:Prop) (z:R)=>(aB h4 (aL (eSl Event.enc) c.Harts z))
 rcases t5 with w6 | w6
 ·
  obtain ⟨y7,gy7,h⟩:=bindE h
  have c54_:=fun (R:Prop) (z:R)=>(aI (okL (pl:=polF 24) (Z110 c) (Z113 c) (Z114 n c) n _ (.inl w6) gt5) (aI (cand_flat_S_sim n c.First c.Harts c.From c.Order y7 gy7) (aL eI c.From z)))
  rcases iteE h with ⟨h8,h⟩ | ⟨h8,h⟩
  ·
   obtain rfl:=soI h
   exact kP ⟨ord24,[rVC 1 [(12,vF),(15,(vI (c.Harts.length:Int))),(18,vF),(21,(vI (c.Harts.length:Int))),(23,vF)] [(10,.v (.bool y1))],rV 4 [(26,(vI (c.Harts.length:Int)))],(11,⟨[],[],[],[],[],[(45,(.sl (y7.map Event.enc),[.arr true 4 [(Cand.enc c)]]))],[],[],[]⟩),rV 12 [(48,(vI (c.From.length:Int))),(50,vT)]],[],[(5,(⟨[1,3,25,26,27],[],1,[],[],[]⟩,l0,(.ex 0),Z111 c w6))],[]⟩ ordB24 (fun z=>(c50_ _ (c51_ _ (c52_ _ (c53_ _ (c54_ _ (aB h8 z))))))) (by kernel_rfl)
  obtain ⟨t9,gt9,h⟩:=bindE h
  have c55_:=fun (R:Prop) (z:R)=>(aB h8 (aL Event.enc y7 z))
  rcases t9 with w10 | w10
  ·
   obtain ⟨y11,gy11,h⟩:=bindE h
   have c56_:=fun (R:Prop) (z:R)=>(aI (okL (pl:=polF 24) (Z116 c y7) (Z119 c y7) (Z120 n c y7) n _ (.inl w10) gt9) (aI (cand_ordered_sim n c y7 y11 gy11) z))
   rcases iteE h with ⟨h12,h⟩ | ⟨h12,h⟩
   ·
    obtain rfl:=soI h
    exact kP ⟨ord24,[rVC 1 [(12,vF),(15,(vI (c.Harts.length:Int))),(18,vF),(21,(vI (c.Harts.length:Int))),(23,vF)] [(10,.v (.bool y1))],rV 4 [(26,(vI (c.Harts.length:Int)))],(11,⟨[],[],[],[],[],[(45,(.sl (y7.map Event.enc),[.arr true 4 [(Cand.enc c)]]))],[],[],[]⟩),rV 12 [(48,(vI (c.From.length:Int))),(50,vF)],rV 14 [(52,(vI (y7.length:Int)))],rVC 20 [(63,vT)] [(62,.v (.bool y11))]],[],[(5,(⟨[1,3,25,26,27],[],1,[],[],[]⟩,l0,(.ex 0),Z111 c w6)),(15,(⟨[1,6,52,53],[],1,[],[],[]⟩,l0,(.ex 2),Z117 c y7 w10))],[]⟩ ordB24 (fun z=>(c50_ _ (c51_ _ (c52_ _ (c53_ _ (c54_ _ (c55_ _ (c56_ _ (aB h12 z))))))))) (by kernel_rfl)
   obtain rfl:=soI h
   exact kP ⟨ord24,[rVC 1 [(12,vF),(15,(vI (c.Harts.length:Int))),(18,vF),(21,(vI (c.Harts.length:Int))),(23,vF)] [(10,.v (.bool y1))],rV 4 [(26,(vI (c.Harts.length:Int)))],(11,⟨[],[],[],[],[],[(45,(.sl (y7.map Event.enc),[.arr true 4 [(Cand.enc c)]]))],[],[],[]⟩),rV 12 [(48,(vI (c.From.length:Int))),(50,vF)],rV 14 [(52,(vI (y7.length:Int)))],rVC 20 [(63,vF)] [(62,.v (.bool y11))]],[],[(5,(⟨[1,3,25,26,27],[],1,[],[],[]⟩,l0,(.ex 0),Z111 c w6)),(15,(⟨[1,6,52,53],[],1,[],[],[]⟩,l0,(.ex 2),Z117 c y7 w10))],[]⟩ ordB24 (fun z=>(c50_ _ (c51_ _ (c52_ _ (c53_ _ (c54_ _ (c55_ _ (c56_ _ (aB h12 z))))))))) (by kernel_rfl)
  ·
   obtain rfl:=soI h
   exact kP ⟨ord24,[rVC 1 [(12,vF),(15,(vI (c.Harts.length:Int))),(18,vF),(21,(vI (c.Harts.length:Int))),(23,vF)] [(10,.v (.bool y1))],rV 4 [(26,(vI (c.Harts.length:Int)))],(11,⟨[],[],[],[],[],[(45,(.sl (y7.map Event.enc),[.arr true 4 [(Cand.enc c)]]))],[],[],[]⟩),rV 12 [(48,(vI (c.From.length:Int))),(50,vF)],rV 14 [(52,(vI (y7.length:Int)))]],[],[(5,(⟨[1,3,25,26,27],[],1,[],[],[]⟩,l0,(.ex 0),Z111 c w6)),(15,(⟨[1,6,52,53],[],1,[],[],[]⟩,l0,.ret,Z118 c y7 w10))],[]⟩ ordB24 (fun z=>(c50_ _ (c51_ _ (c52_ _ (c53_ _ (c54_ _ (c55_ _ (aI (okL (pl:=polF 24) (Z116 c y7) (Z119 c y7) (Z120 n c y7) n _ (.inr w10) gt9) z)))))))) (by kernel_rfl)
 ·
  obtain rfl:=soI h
  exact kP ⟨ord24,[rVC 1 [(12,vF),(15,(vI (c.Harts.length:Int))),(18,vF),(21,(vI (c.Harts.length:Int))),(23,vF)] [(10,.v (.bool y1))],rV 4 [(26,(vI (c.Harts.length:Int)))]],[],[(5,(⟨[1,3,25,26,27],[],1,[],[],[]⟩,l0,.ret,Z112 c w6))],[]⟩ ordB24 (fun z=>(c50_ _ (c51_ _ (c52_ _ (c53_ _ (aI (okL (pl:=polF 24) (Z110 c) (Z113 c) (Z114 n c) n _ (.inr w6) gt5) z)))))) (by kernel_rfl)

def ord46:List (Nat×PT):=[]
theorem ordB46:ordB (polF 46) ord46 (bodyOf Tryd.prog 46)=true:=by kernel_rfl
theorem slices_Clone_int_int_p0 (l:List Int) (K:AV→Prop):oP pc sc lp cd (nA ord46 [(1,⟨[4],[],[],[],[],[],[],[],[]⟩),(3,⟨[],[7],[],[],[],[],[],[],[]⟩)]) 46 [.sl (l.map eI)] K
  = ((l.map eI=[]→K .nilsl)∧(szOk 1 (l.map eI)=true)∧(okRows (l.map eI)=true)∧(Nat.ble ((l.map eI).length * 8) 140737488355328=true)∧K (.sl (l.map eI))):=by kernel_rfl
theorem slices_Clone_int_int_sim (n:Nat) (l:List Int) (r:List Int) (h:slices_Clone_int_int n l=some r):PCall Tryd.prog 46 [.sl (l.map eI)] (eqA (.sl (r.map eI))):=by
  unfold slices_Clone_int_int at h
  obtain ⟨h1,h⟩:=grdE h
  have e:=Option.some.inj h
  subst e
  exact okP ordB46 (Eq.mpr (slices_Clone_int_int_p0 pP sP lP dP l _) ⟨fun e=>nil_map _ e,szM,okM,ble_map h1,LeA.refl _⟩)
def ord37:List (Nat×PT):=[(1,(ptS [0,1,2,3,4,5,6,7,8,9,10,11,12,13,14]))]
theorem ordB37:ordB (polF 37) ord37 (bodyOf Tryd.prog 37)=true:=by kernel_rfl
theorem cand_own_sim (n:Nat) (e:Event) (r:Event) (h:cand_own n e=some r):PCall Tryd.prog 37 [(aAgg Event.enc e)] (eqA ((aAgg Event.enc r))):=by
 unfold cand_own at h
 obtain ⟨y1,gy1,h⟩:=bindE h
 obtain ⟨y2,gy2,h⟩:=bindE h
 obtain ⟨y3,gy3,h⟩:=bindE h
 obtain rfl:=soI h
 exact kP (nA ord37 [rVC 1 [] [(6,.sl (y1.map eI)),(10,.sl (y2.map eI)),(14,.sl (y3.map eI))]]) ordB37 (fun z=>(aI (slices_Clone_int_int_sim n e.Deps.Addr y1 gy1) (aI (slices_Clone_int_int_sim n e.Deps.Data y2 gy2) (aI (slices_Clone_int_int_sim n e.Deps.Way y3 gy3) z)))) (by kernel_rfl)

def ord25:List (Nat×PT):=[]
theorem ordB25:ordB (polF 25) ord25 (bodyOf Tryd.prog 25)=true:=by kernel_rfl
noncomputable def Z121:Code:=sub (bodyOf Tryd.prog 25) [1,1,1,0,1,0,0]
theorem Z122:ordB (polF 25) ord25 Z121=true:=by kernel_rfl
def Z123 (y3:(List Event)) (sa:(List Event)×Int):St:=mkS 22 [(3,.mf 0),(9,.sl (y3.map Event.enc)),(10,(vI (y3.length:Int))),(11,(vI sa.2))] [] [.arr true 14 (sa.1.map Event.enc)] 0
def Z124 (y3:(List Event)) (tt:(List Event)):St:=mkS 22 [(3,.mf 0)] [] [.arr true 14 (tt.map Event.enc)] 0
def Z125 (y3:(List Event)) (tt:((List Event))):Ex×St:=(.ex 0,Z124 y3 tt)
theorem Z126 (n:Nat) (y3:(List Event)):∀ sa r,cand_All_L1 n y3 sa=some r→CodeD Tryd.prog Z121 (Z123 y3 sa) (rk (Z123 y3) (Z125 y3) r):=by
 intro sa r h
 unfold cand_All_L1 at h
 rcases iteN h with ⟨ha1,h⟩ | ⟨ha1,h⟩
 ·
  exact kQ h (nA ord25 [rV 5 [(12,vF)]]) [wK 2 [3] [] 1] Z122 (rkE rfl neE) (fun z=>(aB ha1 z)) (by kernel_rfl)
 obtain ⟨xa2,gxa2,h⟩:=bindE h
 obtain ⟨ya3,gya3,h⟩:=bindE h
 obtain ⟨ha4,h⟩:=grdE h
 exact kQ h (nA ord25 [rV 5 [(12,vT)],rR 6 [(13,(Event.enc xa2))],(7,⟨[],[19],[],[],[(17,(aAgg Event.enc ya3))],[],[(19,(0,(sa.1++([ya3]:List Event)).map Event.enc))],[],[]⟩)]) [wK 0 [3,9,10,11] [5] 1] Z122 rkN (fun z=>(aB ha1 (aM Event.enc gxa2 (aI (cand_own_sim n xa2 ya3 gya3) (aI (rfl:szOk 14 [(Event.enc ya3)]=true) (aI (rfl:okRows [(Event.enc ya3)]=true) (aI (ble_maps1 ha4:Nat.ble (((sa.1.map Event.enc).length + 1) * 152) 140737488355328=true) (aI (app_map Event.enc sa.1 ([ya3]:List Event)) z)))))))) (by kernel_rfl)

theorem cand_All_sim (n:Nat) (c:Cand) (r:(List Event)) (h:cand_All n c=some r):PCall Tryd.prog 25 [(aAgg Cand.enc c)] (eqA (.sl (r.map Event.enc))):=by
 unfold cand_All at h
 obtain ⟨y1,gy1,h⟩:=bindE h
 have c57_:=fun (R:Prop) (z:R)=>(aI (cand_Check_sim n c y1 gy1) z)
 rcases iteE h with ⟨h2,h⟩ | ⟨h2,h⟩
 ·
  obtain rfl:=soI h
  exact kP (nA ord25 [rVC 1 [(8,vT)] [(7,(vI y1))]]) ordB25 (fun z=>(c57_ _ (aB h2 (LeA.nil:LeA .nilsl (.sl (([]:List Event).map Event.enc)))))) (by kernel_rfl)
 obtain ⟨y3,gy3,h⟩:=bindE h
 obtain ⟨t4,gt4,h⟩:=bindE h
 obtain rfl:=soI h
 exact kP ⟨ord25,[rVC 1 [(8,vF)] [(7,(vI y1))],(4,⟨[],[],[],[(10,(vI (y3.length:Int)))],[],[(9,(.sl (y3.map Event.enc),[.arr true 4 [(Cand.enc c)]]))],[],[],[]⟩)],[],[(5,(⟨[3,9,10,11],[],0,[(3,14)],[],[]⟩,l0,(.ex 0),Z124 y3 t4))],[]⟩ ordB25 (fun z=>(c57_ _ (aB h2 (aI (cand_flat_S_sim n c.First c.Harts c.From c.Order y3 gy3) (aL Event.enc y3 (aI (okL (pl:=polF 25) (Z123 y3) (Z125 y3) (Z126 n y3) n _ t4 gt4) z)))))) (by kernel_rfl)

def ord61:List (Nat×PT):=[]
theorem ordB61:ordB (polF 61) ord61 (bodyOf Tryd.prog 61)=true:=by kernel_rfl
theorem math_bits_Mul64_sim (n:Nat) (x:Int) (y:Int) (r:Int×Int) (h:math_bits_Mul64 n x y=some r):PCall Tryd.prog 61 [(vU x),(vU y)] (eqA (.tup [(vU r.1),(vU r.2)])):=by
 unfold math_bits_Mul64 at h
 obtain rfl:=soI h
 exact kP (nA ord61 []) ordB61 (fun z=>z) (by kernel_rfl)

def ord47:List (Nat×PT):=[]
theorem ordB47:ordB (polF 47) ord47 (bodyOf Tryd.prog 47)=true:=by kernel_rfl
theorem math_bits_Mul_sim (n:Nat) (x:Int) (y:Int) (r:Int×Int) (h:math_bits_Mul n x y=some r):PCall Tryd.prog 47 [(vU x),(vU y)] (eqA (.tup [(vU r.1),(vU r.2)])):=by
 unfold math_bits_Mul at h
 obtain ⟨y1,gy1,h⟩:=bindE h
 obtain rfl:=soI h
 exact kP (nA ord47 [rVC 3 [] [(25,.tup [(vU y1.1),(vU y1.2)])]]) ordB47 (fun z=>(aI (math_bits_Mul64_sim n x y y1 gy1) z)) (by kernel_rfl)

def ord38:List (Nat×PT):=[(9,(.go 1 (.go 2 (.go 3 (.go 4 (.go 5 (.go 6 (.alt 0 (ptS [7,8,9]) (.alt 7 (ptS [0,8,9]) (ptS []))))))))))]
theorem ordB38:ordB (polF 38) ord38 (bodyOf Tryd.prog 38)=true:=by kernel_rfl
noncomputable def Z127:Code:=sub (bodyOf Tryd.prog 38) [1,1,1,1,1,1,0,0,0]
theorem Z128:ordB (polF 38) ord38 Z127=true:=by kernel_rfl
def Z129 (sa:(List Int)×Int):St:=mkS 48 [(7,.mf 0),(8,(vI sa.2))] [] [.arr true 1 (sa.1.map eI)] 0
def Z130 (tt:(List Int)):St:=mkS 48 [(7,.mf 0)] [] [.arr true 1 (tt.map eI)] 0
def Z131 (tt:((List Int))):Ex×St:=(.ex 0,Z130 tt)
theorem Z132 (n:Nat):∀ sa r,slices_Repeat_int_int_S_L1 n sa=some r→CodeD Tryd.prog Z127 (Z129 sa) (rk (Z129) (Z131) r):=by
 intro sa r h
 unfold slices_Repeat_int_int_S_L1 at h
 rcases iteN h with ⟨ha1,h⟩ | ⟨ha1,h⟩
 ·
  exact kQ h (nA ord38 [rV 8 [(36,(vI (sa.1.length:Int))),(37,vF)]]) [wK 2 [7] [] 1] Z128 (rkE rfl neE) (fun z=>(aL eI sa.1 (aB ha1 z))) (by kernel_rfl)
 obtain ⟨ha2,h⟩:=grdE h
 obtain ⟨ha3,h⟩:=grdE h
 obtain ⟨ha4,h⟩:=grdE h
 have d0_:okRows (((sa.1.map eI).drop 0).take ((sa.2).toNat))=true:=(by rw [← List.map_drop,← List.map_take]; exact okM)
 have d1_:Nat.ble ((sa.2).toNat + (sa.1.length - (sa.2).toNat)) (sa.1.map eI).length=true:=(by rw [List.length_map]; exact ha4)
 have d2_:AV.v (.int .i64 ((min (((sa.1.map eI).drop 0).take ((sa.2).toNat)).length (sa.1.length - (sa.2).toNat):Nat):Int))=AV.v (.int .i64 ((min ((sa.1.drop 0).take ((sa.2).toNat)).length (sa.1.length - (sa.2).toNat):Nat):Int)):=(by simp [List.map_take,List.map_drop])
 have d3_:(sa.1.map eI).take ((sa.2).toNat)++((((sa.1.map eI).drop 0).take ((sa.2).toNat)).take (sa.1.length - (sa.2).toNat)++(sa.1.map eI).drop ((sa.2).toNat + min (((sa.1.map eI).drop 0).take ((sa.2).toNat)).length (sa.1.length - (sa.2).toNat)))=(sa.1.take ((sa.2).toNat)++(((sa.1.drop 0).take ((sa.2).toNat)).take (sa.1.length - (sa.2).toNat)++sa.1.drop ((sa.2).toNat + min ((sa.1.drop 0).take ((sa.2).toNat)).length (sa.1.length - (sa.2).toNat)))).map eI:=(by simp [List.map_take,List.map_drop])
 exact kQ h (nA ord38 [rV 8 [(36,(vI (sa.1.length:Int))),(37,vT)],(9,⟨[],[41,44],[],[(41,.msl 0 ((sa.2).toNat) (sa.1.length - (sa.2).toNat) 0),(44,.msl 0 0 ((sa.2).toNat) (sa.1.length - (sa.2).toNat)),(45,.v (.int .i64 ((min ((sa.1.drop 0).take ((sa.2).toNat)).length (sa.1.length - (sa.2).toNat):Nat):Int)))],[],[],[(45,(0,(sa.1.take ((sa.2).toNat)++(((sa.1.drop 0).take ((sa.2).toNat)).take (sa.1.length - (sa.2).toNat)++sa.1.drop ((sa.2).toNat + min ((sa.1.drop 0).take ((sa.2).toNat)).length (sa.1.length - (sa.2).toNat)))).map eI))],[],[]⟩)]) [wK 0 [7,8] [] 1] Z128 rkN (fun z=>(aL eI sa.1 (aB ha1 (aI (cut_hi ha2:(decide ((0:Int)≤sa.2)&&decide (sa.2≤(((sa.1.map eI).length:Nat):Int)))=true) (aI (msl_len2 eI sa.1 _ _ _ _:AV.msl 0 (sa.2).toNat ((sa.1.map eI).length - (sa.2).toNat) 0=AV.msl 0 ((sa.2).toNat) (sa.1.length - (sa.2).toNat) 0) (aI (cut_hi ha3:(decide ((0:Int)≤sa.2)&&decide (sa.2≤(((sa.1.map eI).length:Nat):Int)))=true) (aI (msl_len eI sa.1 _ _ _ _:AV.msl 0 0 ((sa.2).toNat - 0) ((sa.1.map eI).length - (sa.2).toNat)=AV.msl 0 0 ((sa.2).toNat) (sa.1.length - (sa.2).toNat)) (aI d0_ (aI d1_ (aI d2_ (aI d3_ (aI d0_ (aI d1_ (aI d2_ (aI d3_ (aI (rfl:mkS 48 [(7,.mf 0),(8,.v (.int .i64 (addW .i64 sa.2 ((min ((sa.1.drop 0).take ((sa.2).toNat)).length (sa.1.length - (sa.2).toNat):Nat):Int)))),(34,(vI sa.2)),(35,.mf 0),(36,(vI (sa.1.length:Int))),(37,vT),(38,(vI sa.2)),(39,.mf 0),(40,(vI sa.2)),(41,.msl 0 ((sa.2).toNat) (sa.1.length - (sa.2).toNat) 0),(42,.mf 0),(43,(vI sa.2)),(44,.msl 0 0 ((sa.2).toNat) (sa.1.length - (sa.2).toNat)),(45,.v (.int .i64 ((min ((sa.1.drop 0).take ((sa.2).toNat)).length (sa.1.length - (sa.2).toNat):Nat):Int))),(46,.v (.int .i64 (addW .i64 sa.2 ((min ((sa.1.drop 0).take ((sa.2).toNat)).length (sa.1.length - (sa.2).toNat):Nat):Int))))] [] [.arr true 1 ((sa.1.take ((sa.2).toNat)++(((sa.1.drop 0).take ((sa.2).toNat)).take (sa.1.length - (sa.2).toNat)++sa.1.drop ((sa.2).toNat + min ((sa.1.drop 0).take ((sa.2).toNat)).length (sa.1.length - (sa.2).toNat)))).map eI)] 0=mkS 48 [(7,.mf 0),(8,.v (.int .i64 (addW .i64 sa.2 ((min ((sa.1.drop 0).take ((sa.2).toNat)).length (sa.1.length - (sa.2).toNat):Nat):Int)))),(34,(vI sa.2)),(35,.mf 0),(36,(vI (sa.1.length:Int))),(37,vT),(38,(vI sa.2)),(39,.mf 0),(40,(vI sa.2)),(41,.msl 0 ((sa.2).toNat) (sa.1.length - (sa.2).toNat) 0),(42,.mf 0),(43,(vI sa.2)),(44,.msl 0 0 ((sa.2).toNat) (sa.1.length - (sa.2).toNat)),(45,.v (.int .i64 ((min ((sa.1.drop 0).take ((sa.2).toNat)).length (sa.1.length - (sa.2).toNat):Nat):Int))),(46,.v (.int .i64 (addW .i64 sa.2 ((min ((sa.1.drop 0).take ((sa.2).toNat)).length (sa.1.length - (sa.2).toNat):Nat):Int))))] [] [.arr true 1 ((sa.1.take ((sa.2).toNat)++(((sa.1.drop 0).take ((sa.2).toNat)).take (sa.1.length - (sa.2).toNat)++sa.1.drop ((sa.2).toNat + min ((sa.1.drop 0).take ((sa.2).toNat)).length (sa.1.length - (sa.2).toNat)))).map eI)] 0) z)))))))))))))))) (by kernel_rfl)

def slices_Repeat_int_int_S_R (x:(List Int)) (count:Int) (y:(List Int)):AV×List Ob:=(.mf 0,[.arr true 1 (y.map eI)])
theorem slices_Repeat_int_int_S_sim (n:Nat) (x:(List Int)) (count:Int) (y:(List Int)) (h:slices_Repeat_int_int_S n x count=some y):SD Tryd.prog 38 [.sl (x.map eI),(vI count)] [] (fun r' o'=>r'=(slices_Repeat_int_int_S_R x count y).1∧o'=(slices_Repeat_int_int_S_R x count y).2):=by
 unfold slices_Repeat_int_int_S at h
 rcases iteE h with ⟨h1,h⟩ | ⟨h1,h⟩
 ·
  cases h
 obtain ⟨y2,gy2,h⟩:=bindE h
 have c58_:=fun (R:Prop) (z:R)=>(aB h1 (aL eI x (aI (math_bits_Mul_sim n (IntKind.wrap .u64 (x.length:Int)) (IntKind.wrap .u64 count) y2 gy2) z)))
 rcases iteE h with ⟨h3,h⟩ | ⟨h3,h⟩
 ·
  cases h
 rcases iteE h with ⟨h4,h⟩ | ⟨h4,h⟩
 ·
  cases h
 obtain ⟨h5,h⟩:=grdE h
 obtain ⟨t6,gt6,h⟩:=bindE h
 obtain rfl:=soI h
 exact kS ⟨ord38,[rV 1 [(10,vF)],rVC 3 [(14,(vI (x.length:Int)))] [(18,.tup [(vU y2.1),(vU y2.2)])],rV 4 [(23,vF),(26,vF)],(6,⟨[],[30],[],[],[],[],[(30,(0,(List.replicate ((IntKind.wrap .i64 y2.2)).toNat 0).map eI))],[],[]⟩),(7,⟨[],[],[],[(33,.v (.int .i64 ((min x.length (List.replicate ((IntKind.wrap .i64 y2.2)).toNat 0).length:Nat):Int)))],[],[],[(33,(0,(x.take (List.replicate ((IntKind.wrap .i64 y2.2)).toNat 0).length++(List.replicate ((IntKind.wrap .i64 y2.2)).toNat 0).drop x.length).map eI))],[],[]⟩)],[],[(8,(⟨[7,8],[],1,[],[],[]⟩,l0,(.ex 0),Z130 t6))],[]⟩ ordB38 ⟨rfl,rfl⟩ (fun z=>(c58_ _ (aB h3 (aB h4 (aI h5 (aI (rep_map eI _ 0:List.replicate ((IntKind.wrap .i64 y2.2)).toNat [(vI 0)]=(List.replicate ((IntKind.wrap .i64 y2.2)).toNat 0).map eI) (aI (szM:szOk 1 (x.map eI)=true) (aI (okM:okRows (x.map eI)=true) (aI ((by simp [List.map_take,List.map_drop]):AV.v (.int .i64 ((min (x.map eI).length ((List.replicate ((IntKind.wrap .i64 y2.2)).toNat 0).map eI).length:Nat):Int))=AV.v (.int .i64 ((min x.length (List.replicate ((IntKind.wrap .i64 y2.2)).toNat 0).length:Nat):Int))) (aI ((by simp [List.map_take,List.map_drop]):(x.map eI).take ((List.replicate ((IntKind.wrap .i64 y2.2)).toNat 0).map eI).length++((List.replicate ((IntKind.wrap .i64 y2.2)).toNat 0).map eI).drop (x.map eI).length=(x.take (List.replicate ((IntKind.wrap .i64 y2.2)).toNat 0).length++(List.replicate ((IntKind.wrap .i64 y2.2)).toNat 0).drop x.length).map eI) (aI (okL (pl:=polF 38) (Z129) (Z131) (Z132 n) n _ t6 gt6) z))))))))))) (by kernel_rfl)

def ord26:List (Nat×PT):=[]
theorem ordB26:ordB (polF 26) ord26 (bodyOf Tryd.prog 26)=true:=by kernel_rfl
noncomputable def Z133:Code:=sub (bodyOf Tryd.prog 26) [1,1,1,0,1,0,0]
theorem Z134:ordB (polF 26) ord26 Z133=true:=by kernel_rfl
def Z135 (c:Cand) (sa:(List Int)×Int):St:=mkS 28 [(3,.mf 0),(15,.sl (c.Order.map eI)),(16,(vI (c.Order.length:Int))),(17,(vI sa.2))] [] [.arr true 1 (sa.1.map eI)] 0
def Z136 (c:Cand) (tt:(List Int)):St:=mkS 28 [(3,.mf 0)] [] [.arr true 1 (tt.map eI)] 0
def Z137 (c:Cand) (tt:((List Int))):Ex×St:=(.ex 0,Z136 c tt)
theorem Z138 (n:Nat) (c:Cand):∀ sa r,cand_Places_L1 n c sa=some r→CodeD Tryd.prog Z133 (Z135 c sa) (rk (Z135 c) (Z137 c) r):=by
 intro sa r h
 unfold cand_Places_L1 at h
 rcases iteN h with ⟨ha1,h⟩ | ⟨ha1,h⟩
 ·
  exact kQ h (nA ord26 [rV 5 [(18,vF)]]) [wK 2 [3] [] 1] Z134 (rkE rfl neE) (fun z=>(aB ha1 z)) (by kernel_rfl)
 obtain ⟨xa2,gxa2,h⟩:=bindE h
 obtain ⟨xa3,gxa3,h⟩:=bindE h
 exact kQ h (nA ord26 [rV 5 [(18,vT)],rR 6 [(20,[(vI xa2)])],(7,⟨[],[],[(25,[(vI xa3)]),(1000025,[(vI xa3)])],[],[],[],[(1000025,(0,(sa.1.set (xa2).toNat sa.2).map eI))],[],[]⟩)]) [wK 0 [3,15,16,17] [] 1] Z134 rkN (fun z=>(aB ha1 (aM eI gxa2 (aM eI gxa3 (aN eI gxa3 (aI (set_map eI sa.1 ((xa2).toNat) sa.2) z)))))) (by kernel_rfl)

theorem cand_Places_sim (n:Nat) (c:Cand) (r:(List Int)) (h:cand_Places n c=some r):PCall Tryd.prog 26 [(aAgg Cand.enc c)] (eqA (.sl (r.map eI))):=by
 unfold cand_Places at h
 obtain ⟨y1,gy1,h⟩:=bindE h
 have c59_:=fun (R:Prop) (z:R)=>(aI (cand_Check_sim n c y1 gy1) z)
 rcases iteE h with ⟨h2,h⟩ | ⟨h2,h⟩
 ·
  obtain rfl:=soI h
  exact kP (nA ord26 [rVC 1 [(8,vT)] [(7,(vI y1))]]) ordB26 (fun z=>(c59_ _ (aB h2 (LeA.nil:LeA .nilsl (.sl (([]:List Int).map eI)))))) (by kernel_rfl)
 obtain ⟨y3,gy3,h⟩:=bindE h
 obtain ⟨t4,gt4,h⟩:=bindE h
 obtain rfl:=soI h
 exact kP ⟨ord26,[rVC 1 [(8,vF)] [(7,(vI y1))],(3,⟨[],[],[],[(12,(vI (c.From.length:Int)))],[],[(13,(.mf 0,[.arr true 1 (y3.map eI)]))],[],[],[]⟩),rV 4 [(16,(vI (c.Order.length:Int)))]],[],[(5,(⟨[3,15,16,17],[1],1,[],[],[]⟩,l0,(.ex 0),Z136 c t4))],[]⟩ ordB26 (fun z=>(c59_ _ (aB h2 (aL eI c.From (aI (slices_Repeat_int_int_S_sim n ([(-1)]:List Int) (c.From.length:Int) y3 gy3) (aL eI c.Order (aI (okL (pl:=polF 26) (Z135 c) (Z137 c) (Z138 n c) n _ t4 gt4) z))))))) (by kernel_rfl)

end
end Go.Proofs.YtomahedcdcnnhaaDoor
