/- What the functions compute, they compute: printed by a program, path by path. No conditions. -/
import Derived.Test.YtnmmknnnggcijaaDoorP0
import Derived.KernelRfl
namespace Go.Proofs.YtnmmknnnggcijaaDoor
open Go A
set_option linter.unusedVariables false
set_option maxRecDepth 100000
set_option maxHeartbeats 0
section
variable (pc:Nat→List AV→(AV→Prop)→Prop) (sc:Nat→List AV→List Ob→(AV→List Ob→Prop)→Prop) (lp:Pol→Code→St→(Ex→St→Prop)→Prop) (cd:CutP)

def stL:List Nat:=[2,3,4,5,6,7,8,10,11,12,13,16,17,18,19,20,21,22,23,24,25,26,27,30,31,32,33,34,35,36,38,39,40,41,43,44,45,46,47,48,49,50,60,61,62,63,64,65,66,67,68,69,70,71,72,73,74,96]
noncomputable def cfgL:A.Cfg:={ P:=Tryd.prog,pure:=fun f=>!(hasN stL f),pol:=fun f=>{ esc:=match f with | 45=>[5] | 46=>[7] | 65=>[12] | _=>[],ms:=match f with | 5=>[9,65,71,77] | 10=>[17] | 17=>[12,18,31,39] | 44=>[13] | _=>[],bx:=match f with | 4=>[7,9,13] | 5=>[1,3,5,6] | 8=>[7] | 11=>[2] | 14=>[8,11,12,14] | 15=>[1,2] | 16=>[1,4,5] | 17=>[1] | 18=>[1] | 19=>[2,3] | 20=>[1] | 21=>[1] | 23=>[2,3,5,6] | 24=>[1,2] | 28=>[1,2] | 37=>[1,2] | _=>[],st:=stL } }
set_option maxRecDepth 1000000 in
set_option maxHeartbeats 0 in
theorem lives_run:A.Gives cfgL 2000 6 [] (vT)=(AV.v (.bool true)=AV.v (.bool true)):=by kernel_rfl
theorem cfgL_mix:cfgL.P.follows .mixedOrders=true:=by kernel_rfl
set_option maxRecDepth 1000000 in
theorem law_lives_sim (n:Nat) (r:Bool) (h:law_lives n=some r):PCall Tryd.prog 6 [] (eqA (.v (.bool r))):=by
  have e:=Option.some.inj h
  subst e
  exact PCall.ofN (cfg:=cfgL) (noNum_of names0) cfgL_mix (by rw [lives_run])
def ord11:List (Nat×PT):=[]
theorem ordB11:ordB (polF 11) ord11 (bodyOf Tryd.prog 11)=true:=by kernel_rfl
theorem kit_LightDeps_sim (n:Nat) (d:Deps) (most:Int) (r:Bool) (h:kit_LightDeps n d most=some r):PCall Tryd.prog 11 [(aAgg Deps.enc d),(vI most)] (eqA (.v (.bool r))):=by
 unfold kit_LightDeps at h
 rcases iteN h with ⟨h1,h⟩ | ⟨h1,h⟩
 ·
  obtain rfl:=soI h
  exact kP ⟨ord11,[rV 1 [(7,(vI (d.Addr.length:Int))),(10,vF)]],[],[],[]⟩ ordB11 (fun z=>(aL eI d.Addr (aB h1 z))) (by kernel_rfl)
 rcases iteN h with ⟨h2,h⟩ | ⟨h2,h⟩
 ·
  obtain rfl:=soI h
  exact kP ⟨ord11,[rV 1 [(7,(vI (d.Addr.length:Int))),(10,vT),(13,(vI (d.Data.length:Int))),(17,vF)]],[],[],[]⟩ ordB11 (fun z=>(aL eI d.Addr (aB h1 (aL eI d.Data (aB h2 z))))) (by kernel_rfl)
 obtain rfl:=soI h
 exact kP ⟨ord11,[rV 1 [(7,(vI (d.Addr.length:Int))),(10,vT),(13,(vI (d.Data.length:Int))),(17,vT),(20,(vI (d.Way.length:Int)))]],[],[],[]⟩ ordB11 (fun z=>(aL eI d.Addr (aB h1 (aL eI d.Data (aB h2 (aL eI d.Way z)))))) (by kernel_rfl)

def ord7:List (Nat×PT):=[]
theorem ordB7:ordB (polF 7) ord7 (bodyOf Tryd.prog 7)=true:=by kernel_rfl
noncomputable def c_kit_LightEvents_L1:Code:=sub (bodyOf Tryd.prog 7) [1,1,0,1,0,0]
theorem ordB_kit_LightEvents_L1:ordB (polF 7) ord7 c_kit_LightEvents_L1=true:=by kernel_rfl
def kit_LightEvents_L1_S (l:(List Event)) (sa:Int):St:=mkS 23 [(0,.sl (l.map Event.enc)),(5,(vI sa))] [] [] 0
def kit_LightEvents_L1_T0 (l:(List Event)) (tt:Unit):St:=mkS 23 [] [] [] 0
def kit_LightEvents_L1_T1 (l:(List Event)) (tt:Unit):St:=mkS 23 [(4,vF)] [] [] 0
def kit_LightEvents_L1_out (l:(List Event)) (t0:(Unit⊕Unit)):Ex×St:=match t0 with | .inl tt=>(.ex 0,kit_LightEvents_L1_T0 l tt) | .inr tt=>(.ret,kit_LightEvents_L1_T1 l tt)
theorem kit_LightEvents_L1_sim (n:Nat) (l:(List Event)):∀ sa r,kit_LightEvents_L1 n l sa=some r→CodeD Tryd.prog c_kit_LightEvents_L1 (kit_LightEvents_L1_S l sa) (rk (kit_LightEvents_L1_S l) (kit_LightEvents_L1_out l) r):=by
 intro sa r h
 unfold kit_LightEvents_L1 at h
 rcases iteN h with ⟨ha1,h⟩ | ⟨ha1,h⟩
 ·
  obtain rfl:=soI h
  exact kR ⟨ord7,[rV 4 [(12,(vI (l.length:Int))),(13,vF)]],[],[],[]⟩ [(2,⟨[],[],0,[],[],[]⟩,⟨[],[],[]⟩)] ordB_kit_LightEvents_L1 (rkE rfl neE) (fun z=>(aL Event.enc l (aB ha1 z))) (by kernel_rfl)
 obtain ⟨xa2,gxa2,h⟩:=bindE h
 obtain ⟨ya3,gya3,h⟩:=bindE h
 rcases iteN h with ⟨ha4,h⟩ | ⟨ha4,h⟩
 ·
  obtain rfl:=soI h
  exact kR ⟨ord7,[rV 4 [(12,(vI (l.length:Int))),(13,vT)],(6,⟨[],[],[(18,(Event.enc xa2))],[(22,vF)],[(21,.v (.bool ya3))],[],[],[]⟩)],[],[],[]⟩ [(0,⟨[0,5],[],0,[],[],[]⟩,⟨[],[],[]⟩)] ordB_kit_LightEvents_L1 rkN (fun z=>(aL Event.enc l (aB ha1 (aM Event.enc gxa2 (aI (kit_LightDeps_sim n xa2.Deps 60 ya3 gya3) (aB ha4 z)))))) (by kernel_rfl)
 obtain rfl:=soI h
 exact kR ⟨ord7,[rV 4 [(12,(vI (l.length:Int))),(13,vT)],(6,⟨[],[],[(18,(Event.enc xa2))],[(22,vT)],[(21,.v (.bool ya3))],[],[],[]⟩)],[],[],[]⟩ [(1,⟨[4],[],0,[],[],[]⟩,⟨[],[],[]⟩)] ordB_kit_LightEvents_L1 (rkE rfl neR) (fun z=>(aL Event.enc l (aB ha1 (aM Event.enc gxa2 (aI (kit_LightDeps_sim n xa2.Deps 60 ya3 gya3) (aB ha4 z)))))) (by kernel_rfl)

theorem kit_LightEvents_sim (n:Nat) (l:(List Event)) (most:Int) (r:Bool) (h:kit_LightEvents n l most=some r):PCall Tryd.prog 7 [.sl (l.map Event.enc),(vI most)] (eqA (.v (.bool r))):=by
 unfold kit_LightEvents at h
 rcases iteE h with ⟨h1,h⟩ | ⟨h1,h⟩
 ·
  obtain rfl:=soI h
  exact kP ⟨ord7,[rV 1 [(7,(vI (l.length:Int))),(9,vT)]],[],[],[]⟩ ordB7 (fun z=>(aL Event.enc l (aB h1 z))) (by kernel_rfl)
 obtain ⟨t2,gt2,h⟩:=bindE h
 rcases t2 with w3 | w3
 ·
  obtain rfl:=soI h
  exact kP ⟨ord7,[rV 1 [(7,(vI (l.length:Int))),(9,vF)]],[],[(4,(⟨[0,5],[],0,[],[],[]⟩,⟨[],[],[]⟩,(.ex 0),kit_LightEvents_L1_T0 l w3))],[]⟩ ordB7 (fun z=>(aL Event.enc l (aB h1 (aI (okL (pl:=polF 7) (kit_LightEvents_L1_S l) (kit_LightEvents_L1_out l) (kit_LightEvents_L1_sim n l) n _ (.inl w3) gt2) z)))) (by kernel_rfl)
 ·
  obtain rfl:=soI h
  exact kP ⟨ord7,[rV 1 [(7,(vI (l.length:Int))),(9,vF)]],[],[(4,(⟨[0,5],[],0,[],[],[]⟩,⟨[],[],[]⟩,.ret,kit_LightEvents_L1_T1 l w3))],[]⟩ ordB7 (fun z=>(aL Event.enc l (aB h1 (aI (okL (pl:=polF 7) (kit_LightEvents_L1_S l) (kit_LightEvents_L1_out l) (kit_LightEvents_L1_sim n l) n _ (.inr w3) gt2) z)))) (by kernel_rfl)

def ord30:List (Nat×PT):=[]
theorem ordB30:ordB (polF 30) ord30 (bodyOf Tryd.prog 30)=true:=by kernel_rfl
theorem event_has_sim (n:Nat) (kind:Int) (r:Int) (h:event_has n kind=some r):PCall Tryd.prog 30 [(vI kind)] (eqA ((vU r))):=by
 unfold event_has at h
 rcases iteE h with ⟨h1,h⟩ | ⟨h1,h⟩
 ·
  obtain rfl:=soI h
  exact kP ⟨ord30,[rV 1 [(5,vT)]],[],[],[]⟩ ordB30 (fun z=>(aB h1 z)) (by kernel_rfl)
 rcases iteE h with ⟨h2,h⟩ | ⟨h2,h⟩
 ·
  obtain rfl:=soI h
  exact kP ⟨ord30,[rV 1 [(5,vF),(8,vT)]],[],[],[]⟩ ordB30 (fun z=>(aB h1 (aB h2 z))) (by kernel_rfl)
 rcases iteE h with ⟨h3,h⟩ | ⟨h3,h⟩
 ·
  obtain rfl:=soI h
  exact kP ⟨ord30,[rV 1 [(5,vF),(8,vF)],rV 3 [(10,(vI 0))]],[],[],[]⟩ ordB30 (fun z=>(aB h1 (aB h2 (aE .i64 h3 z)))) (by kernel_rfl)
 rcases iteE h with ⟨h3,h⟩ | ⟨h3,h⟩
 ·
  obtain rfl:=soI h
  exact kP ⟨ord30,[rV 1 [(5,vF),(8,vF)],rV 3 [(10,(vI 1))]],[],[],[]⟩ ordB30 (fun z=>(aB h1 (aB h2 (aE .i64 h3 z)))) (by kernel_rfl)
 rcases iteE h with ⟨h3,h⟩ | ⟨h3,h⟩
 ·
  obtain rfl:=soI h
  exact kP ⟨ord30,[rV 1 [(5,vF),(8,vF)],rV 3 [(10,(vI 2))]],[],[],[]⟩ ordB30 (fun z=>(aB h1 (aB h2 (aE .i64 h3 z)))) (by kernel_rfl)
 rcases iteE h with ⟨h3,h⟩ | ⟨h3,h⟩
 ·
  obtain rfl:=soI h
  exact kP ⟨ord30,[rV 1 [(5,vF),(8,vF)],rV 3 [(10,(vI 3))]],[],[],[]⟩ ordB30 (fun z=>(aB h1 (aB h2 (aE .i64 h3 z)))) (by kernel_rfl)
 rcases iteE h with ⟨h3,h⟩ | ⟨h3,h⟩
 ·
  obtain rfl:=soI h
  exact kP ⟨ord30,[rV 1 [(5,vF),(8,vF)],rV 3 [(10,(vI 4))]],[],[],[]⟩ ordB30 (fun z=>(aB h1 (aB h2 (aE .i64 h3 z)))) (by kernel_rfl)
 rcases iteE h with ⟨h3,h⟩ | ⟨h3,h⟩
 ·
  obtain rfl:=soI h
  exact kP ⟨ord30,[rV 1 [(5,vF),(8,vF)],rV 3 [(10,(vI 5))]],[],[],[]⟩ ordB30 (fun z=>(aB h1 (aB h2 (aE .i64 h3 z)))) (by kernel_rfl)
 rcases iteE h with ⟨h3,h⟩ | ⟨h3,h⟩
 ·
  obtain rfl:=soI h
  exact kP ⟨ord30,[rV 1 [(5,vF),(8,vF)],rV 3 [(10,(vI 6))]],[],[],[]⟩ ordB30 (fun z=>(aB h1 (aB h2 (aE .i64 h3 z)))) (by kernel_rfl)
 cases h

def ord36:List (Nat×PT):=[(6,(ptS [0,1,2,3,4,5,6,7,8]))]
theorem ordB36:ordB (polF 36) ord36 (bodyOf Tryd.prog 36)=true:=by kernel_rfl
noncomputable def c_slices_Equal_int_int_L1:Code:=sub (bodyOf Tryd.prog 36) [1,1,0,1,0,0]
theorem ordB_slices_Equal_int_int_L1:ordB (polF 36) ord36 c_slices_Equal_int_int_L1=true:=by kernel_rfl
def slices_Equal_int_int_L1_S (s1_:(List Int)) (s2_:(List Int)) (sa:Int):St:=mkS 26 [(0,.sl (s1_.map eI)),(1,.sl (s2_.map eI)),(12,(vI (s1_.length:Int))),(13,(vI sa))] [] [] 0
def slices_Equal_int_int_L1_T0 (s1_:(List Int)) (s2_:(List Int)) (tt:Unit):St:=mkS 26 [] [] [] 0
def slices_Equal_int_int_L1_T1 (s1_:(List Int)) (s2_:(List Int)) (tt:Unit):St:=mkS 26 [(4,vF)] [] [] 0
def slices_Equal_int_int_L1_out (s1_:(List Int)) (s2_:(List Int)) (t0:(Unit⊕Unit)):Ex×St:=match t0 with | .inl tt=>(.ex 0,slices_Equal_int_int_L1_T0 s1_ s2_ tt) | .inr tt=>(.ret,slices_Equal_int_int_L1_T1 s1_ s2_ tt)
theorem slices_Equal_int_int_L1_sim (n:Nat) (s1_:(List Int)) (s2_:(List Int)):∀ sa r,slices_Equal_int_int_L1 n s1_ s2_ sa=some r→CodeD Tryd.prog c_slices_Equal_int_int_L1 (slices_Equal_int_int_L1_S s1_ s2_ sa) (rk (slices_Equal_int_int_L1_S s1_ s2_) (slices_Equal_int_int_L1_out s1_ s2_) r):=by
 intro sa r h
 unfold slices_Equal_int_int_L1 at h
 rcases iteN h with ⟨ha1,h⟩ | ⟨ha1,h⟩
 ·
  obtain rfl:=soI h
  exact kR ⟨ord36,[rV 4 [(14,vF)]],[],[],[]⟩ [(2,⟨[],[],0,[],[],[]⟩,⟨[],[],[]⟩)] ordB_slices_Equal_int_int_L1 (rkE rfl neE) (fun z=>(aB ha1 z)) (by kernel_rfl)
 obtain ⟨xa2,gxa2,h⟩:=bindE h
 obtain ⟨xa3,gxa3,h⟩:=bindE h
 rcases iteE h with ⟨ha4,h⟩ | ⟨ha4,h⟩
 ·
  obtain rfl:=soI h
  exact kR ⟨ord36,[rV 4 [(14,vT)],(6,⟨[],[],[(18,[(vI xa2)]),(22,[(vI xa3)])],[(24,vT)],[],[],[],[]⟩)],[],[],[]⟩ [(1,⟨[4],[],0,[],[],[]⟩,⟨[],[],[]⟩)] ordB_slices_Equal_int_int_L1 (rkE rfl neR) (fun z=>(aB ha1 (aM eI gxa2 (aM eI gxa3 (aB ha4 z))))) (by kernel_rfl)
 obtain rfl:=soI h
 exact kR ⟨ord36,[rV 4 [(14,vT)],(6,⟨[],[],[(18,[(vI xa2)]),(22,[(vI xa3)])],[(24,vF)],[],[],[],[]⟩)],[],[],[]⟩ [(0,⟨[0,1,12,13],[],0,[],[],[]⟩,⟨[],[],[]⟩)] ordB_slices_Equal_int_int_L1 rkN (fun z=>(aB ha1 (aM eI gxa2 (aM eI gxa3 (aB ha4 z))))) (by kernel_rfl)

theorem slices_Equal_int_int_sim (n:Nat) (s1_:(List Int)) (s2_:(List Int)) (r:Bool) (h:slices_Equal_int_int n s1_ s2_=some r):PCall Tryd.prog 36 [.sl (s1_.map eI),.sl (s2_.map eI)] (eqA (.v (.bool r))):=by
 unfold slices_Equal_int_int at h
 rcases iteE h with ⟨h1,h⟩ | ⟨h1,h⟩
 ·
  obtain rfl:=soI h
  exact kP ⟨ord36,[rV 1 [(7,(vI (s1_.length:Int))),(9,(vI (s2_.length:Int))),(10,vT)]],[],[],[]⟩ ordB36 (fun z=>(aL eI s1_ (aL eI s2_ (aB h1 z)))) (by kernel_rfl)
 obtain ⟨t2,gt2,h⟩:=bindE h
 rcases t2 with w3 | w3
 ·
  obtain rfl:=soI h
  exact kP ⟨ord36,[rV 1 [(7,(vI (s1_.length:Int))),(9,(vI (s2_.length:Int))),(10,vF)],rV 3 [(12,(vI (s1_.length:Int)))]],[],[(4,(⟨[0,1,12,13],[],0,[],[],[]⟩,⟨[],[],[]⟩,(.ex 0),slices_Equal_int_int_L1_T0 s1_ s2_ w3))],[]⟩ ordB36 (fun z=>(aL eI s1_ (aL eI s2_ (aB h1 (aL eI s1_ (aI (okL (pl:=polF 36) (slices_Equal_int_int_L1_S s1_ s2_) (slices_Equal_int_int_L1_out s1_ s2_) (slices_Equal_int_int_L1_sim n s1_ s2_) n _ (.inl w3) gt2) z)))))) (by kernel_rfl)
 ·
  obtain rfl:=soI h
  exact kP ⟨ord36,[rV 1 [(7,(vI (s1_.length:Int))),(9,(vI (s2_.length:Int))),(10,vF)],rV 3 [(12,(vI (s1_.length:Int)))]],[],[(4,(⟨[0,1,12,13],[],0,[],[],[]⟩,⟨[],[],[]⟩,.ret,slices_Equal_int_int_L1_T1 s1_ s2_ w3))],[]⟩ ordB36 (fun z=>(aL eI s1_ (aL eI s2_ (aB h1 (aL eI s1_ (aI (okL (pl:=polF 36) (slices_Equal_int_int_L1_S s1_ s2_) (slices_Equal_int_int_L1_out s1_ s2_) (slices_Equal_int_int_L1_sim n s1_ s2_) n _ (.inr w3) gt2) z)))))) (by kernel_rfl)

def ord37:List (Nat×PT):=[]
theorem ordB37:ordB (polF 37) ord37 (bodyOf Tryd.prog 37)=true:=by kernel_rfl
theorem event_Same_1_sim (n:Nat) (e:Event) (r:event_rest) (h:event_Same_1 n e=some r):PCall Tryd.prog 37 [(aAgg Event.enc e)] (eqA ((aAgg event_rest.enc r))):=by
 unfold event_Same_1 at h
 obtain rfl:=soI h
 exact kP ⟨ord37,[],[],[],[]⟩ ordB37 (fun z=>z) (by kernel_rfl)

def ord23:List (Nat×PT):=[(1,(ptS [0,1,2,3,4,5,6,7])),(5,(ptS [0,1,2,3,4,5,6,7]))]
theorem ordB23:ordB (polF 23) ord23 (bodyOf Tryd.prog 23)=true:=by kernel_rfl
theorem event_Same_sim (n:Nat) (a:Event) (b:Event) (r:Bool) (h:event_Same n a b=some r):PCall Tryd.prog 23 [(aAgg Event.enc a),(aAgg Event.enc b)] (eqA (.v (.bool r))):=by
 unfold event_Same at h
 obtain ⟨y1,gy1,h⟩:=bindE h
 rcases iteE h with ⟨h2,h⟩ | ⟨h2,h⟩
 ·
  obtain rfl:=soI h
  exact kP ⟨ord23,[rVC 2 [(18,vT)] [(16,.v (.bool y1))]],[],[],[]⟩ ordB23 (fun z=>(aI (slices_Equal_int_int_sim n a.Deps.Addr b.Deps.Addr y1 gy1) (aB h2 z))) (by kernel_rfl)
 obtain ⟨y3,gy3,h⟩:=bindE h
 rcases iteE h with ⟨h4,h⟩ | ⟨h4,h⟩
 ·
  obtain rfl:=soI h
  exact kP ⟨ord23,[rVC 2 [(18,vF),(26,vT)] [(16,.v (.bool y1)),(23,.v (.bool y3))]],[],[],[]⟩ ordB23 (fun z=>(aI (slices_Equal_int_int_sim n a.Deps.Addr b.Deps.Addr y1 gy1) (aB h2 (aI (slices_Equal_int_int_sim n a.Deps.Data b.Deps.Data y3 gy3) (aB h4 z))))) (by kernel_rfl)
 obtain ⟨y5,gy5,h⟩:=bindE h
 rcases iteE h with ⟨h6,h⟩ | ⟨h6,h⟩
 ·
  obtain rfl:=soI h
  exact kP ⟨ord23,[rVC 2 [(18,vF),(26,vF),(33,vT)] [(16,.v (.bool y1)),(23,.v (.bool y3)),(31,.v (.bool y5))]],[],[],[]⟩ ordB23 (fun z=>(aI (slices_Equal_int_int_sim n a.Deps.Addr b.Deps.Addr y1 gy1) (aB h2 (aI (slices_Equal_int_int_sim n a.Deps.Data b.Deps.Data y3 gy3) (aB h4 (aI (slices_Equal_int_int_sim n a.Deps.Way b.Deps.Way y5 gy5) (aB h6 z))))))) (by kernel_rfl)
 obtain ⟨y7,gy7,h⟩:=bindE h
 obtain ⟨y8,gy8,h⟩:=bindE h
 rcases iteE h with ⟨h9,h⟩ | ⟨h9,h⟩
 ·
  obtain rfl:=soI h
  exact kP ⟨ord23,[rVC 2 [(18,vF),(26,vF),(33,vF)] [(16,.v (.bool y1)),(23,.v (.bool y3)),(31,.v (.bool y5))],(5,⟨[],[40],[],[(40,vT)],[(36,(aAgg event_rest.enc y7)),(39,(aAgg event_rest.enc y8))],[],[],[]⟩)],[],[],[]⟩ ordB23 (fun z=>(aI (slices_Equal_int_int_sim n a.Deps.Addr b.Deps.Addr y1 gy1) (aB h2 (aI (slices_Equal_int_int_sim n a.Deps.Data b.Deps.Data y3 gy3) (aB h4 (aI (slices_Equal_int_int_sim n a.Deps.Way b.Deps.Way y5 gy5) (aB h6 (aI (event_Same_1_sim n a y7 gy7) (aI (event_Same_1_sim n b y8 gy8) (aI ((aggEq_event_rest_eql y7 y8).trans (congrArg (fun b=>some (Value.bool b)) h9):aggEq Tryd.prog .eql 66 [(.int .i64 y7.hart),(.int .i64 y7.at_),(.int .i64 y7.kind),(.int .i64 y7.pred),(.int .i64 y7.succ),(.int .i64 y7.pair),(.int .u64 y7.addr),(.int .u64 y7.load),(.int .u64 y7.store),(.bool y7.aq),(.bool y7.rl)] [(.int .i64 y8.hart),(.int .i64 y8.at_),(.int .i64 y8.kind),(.int .i64 y8.pred),(.int .i64 y8.succ),(.int .i64 y8.pair),(.int .u64 y8.addr),(.int .u64 y8.load),(.int .u64 y8.store),(.bool y8.aq),(.bool y8.rl)]=some (.bool true)) (aI (rfl:AV.v (.bool true)=AV.v (.bool true)) z))))))))))) (by kernel_rfl)
 obtain rfl:=soI h
 exact kP ⟨ord23,[rVC 2 [(18,vF),(26,vF),(33,vF)] [(16,.v (.bool y1)),(23,.v (.bool y3)),(31,.v (.bool y5))],(5,⟨[],[40],[],[(40,vF)],[(36,(aAgg event_rest.enc y7)),(39,(aAgg event_rest.enc y8))],[],[],[]⟩)],[],[],[]⟩ ordB23 (fun z=>(aI (slices_Equal_int_int_sim n a.Deps.Addr b.Deps.Addr y1 gy1) (aB h2 (aI (slices_Equal_int_int_sim n a.Deps.Data b.Deps.Data y3 gy3) (aB h4 (aI (slices_Equal_int_int_sim n a.Deps.Way b.Deps.Way y5 gy5) (aB h6 (aI (event_Same_1_sim n a y7 gy7) (aI (event_Same_1_sim n b y8 gy8) (aI ((aggEq_event_rest_eql y7 y8).trans (congrArg (fun b=>some (Value.bool b)) h9):aggEq Tryd.prog .eql 66 [(.int .i64 y7.hart),(.int .i64 y7.at_),(.int .i64 y7.kind),(.int .i64 y7.pred),(.int .i64 y7.succ),(.int .i64 y7.pair),(.int .u64 y7.addr),(.int .u64 y7.load),(.int .u64 y7.store),(.bool y7.aq),(.bool y7.rl)] [(.int .i64 y8.hart),(.int .i64 y8.at_),(.int .i64 y8.kind),(.int .i64 y8.pred),(.int .i64 y8.succ),(.int .i64 y8.pair),(.int .u64 y8.addr),(.int .u64 y8.load),(.int .u64 y8.store),(.bool y8.aq),(.bool y8.rl)]=some (.bool false)) (aI (rfl:AV.v (.bool false)=AV.v (.bool false)) z))))))))))) (by kernel_rfl)

def ord43:List (Nat×PT):=[]
theorem ordB43:ordB (polF 43) ord43 (bodyOf Tryd.prog 43)=true:=by kernel_rfl
noncomputable def c_taint_Rising_L1:Code:=sub (bodyOf Tryd.prog 43) [1,1,0,1,0,0]
theorem ordB_taint_Rising_L1:ordB (polF 43) ord43 c_taint_Rising_L1=true:=by kernel_rfl
def taint_Rising_L1_S (l:(List Int)) (sa:Int×Int):St:=mkS 17 [(3,(vI sa.1)),(6,.sl (l.map eI)),(7,(vI (l.length:Int))),(8,(vI sa.2))] [] [] 0
def taint_Rising_L1_T0 (l:(List Int)) (tt:Unit):St:=mkS 17 [] [] [] 0
def taint_Rising_L1_T1 (l:(List Int)) (tt:Unit):St:=mkS 17 [(2,vF)] [] [] 0
def taint_Rising_L1_out (l:(List Int)) (t0:(Unit⊕Unit)):Ex×St:=match t0 with | .inl tt=>(.ex 0,taint_Rising_L1_T0 l tt) | .inr tt=>(.ret,taint_Rising_L1_T1 l tt)
theorem taint_Rising_L1_sim (n:Nat) (l:(List Int)):∀ sa r,taint_Rising_L1 n l sa=some r→CodeD Tryd.prog c_taint_Rising_L1 (taint_Rising_L1_S l sa) (rk (taint_Rising_L1_S l) (taint_Rising_L1_out l) r):=by
 intro sa r h
 unfold taint_Rising_L1 at h
 rcases iteN h with ⟨ha1,h⟩ | ⟨ha1,h⟩
 ·
  obtain rfl:=soI h
  exact kR ⟨ord43,[rV 3 [(9,vF)]],[],[],[]⟩ [(2,⟨[],[],0,[],[],[]⟩,⟨[],[],[]⟩)] ordB_taint_Rising_L1 (rkE rfl neE) (fun z=>(aB ha1 z)) (by kernel_rfl)
 obtain ⟨xa2,gxa2,h⟩:=bindE h
 rcases iteE h with ⟨ha3,h⟩ | ⟨ha3,h⟩
 ·
  obtain rfl:=soI h
  exact kR ⟨ord43,[rV 3 [(9,vT)],(4,⟨[],[],[(10,[(vI xa2)])],[],[],[],[],[]⟩),rV 5 [(14,vT)]],[],[],[]⟩ [(1,⟨[2],[],0,[],[],[]⟩,⟨[],[],[]⟩)] ordB_taint_Rising_L1 (rkE rfl neR) (fun z=>(aB ha1 (aM eI gxa2 (aB ha3 z)))) (by kernel_rfl)
 obtain rfl:=soI h
 exact kR ⟨ord43,[rV 3 [(9,vT)],(4,⟨[],[],[(10,[(vI xa2)])],[],[],[],[],[]⟩),rV 5 [(14,vF)]],[],[],[]⟩ [(0,⟨[3,6,7,8],[],0,[],[],[]⟩,⟨[],[],[]⟩)] ordB_taint_Rising_L1 rkN (fun z=>(aB ha1 (aM eI gxa2 (aB ha3 z)))) (by kernel_rfl)

theorem taint_Rising_sim (n:Nat) (l:(List Int)) (r:Bool) (h:taint_Rising n l=some r):PCall Tryd.prog 43 [.sl (l.map eI)] (eqA (.v (.bool r))):=by
 unfold taint_Rising at h
 obtain ⟨t1,gt1,h⟩:=bindE h
 rcases t1 with w2 | w2
 ·
  obtain rfl:=soI h
  exact kP ⟨ord43,[rV 2 [(7,(vI (l.length:Int)))]],[],[(3,(⟨[3,6,7,8],[],0,[],[],[]⟩,⟨[],[],[]⟩,(.ex 0),taint_Rising_L1_T0 l w2))],[]⟩ ordB43 (fun z=>(aL eI l (aI (okL (pl:=polF 43) (taint_Rising_L1_S l) (taint_Rising_L1_out l) (taint_Rising_L1_sim n l) n _ (.inl w2) gt1) z))) (by kernel_rfl)
 ·
  obtain rfl:=soI h
  exact kP ⟨ord43,[rV 2 [(7,(vI (l.length:Int)))]],[],[(3,(⟨[3,6,7,8],[],0,[],[],[]⟩,⟨[],[],[]⟩,.ret,taint_Rising_L1_T1 l w2))],[]⟩ ordB43 (fun z=>(aL eI l (aI (okL (pl:=polF 43) (taint_Rising_L1_S l) (taint_Rising_L1_out l) (taint_Rising_L1_sim n l) n _ (.inr w2) gt1) z))) (by kernel_rfl)

def ord31:List (Nat×PT):=[]
theorem ordB31:ordB (polF 31) ord31 (bodyOf Tryd.prog 31)=true:=by kernel_rfl
theorem event_below_sim (n:Nat) (l:(List Int)) (at_:Int) (r:Bool) (h:event_below n l at_=some r):PCall Tryd.prog 31 [.sl (l.map eI),(vI at_)] (eqA (.v (.bool r))):=by
 unfold event_below at h
 obtain ⟨y1,gy1,h⟩:=bindE h
 rcases iteN h with ⟨h2,h⟩ | ⟨h2,h⟩
 ·
  obtain rfl:=soI h
  exact kP ⟨ord31,[rVC 1 [(7,vF)] [(6,.v (.bool y1))]],[],[],[]⟩ ordB31 (fun z=>(aI (taint_Rising_sim n l y1 gy1) (aB h2 z))) (by kernel_rfl)
 rcases iteE h with ⟨h3,h⟩ | ⟨h3,h⟩
 ·
  obtain rfl:=soI h
  exact kP ⟨ord31,[rVC 1 [(7,vT),(9,(vI (l.length:Int))),(11,vT)] [(6,.v (.bool y1))]],[],[],[]⟩ ordB31 (fun z=>(aI (taint_Rising_sim n l y1 gy1) (aB h2 (aL eI l (aB h3 z))))) (by kernel_rfl)
 obtain ⟨x4,gx4,h⟩:=bindE h
 obtain rfl:=soI h
 exact kP ⟨ord31,[(1,⟨[],[],[(16,[(vI x4)])],[(7,vT),(9,(vI (l.length:Int))),(11,vF),(14,(vI (l.length:Int)))],[(6,.v (.bool y1))],[],[],[]⟩)],[],[],[]⟩ ordB31 (fun z=>(aI (taint_Rising_sim n l y1 gy1) (aB h2 (aL eI l (aB h3 (aL eI l (aM eI gx4 z))))))) (by kernel_rfl)

def ord16:List (Nat×PT):=[(5,(ptS [0,1,2,3,4,5,6,7])),(6,(ptS [0,1,2,3,4,5,6,7,8,9,10])),(10,(ptS [0,1,2,3,4,5,6,7,8])),(12,(ptS [0,1,2,3,4,5,6,7]))]
theorem ordB16:ordB (polF 16) ord16 (bodyOf Tryd.prog 16)=true:=by kernel_rfl
noncomputable def c_event_Check_C1:Code:=sub (bodyOf Tryd.prog 16) [1,1,1,1,1]
noncomputable def c_event_Check_C2:Code:=sub c_event_Check_C1 [1]
noncomputable def c_event_Check_C3:Code:=sub c_event_Check_C2 [1]
noncomputable def c_event_Check_C4:Code:=sub c_event_Check_C3 [1]
noncomputable def c_event_Check_C5:Code:=sub c_event_Check_C4 [1]
theorem ordB_event_Check_C5:ordB (polF 16) ord16 c_event_Check_C5=true:=by kernel_rfl
def event_Check_C5_S (e:Event) (y1:Int) (sf:Int×(List Int)×(List Int)×(List Int)×Int×Int×Int×Bool×Bool×Int×Int):St:=mkS 134 [(1,.ptr (.L 1) 0 0),(3,(vU y1)),(4,.ptr (.L 4) 0 0),(5,.ptr (.L 5) 0 0)] [(5,[(vI e.Hart),(vI e.At),(vI e.Kind),(vU sf.2.2.2.2.1),(vU sf.2.2.2.2.2.1),(vU sf.2.2.2.2.2.2.1),.v (.bool sf.2.2.2.2.2.2.2.1),.v (.bool sf.2.2.2.2.2.2.2.2.1),(vI sf.2.2.2.2.2.2.2.2.2.1),(vI sf.2.2.2.2.2.2.2.2.2.2),(vI sf.1),.sl (sf.2.1.map eI),.sl (sf.2.2.1.map eI),.sl (sf.2.2.2.1.map eI)]),(4,(Deps.enc e.Deps)),(1,(Event.enc e))] [] 0
def event_Check_C5_T0 (e:Event) (y1:Int) (tt:Int):St:=mkS 134 [(2,(vI tt))] [] [] 0
def event_Check_C5_out (e:Event) (y1:Int) (tt:Int):Ex×St:=(.ret,event_Check_C5_T0 e y1 tt)
theorem event_Check_C5_sim (n:Nat) (e:Event) (y1:Int):∀ sf t,event_Check_C5 n e y1 sf=some t→CodeD Tryd.prog c_event_Check_C5 (event_Check_C5_S e y1 sf) (pk (event_Check_C5_out e y1) t):=by
 intro sf t h
 unfold event_Check_C5 at h
 rcases iteE h with ⟨hf1,h⟩ | ⟨hf1,h⟩
 ·
  obtain rfl:=soI h
  exact kR ⟨ord16,[rV 15 [(67,vT)]],[],[],[]⟩ [(1,⟨[2],[5,4,1],0,[],[],[]⟩,⟨[],[],[]⟩)] ordB_event_Check_C5 (pkE rfl) (fun z=>(aB hf1 z)) (by kernel_rfl)
 rcases iteE h with ⟨hf2,h⟩ | ⟨hf2,h⟩
 ·
  obtain rfl:=soI h
  exact kR ⟨ord16,[rV 15 [(67,vF)],rV 16 [(67,vT)]],[],[],[]⟩ [(1,⟨[2],[5,4,1],0,[],[],[]⟩,⟨[],[],[]⟩)] ordB_event_Check_C5 (pkE rfl) (fun z=>(aB hf1 (aB hf2 z))) (by kernel_rfl)
 rcases iteE h with ⟨hf3,h⟩ | ⟨hf3,h⟩
 ·
  obtain rfl:=soI h
  exact kR ⟨ord16,[rV 15 [(67,vF)],rV 16 [(67,vF)],rV 17 [(67,vT)]],[],[],[]⟩ [(1,⟨[2],[5,4,1],0,[],[],[]⟩,⟨[],[],[]⟩)] ordB_event_Check_C5 (pkE rfl) (fun z=>(aB hf1 (aB hf2 (aB hf3 z)))) (by kernel_rfl)
 rcases iteE h with ⟨hf4,h⟩ | ⟨hf4,h⟩
 ·
  obtain rfl:=soI h
  exact kR ⟨ord16,[rV 15 [(67,vF)],rV 16 [(67,vF)],rV 17 [(67,vF)],rV 18 [(67,vT)]],[],[],[]⟩ [(1,⟨[2],[5,4,1],0,[],[],[]⟩,⟨[],[],[]⟩)] ordB_event_Check_C5 (pkE rfl) (fun z=>(aB hf1 (aB hf2 (aB hf3 (aB hf4 z))))) (by kernel_rfl)
 obtain ⟨yf5,gyf5,h⟩:=bindE h
 rcases iteE h with ⟨hf6,h⟩ | ⟨hf6,h⟩
 ·
  obtain rfl:=soI h
  exact kR ⟨ord16,[rV 15 [(67,vF)],rV 16 [(67,vF)],rV 17 [(67,vF)],rV 18 [(67,vF)],rVC 19 [(67,vT)] [(81,.v (.bool yf5))]],[],[],[]⟩ [(1,⟨[2],[5,4,1],0,[],[],[]⟩,⟨[],[],[]⟩)] ordB_event_Check_C5 (pkE rfl) (fun z=>(aB hf1 (aB hf2 (aB hf3 (aB hf4 (aI (event_Same_sim n (Event.mk e.Hart e.At e.Kind sf.2.2.2.2.1 sf.2.2.2.2.2.1 sf.2.2.2.2.2.2.1 sf.2.2.2.2.2.2.2.1 sf.2.2.2.2.2.2.2.2.1 sf.2.2.2.2.2.2.2.2.2.1 sf.2.2.2.2.2.2.2.2.2.2 sf.1 (Deps.mk sf.2.1 sf.2.2.1 sf.2.2.2.1)) e yf5 gyf5) (aB hf6 z))))))) (by kernel_rfl)
 rcases iteE h with ⟨hf7,h⟩ | ⟨hf7,h⟩
 ·
  obtain rfl:=soI h
  exact kR ⟨ord16,[rV 15 [(67,vF)],rV 16 [(67,vF)],rV 17 [(67,vF)],rV 18 [(67,vF)],rVC 19 [(67,vF)] [(81,.v (.bool yf5))],rV 21 [(83,vT)]],[],[],[]⟩ [(1,⟨[2],[5,4,1],0,[],[],[]⟩,⟨[],[],[]⟩)] ordB_event_Check_C5 (pkE rfl) (fun z=>(aB hf1 (aB hf2 (aB hf3 (aB hf4 (aI (event_Same_sim n (Event.mk e.Hart e.At e.Kind sf.2.2.2.2.1 sf.2.2.2.2.2.1 sf.2.2.2.2.2.2.1 sf.2.2.2.2.2.2.2.1 sf.2.2.2.2.2.2.2.2.1 sf.2.2.2.2.2.2.2.2.2.1 sf.2.2.2.2.2.2.2.2.2.2 sf.1 (Deps.mk sf.2.1 sf.2.2.1 sf.2.2.2.1)) e yf5 gyf5) (aB hf6 (aB hf7 z)))))))) (by kernel_rfl)
 rcases iteE h with ⟨hf8,h⟩ | ⟨hf8,h⟩
 ·
  obtain rfl:=soI h
  exact kR ⟨ord16,[rV 15 [(67,vF)],rV 16 [(67,vF)],rV 17 [(67,vF)],rV 18 [(67,vF)],rVC 19 [(67,vF)] [(81,.v (.bool yf5))],rV 21 [(83,vF)],rV 22 [(83,vT)]],[],[],[]⟩ [(1,⟨[2],[5,4,1],0,[],[],[]⟩,⟨[],[],[]⟩)] ordB_event_Check_C5 (pkE rfl) (fun z=>(aB hf1 (aB hf2 (aB hf3 (aB hf4 (aI (event_Same_sim n (Event.mk e.Hart e.At e.Kind sf.2.2.2.2.1 sf.2.2.2.2.2.1 sf.2.2.2.2.2.2.1 sf.2.2.2.2.2.2.2.1 sf.2.2.2.2.2.2.2.2.1 sf.2.2.2.2.2.2.2.2.2.1 sf.2.2.2.2.2.2.2.2.2.2 sf.1 (Deps.mk sf.2.1 sf.2.2.1 sf.2.2.2.1)) e yf5 gyf5) (aB hf6 (aB hf7 (aB hf8 z))))))))) (by kernel_rfl)
 rcases iteE h with ⟨hf9,h⟩ | ⟨hf9,h⟩
 ·
  obtain rfl:=soI h
  exact kR ⟨ord16,[rV 15 [(67,vF)],rV 16 [(67,vF)],rV 17 [(67,vF)],rV 18 [(67,vF)],rVC 19 [(67,vF)] [(81,.v (.bool yf5))],rV 21 [(83,vF)],rV 22 [(83,vF)],rV 23 [(83,vT)]],[],[],[]⟩ [(1,⟨[2],[5,4,1],0,[],[],[]⟩,⟨[],[],[]⟩)] ordB_event_Check_C5 (pkE rfl) (fun z=>(aB hf1 (aB hf2 (aB hf3 (aB hf4 (aI (event_Same_sim n (Event.mk e.Hart e.At e.Kind sf.2.2.2.2.1 sf.2.2.2.2.2.1 sf.2.2.2.2.2.2.1 sf.2.2.2.2.2.2.2.1 sf.2.2.2.2.2.2.2.2.1 sf.2.2.2.2.2.2.2.2.2.1 sf.2.2.2.2.2.2.2.2.2.2 sf.1 (Deps.mk sf.2.1 sf.2.2.1 sf.2.2.2.1)) e yf5 gyf5) (aB hf6 (aB hf7 (aB hf8 (aB hf9 z)))))))))) (by kernel_rfl)
 rcases iteE h with ⟨hf10,h⟩ | ⟨hf10,h⟩
 ·
  obtain rfl:=soI h
  exact kR ⟨ord16,[rV 15 [(67,vF)],rV 16 [(67,vF)],rV 17 [(67,vF)],rV 18 [(67,vF)],rVC 19 [(67,vF)] [(81,.v (.bool yf5))],rV 21 [(83,vF)],rV 22 [(83,vF)],rV 23 [(83,vF)],rV 24 [(83,vT)]],[],[],[]⟩ [(1,⟨[2],[5,4,1],0,[],[],[]⟩,⟨[],[],[]⟩)] ordB_event_Check_C5 (pkE rfl) (fun z=>(aB hf1 (aB hf2 (aB hf3 (aB hf4 (aI (event_Same_sim n (Event.mk e.Hart e.At e.Kind sf.2.2.2.2.1 sf.2.2.2.2.2.1 sf.2.2.2.2.2.2.1 sf.2.2.2.2.2.2.2.1 sf.2.2.2.2.2.2.2.2.1 sf.2.2.2.2.2.2.2.2.2.1 sf.2.2.2.2.2.2.2.2.2.2 sf.1 (Deps.mk sf.2.1 sf.2.2.1 sf.2.2.2.1)) e yf5 gyf5) (aB hf6 (aB hf7 (aB hf8 (aB hf9 (aB hf10 z))))))))))) (by kernel_rfl)
 rcases iteE h with ⟨hf11,h⟩ | ⟨hf11,h⟩
 ·
  obtain rfl:=soI h
  exact kR ⟨ord16,[rV 15 [(67,vF)],rV 16 [(67,vF)],rV 17 [(67,vF)],rV 18 [(67,vF)],rVC 19 [(67,vF)] [(81,.v (.bool yf5))],rV 21 [(83,vF)],rV 22 [(83,vF)],rV 23 [(83,vF)],rV 24 [(83,vF)],rV 25 [(83,vT)]],[],[],[]⟩ [(1,⟨[2],[5,4,1],0,[],[],[]⟩,⟨[],[],[]⟩)] ordB_event_Check_C5 (pkE rfl) (fun z=>(aB hf1 (aB hf2 (aB hf3 (aB hf4 (aI (event_Same_sim n (Event.mk e.Hart e.At e.Kind sf.2.2.2.2.1 sf.2.2.2.2.2.1 sf.2.2.2.2.2.2.1 sf.2.2.2.2.2.2.2.1 sf.2.2.2.2.2.2.2.2.1 sf.2.2.2.2.2.2.2.2.2.1 sf.2.2.2.2.2.2.2.2.2.2 sf.1 (Deps.mk sf.2.1 sf.2.2.1 sf.2.2.2.1)) e yf5 gyf5) (aB hf6 (aB hf7 (aB hf8 (aB hf9 (aB hf10 (aB hf11 z)))))))))))) (by kernel_rfl)
 rcases iteN h with ⟨hf12,h⟩ | ⟨hf12,h⟩
 ·
  obtain ⟨yf13,gyf13,h⟩:=bindE h
  rcases iteE h with ⟨hf14,h⟩ | ⟨hf14,h⟩
  ·
   obtain rfl:=soI h
   exact kR ⟨ord16,[rV 15 [(67,vF)],rV 16 [(67,vF)],rV 17 [(67,vF)],rV 18 [(67,vF)],rVC 19 [(67,vF)] [(81,.v (.bool yf5))],rV 21 [(83,vF)],rV 22 [(83,vF)],rV 23 [(83,vF)],rV 24 [(83,vF)],rV 25 [(83,vF)],rV 27 [(104,vF)],rVC 28 [(100,vT)] [(120,.v (.bool yf13))]],[],[],[]⟩ [(1,⟨[2],[5,4,1],0,[],[],[]⟩,⟨[],[],[]⟩)] ordB_event_Check_C5 (pkE rfl) (fun z=>(aB hf1 (aB hf2 (aB hf3 (aB hf4 (aI (event_Same_sim n (Event.mk e.Hart e.At e.Kind sf.2.2.2.2.1 sf.2.2.2.2.2.1 sf.2.2.2.2.2.2.1 sf.2.2.2.2.2.2.2.1 sf.2.2.2.2.2.2.2.2.1 sf.2.2.2.2.2.2.2.2.2.1 sf.2.2.2.2.2.2.2.2.2.2 sf.1 (Deps.mk sf.2.1 sf.2.2.1 sf.2.2.2.1)) e yf5 gyf5) (aB hf6 (aB hf7 (aB hf8 (aB hf9 (aB hf10 (aB hf11 (aB hf12 (aI (event_below_sim n e.Deps.Addr e.At yf13 gyf13) (aB hf14 z))))))))))))))) (by kernel_rfl)
  obtain ⟨yf15,gyf15,h⟩:=bindE h
  rcases iteE h with ⟨hf16,h⟩ | ⟨hf16,h⟩
  ·
   obtain rfl:=soI h
   exact kR ⟨ord16,[rV 15 [(67,vF)],rV 16 [(67,vF)],rV 17 [(67,vF)],rV 18 [(67,vF)],rVC 19 [(67,vF)] [(81,.v (.bool yf5))],rV 21 [(83,vF)],rV 22 [(83,vF)],rV 23 [(83,vF)],rV 24 [(83,vF)],rV 25 [(83,vF)],rV 27 [(104,vF)],rVC 28 [(100,vF)] [(120,.v (.bool yf13))],rVC 29 [(100,vT)] [(126,.v (.bool yf15))]],[],[],[]⟩ [(1,⟨[2],[5,4,1],0,[],[],[]⟩,⟨[],[],[]⟩)] ordB_event_Check_C5 (pkE rfl) (fun z=>(aB hf1 (aB hf2 (aB hf3 (aB hf4 (aI (event_Same_sim n (Event.mk e.Hart e.At e.Kind sf.2.2.2.2.1 sf.2.2.2.2.2.1 sf.2.2.2.2.2.2.1 sf.2.2.2.2.2.2.2.1 sf.2.2.2.2.2.2.2.2.1 sf.2.2.2.2.2.2.2.2.2.1 sf.2.2.2.2.2.2.2.2.2.2 sf.1 (Deps.mk sf.2.1 sf.2.2.1 sf.2.2.2.1)) e yf5 gyf5) (aB hf6 (aB hf7 (aB hf8 (aB hf9 (aB hf10 (aB hf11 (aB hf12 (aI (event_below_sim n e.Deps.Addr e.At yf13 gyf13) (aB hf14 (aI (event_below_sim n e.Deps.Data e.At yf15 gyf15) (aB hf16 z))))))))))))))))) (by kernel_rfl)
  obtain ⟨yf17,gyf17,h⟩:=bindE h
  rcases iteE h with ⟨hf18,h⟩ | ⟨hf18,h⟩
  ·
   obtain rfl:=soI h
   exact kR ⟨ord16,[rV 15 [(67,vF)],rV 16 [(67,vF)],rV 17 [(67,vF)],rV 18 [(67,vF)],rVC 19 [(67,vF)] [(81,.v (.bool yf5))],rV 21 [(83,vF)],rV 22 [(83,vF)],rV 23 [(83,vF)],rV 24 [(83,vF)],rV 25 [(83,vF)],rV 27 [(104,vF)],rVC 28 [(100,vF)] [(120,.v (.bool yf13))],rVC 29 [(100,vF)] [(126,.v (.bool yf15))],rVC 30 [(100,vT)] [(132,.v (.bool yf17))]],[],[],[]⟩ [(1,⟨[2],[5,4,1],0,[],[],[]⟩,⟨[],[],[]⟩)] ordB_event_Check_C5 (pkE rfl) (fun z=>(aB hf1 (aB hf2 (aB hf3 (aB hf4 (aI (event_Same_sim n (Event.mk e.Hart e.At e.Kind sf.2.2.2.2.1 sf.2.2.2.2.2.1 sf.2.2.2.2.2.2.1 sf.2.2.2.2.2.2.2.1 sf.2.2.2.2.2.2.2.2.1 sf.2.2.2.2.2.2.2.2.2.1 sf.2.2.2.2.2.2.2.2.2.2 sf.1 (Deps.mk sf.2.1 sf.2.2.1 sf.2.2.2.1)) e yf5 gyf5) (aB hf6 (aB hf7 (aB hf8 (aB hf9 (aB hf10 (aB hf11 (aB hf12 (aI (event_below_sim n e.Deps.Addr e.At yf13 gyf13) (aB hf14 (aI (event_below_sim n e.Deps.Data e.At yf15 gyf15) (aB hf16 (aI (event_below_sim n e.Deps.Way e.At yf17 gyf17) (aB hf18 z))))))))))))))))))) (by kernel_rfl)
  obtain rfl:=soI h
  exact kR ⟨ord16,[rV 15 [(67,vF)],rV 16 [(67,vF)],rV 17 [(67,vF)],rV 18 [(67,vF)],rVC 19 [(67,vF)] [(81,.v (.bool yf5))],rV 21 [(83,vF)],rV 22 [(83,vF)],rV 23 [(83,vF)],rV 24 [(83,vF)],rV 25 [(83,vF)],rV 27 [(104,vF)],rVC 28 [(100,vF)] [(120,.v (.bool yf13))],rVC 29 [(100,vF)] [(126,.v (.bool yf15))],rVC 30 [(100,vF)] [(132,.v (.bool yf17))]],[],[],[]⟩ [(1,⟨[2],[5,4,1],0,[],[],[]⟩,⟨[],[],[]⟩)] ordB_event_Check_C5 (pkE rfl) (fun z=>(aB hf1 (aB hf2 (aB hf3 (aB hf4 (aI (event_Same_sim n (Event.mk e.Hart e.At e.Kind sf.2.2.2.2.1 sf.2.2.2.2.2.1 sf.2.2.2.2.2.2.1 sf.2.2.2.2.2.2.2.1 sf.2.2.2.2.2.2.2.2.1 sf.2.2.2.2.2.2.2.2.2.1 sf.2.2.2.2.2.2.2.2.2.2 sf.1 (Deps.mk sf.2.1 sf.2.2.1 sf.2.2.2.1)) e yf5 gyf5) (aB hf6 (aB hf7 (aB hf8 (aB hf9 (aB hf10 (aB hf11 (aB hf12 (aI (event_below_sim n e.Deps.Addr e.At yf13 gyf13) (aB hf14 (aI (event_below_sim n e.Deps.Data e.At yf15 gyf15) (aB hf16 (aI (event_below_sim n e.Deps.Way e.At yf17 gyf17) (aB hf18 z))))))))))))))))))) (by kernel_rfl)
 rcases iteE h with ⟨hf13,h⟩ | ⟨hf13,h⟩
 ·
  obtain rfl:=soI h
  exact kR ⟨ord16,[rV 15 [(67,vF)],rV 16 [(67,vF)],rV 17 [(67,vF)],rV 18 [(67,vF)],rVC 19 [(67,vF)] [(81,.v (.bool yf5))],rV 21 [(83,vF)],rV 22 [(83,vF)],rV 23 [(83,vF)],rV 24 [(83,vF)],rV 25 [(83,vF)],rV 27 [(104,vT),(108,vT)]],[],[],[]⟩ [(1,⟨[2],[5,4,1],0,[],[],[]⟩,⟨[],[],[]⟩)] ordB_event_Check_C5 (pkE rfl) (fun z=>(aB hf1 (aB hf2 (aB hf3 (aB hf4 (aI (event_Same_sim n (Event.mk e.Hart e.At e.Kind sf.2.2.2.2.1 sf.2.2.2.2.2.1 sf.2.2.2.2.2.2.1 sf.2.2.2.2.2.2.2.1 sf.2.2.2.2.2.2.2.2.1 sf.2.2.2.2.2.2.2.2.2.1 sf.2.2.2.2.2.2.2.2.2.2 sf.1 (Deps.mk sf.2.1 sf.2.2.1 sf.2.2.2.1)) e yf5 gyf5) (aB hf6 (aB hf7 (aB hf8 (aB hf9 (aB hf10 (aB hf11 (aB hf12 (aB hf13 z)))))))))))))) (by kernel_rfl)
 rcases iteE h with ⟨hf14,h⟩ | ⟨hf14,h⟩
 ·
  obtain rfl:=soI h
  exact kR ⟨ord16,[rV 15 [(67,vF)],rV 16 [(67,vF)],rV 17 [(67,vF)],rV 18 [(67,vF)],rVC 19 [(67,vF)] [(81,.v (.bool yf5))],rV 21 [(83,vF)],rV 22 [(83,vF)],rV 23 [(83,vF)],rV 24 [(83,vF)],rV 25 [(83,vF)],rV 27 [(100,vT),(104,vT),(108,vF)]],[],[],[]⟩ [(1,⟨[2],[5,4,1],0,[],[],[]⟩,⟨[],[],[]⟩)] ordB_event_Check_C5 (pkE rfl) (fun z=>(aB hf1 (aB hf2 (aB hf3 (aB hf4 (aI (event_Same_sim n (Event.mk e.Hart e.At e.Kind sf.2.2.2.2.1 sf.2.2.2.2.2.1 sf.2.2.2.2.2.2.1 sf.2.2.2.2.2.2.2.1 sf.2.2.2.2.2.2.2.2.1 sf.2.2.2.2.2.2.2.2.2.1 sf.2.2.2.2.2.2.2.2.2.2 sf.1 (Deps.mk sf.2.1 sf.2.2.1 sf.2.2.2.1)) e yf5 gyf5) (aB hf6 (aB hf7 (aB hf8 (aB hf9 (aB hf10 (aB hf11 (aB hf12 (aB hf13 (aB hf14 z))))))))))))))) (by kernel_rfl)
 obtain ⟨yf15,gyf15,h⟩:=bindE h
 rcases iteE h with ⟨hf16,h⟩ | ⟨hf16,h⟩
 ·
  obtain rfl:=soI h
  exact kR ⟨ord16,[rV 15 [(67,vF)],rV 16 [(67,vF)],rV 17 [(67,vF)],rV 18 [(67,vF)],rVC 19 [(67,vF)] [(81,.v (.bool yf5))],rV 21 [(83,vF)],rV 22 [(83,vF)],rV 23 [(83,vF)],rV 24 [(83,vF)],rV 25 [(83,vF)],rV 27 [(100,vF),(104,vT),(108,vF)],rVC 28 [(100,vT)] [(120,.v (.bool yf15))]],[],[],[]⟩ [(1,⟨[2],[5,4,1],0,[],[],[]⟩,⟨[],[],[]⟩)] ordB_event_Check_C5 (pkE rfl) (fun z=>(aB hf1 (aB hf2 (aB hf3 (aB hf4 (aI (event_Same_sim n (Event.mk e.Hart e.At e.Kind sf.2.2.2.2.1 sf.2.2.2.2.2.1 sf.2.2.2.2.2.2.1 sf.2.2.2.2.2.2.2.1 sf.2.2.2.2.2.2.2.2.1 sf.2.2.2.2.2.2.2.2.2.1 sf.2.2.2.2.2.2.2.2.2.2 sf.1 (Deps.mk sf.2.1 sf.2.2.1 sf.2.2.2.1)) e yf5 gyf5) (aB hf6 (aB hf7 (aB hf8 (aB hf9 (aB hf10 (aB hf11 (aB hf12 (aB hf13 (aB hf14 (aI (event_below_sim n e.Deps.Addr e.At yf15 gyf15) (aB hf16 z))))))))))))))))) (by kernel_rfl)
 obtain ⟨yf17,gyf17,h⟩:=bindE h
 rcases iteE h with ⟨hf18,h⟩ | ⟨hf18,h⟩
 ·
  obtain rfl:=soI h
  exact kR ⟨ord16,[rV 15 [(67,vF)],rV 16 [(67,vF)],rV 17 [(67,vF)],rV 18 [(67,vF)],rVC 19 [(67,vF)] [(81,.v (.bool yf5))],rV 21 [(83,vF)],rV 22 [(83,vF)],rV 23 [(83,vF)],rV 24 [(83,vF)],rV 25 [(83,vF)],rV 27 [(100,vF),(104,vT),(108,vF)],rVC 28 [(100,vF)] [(120,.v (.bool yf15))],rVC 29 [(100,vT)] [(126,.v (.bool yf17))]],[],[],[]⟩ [(1,⟨[2],[5,4,1],0,[],[],[]⟩,⟨[],[],[]⟩)] ordB_event_Check_C5 (pkE rfl) (fun z=>(aB hf1 (aB hf2 (aB hf3 (aB hf4 (aI (event_Same_sim n (Event.mk e.Hart e.At e.Kind sf.2.2.2.2.1 sf.2.2.2.2.2.1 sf.2.2.2.2.2.2.1 sf.2.2.2.2.2.2.2.1 sf.2.2.2.2.2.2.2.2.1 sf.2.2.2.2.2.2.2.2.2.1 sf.2.2.2.2.2.2.2.2.2.2 sf.1 (Deps.mk sf.2.1 sf.2.2.1 sf.2.2.2.1)) e yf5 gyf5) (aB hf6 (aB hf7 (aB hf8 (aB hf9 (aB hf10 (aB hf11 (aB hf12 (aB hf13 (aB hf14 (aI (event_below_sim n e.Deps.Addr e.At yf15 gyf15) (aB hf16 (aI (event_below_sim n e.Deps.Data e.At yf17 gyf17) (aB hf18 z))))))))))))))))))) (by kernel_rfl)
 obtain ⟨yf19,gyf19,h⟩:=bindE h
 rcases iteE h with ⟨hf20,h⟩ | ⟨hf20,h⟩
 ·
  obtain rfl:=soI h
  exact kR ⟨ord16,[rV 15 [(67,vF)],rV 16 [(67,vF)],rV 17 [(67,vF)],rV 18 [(67,vF)],rVC 19 [(67,vF)] [(81,.v (.bool yf5))],rV 21 [(83,vF)],rV 22 [(83,vF)],rV 23 [(83,vF)],rV 24 [(83,vF)],rV 25 [(83,vF)],rV 27 [(100,vF),(104,vT),(108,vF)],rVC 28 [(100,vF)] [(120,.v (.bool yf15))],rVC 29 [(100,vF)] [(126,.v (.bool yf17))],rVC 30 [(100,vT)] [(132,.v (.bool yf19))]],[],[],[]⟩ [(1,⟨[2],[5,4,1],0,[],[],[]⟩,⟨[],[],[]⟩)] ordB_event_Check_C5 (pkE rfl) (fun z=>(aB hf1 (aB hf2 (aB hf3 (aB hf4 (aI (event_Same_sim n (Event.mk e.Hart e.At e.Kind sf.2.2.2.2.1 sf.2.2.2.2.2.1 sf.2.2.2.2.2.2.1 sf.2.2.2.2.2.2.2.1 sf.2.2.2.2.2.2.2.2.1 sf.2.2.2.2.2.2.2.2.2.1 sf.2.2.2.2.2.2.2.2.2.2 sf.1 (Deps.mk sf.2.1 sf.2.2.1 sf.2.2.2.1)) e yf5 gyf5) (aB hf6 (aB hf7 (aB hf8 (aB hf9 (aB hf10 (aB hf11 (aB hf12 (aB hf13 (aB hf14 (aI (event_below_sim n e.Deps.Addr e.At yf15 gyf15) (aB hf16 (aI (event_below_sim n e.Deps.Data e.At yf17 gyf17) (aB hf18 (aI (event_below_sim n e.Deps.Way e.At yf19 gyf19) (aB hf20 z))))))))))))))))))))) (by kernel_rfl)
 obtain rfl:=soI h
 exact kR ⟨ord16,[rV 15 [(67,vF)],rV 16 [(67,vF)],rV 17 [(67,vF)],rV 18 [(67,vF)],rVC 19 [(67,vF)] [(81,.v (.bool yf5))],rV 21 [(83,vF)],rV 22 [(83,vF)],rV 23 [(83,vF)],rV 24 [(83,vF)],rV 25 [(83,vF)],rV 27 [(100,vF),(104,vT),(108,vF)],rVC 28 [(100,vF)] [(120,.v (.bool yf15))],rVC 29 [(100,vF)] [(126,.v (.bool yf17))],rVC 30 [(100,vF)] [(132,.v (.bool yf19))]],[],[],[]⟩ [(1,⟨[2],[5,4,1],0,[],[],[]⟩,⟨[],[],[]⟩)] ordB_event_Check_C5 (pkE rfl) (fun z=>(aB hf1 (aB hf2 (aB hf3 (aB hf4 (aI (event_Same_sim n (Event.mk e.Hart e.At e.Kind sf.2.2.2.2.1 sf.2.2.2.2.2.1 sf.2.2.2.2.2.2.1 sf.2.2.2.2.2.2.2.1 sf.2.2.2.2.2.2.2.2.1 sf.2.2.2.2.2.2.2.2.2.1 sf.2.2.2.2.2.2.2.2.2.2 sf.1 (Deps.mk sf.2.1 sf.2.2.1 sf.2.2.2.1)) e yf5 gyf5) (aB hf6 (aB hf7 (aB hf8 (aB hf9 (aB hf10 (aB hf11 (aB hf12 (aB hf13 (aB hf14 (aI (event_below_sim n e.Deps.Addr e.At yf15 gyf15) (aB hf16 (aI (event_below_sim n e.Deps.Data e.At yf17 gyf17) (aB hf18 (aI (event_below_sim n e.Deps.Way e.At yf19 gyf19) (aB hf20 z))))))))))))))))))))) (by kernel_rfl)

theorem ordB_event_Check_C4:ordB (polF 16) ord16 c_event_Check_C4=true:=by kernel_rfl
def event_Check_C4_S (e:Event) (y1:Int) (se:(List Int)×(List Int)×(List Int)×Int×Int×Int×Bool×Bool×Int×Int):St:=mkS 134 [(1,.ptr (.L 1) 0 0),(3,(vU y1)),(4,.ptr (.L 4) 0 0),(5,.ptr (.L 5) 0 0)] [(5,[(vI e.Hart),(vI e.At),(vI e.Kind),(vU se.2.2.2.1),(vU se.2.2.2.2.1),(vU se.2.2.2.2.2.1),.v (.bool se.2.2.2.2.2.2.1),.v (.bool se.2.2.2.2.2.2.2.1),(vI se.2.2.2.2.2.2.2.2.1),(vI se.2.2.2.2.2.2.2.2.2),(vI 0),.sl (se.1.map eI),.sl (se.2.1.map eI),.sl (se.2.2.1.map eI)]),(4,(Deps.enc e.Deps)),(1,(Event.enc e))] [] 0
def event_Check_C4_T0 (e:Event) (y1:Int) (tt:Int):St:=mkS 134 [(2,(vI tt))] [] [] 0
def event_Check_C4_out (e:Event) (y1:Int) (tt:Int):Ex×St:=(.ret,event_Check_C4_T0 e y1 tt)
theorem event_Check_C4_sim (n:Nat) (e:Event) (y1:Int):∀ se t,event_Check_C4 n e y1 se=some t→CodeD Tryd.prog c_event_Check_C4 (event_Check_C4_S e y1 se) (pk (event_Check_C4_out e y1) t):=by
 intro se t h
 unfold event_Check_C4 at h
 rcases iteE h with ⟨he1,h⟩ | ⟨he1,h⟩
 ·
  obtain ⟨te2,gte2,h⟩:=bindE h
  obtain rfl:=soI h
  exact kR ⟨ord16,[rV 13 [(63,vT)]],[],[],[(15,(⟨[1,3,4,5],[],0,[],[],[]⟩,⟨[],[],[]⟩,.ret,event_Check_C5_T0 e y1 te2))]⟩ [(1,⟨[2],[],0,[],[],[]⟩,⟨[],[],[]⟩)] ordB_event_Check_C4 (pkE rfl) (fun z=>(aB he1 (aI (event_Check_C5_sim n e y1 _ te2 gte2) z))) (by kernel_rfl)
 obtain ⟨te2,gte2,h⟩:=bindE h
 obtain rfl:=soI h
 exact kR ⟨ord16,[rV 13 [(63,vF)]],[],[],[(15,(⟨[1,3,4,5],[],0,[],[],[]⟩,⟨[],[],[]⟩,.ret,event_Check_C5_T0 e y1 te2))]⟩ [(1,⟨[2],[],0,[],[],[]⟩,⟨[],[],[]⟩)] ordB_event_Check_C4 (pkE rfl) (fun z=>(aB he1 (aI (event_Check_C5_sim n e y1 _ te2 gte2) z))) (by kernel_rfl)

theorem ordB_event_Check_C3:ordB (polF 16) ord16 c_event_Check_C3=true:=by kernel_rfl
def event_Check_C3_S (e:Event) (y1:Int) (sd:(List Int)×(List Int)×(List Int)×Int×Int×Int×Int×Int):St:=mkS 134 [(1,.ptr (.L 1) 0 0),(3,(vU y1)),(4,.ptr (.L 4) 0 0),(5,.ptr (.L 5) 0 0)] [(5,[(vI e.Hart),(vI e.At),(vI e.Kind),(vU sd.2.2.2.1),(vU sd.2.2.2.2.1),(vU sd.2.2.2.2.2.1),vF,vF,(vI sd.2.2.2.2.2.2.1),(vI sd.2.2.2.2.2.2.2),(vI 0),.sl (sd.1.map eI),.sl (sd.2.1.map eI),.sl (sd.2.2.1.map eI)]),(4,(Deps.enc e.Deps)),(1,(Event.enc e))] [] 0
def event_Check_C3_T0 (e:Event) (y1:Int) (tt:Int):St:=mkS 134 [(2,(vI tt))] [] [] 0
def event_Check_C3_out (e:Event) (y1:Int) (tt:Int):Ex×St:=(.ret,event_Check_C3_T0 e y1 tt)
theorem event_Check_C3_sim (n:Nat) (e:Event) (y1:Int):∀ sd t,event_Check_C3 n e y1 sd=some t→CodeD Tryd.prog c_event_Check_C3 (event_Check_C3_S e y1 sd) (pk (event_Check_C3_out e y1) t):=by
 intro sd t h
 unfold event_Check_C3 at h
 rcases iteE h with ⟨hd1,h⟩ | ⟨hd1,h⟩
 ·
  obtain ⟨td2,gtd2,h⟩:=bindE h
  obtain rfl:=soI h
  exact kR ⟨ord16,[rV 11 [(54,vT)]],[],[],[(13,(⟨[1,3,4,5],[],0,[],[],[]⟩,⟨[],[],[]⟩,.ret,event_Check_C4_T0 e y1 td2))]⟩ [(1,⟨[2],[],0,[],[],[]⟩,⟨[],[],[]⟩)] ordB_event_Check_C3 (pkE rfl) (fun z=>(aB hd1 (aI (event_Check_C4_sim n e y1 _ td2 gtd2) z))) (by kernel_rfl)
 obtain ⟨td2,gtd2,h⟩:=bindE h
 obtain rfl:=soI h
 exact kR ⟨ord16,[rV 11 [(54,vF)]],[],[],[(13,(⟨[1,3,4,5],[],0,[],[],[]⟩,⟨[],[],[]⟩,.ret,event_Check_C4_T0 e y1 td2))]⟩ [(1,⟨[2],[],0,[],[],[]⟩,⟨[],[],[]⟩)] ordB_event_Check_C3 (pkE rfl) (fun z=>(aB hd1 (aI (event_Check_C4_sim n e y1 _ td2 gtd2) z))) (by kernel_rfl)

theorem ordB_event_Check_C2:ordB (polF 16) ord16 c_event_Check_C2=true:=by kernel_rfl
def event_Check_C2_S (e:Event) (y1:Int) (sb:(List Int)×(List Int)×Int×Int×Int×Int):St:=mkS 134 [(1,.ptr (.L 1) 0 0),(3,(vU y1)),(4,.ptr (.L 4) 0 0),(5,.ptr (.L 5) 0 0)] [(5,[(vI e.Hart),(vI e.At),(vI e.Kind),(vU sb.2.2.1),(vU sb.2.2.2.1),(vU 0),vF,vF,(vI sb.2.2.2.2.1),(vI sb.2.2.2.2.2),(vI 0),.sl (sb.1.map eI),.nilsl,.sl (sb.2.1.map eI)]),(4,(Deps.enc e.Deps)),(1,(Event.enc e))] [] 0
def event_Check_C2_T0 (e:Event) (y1:Int) (tt:Int):St:=mkS 134 [(2,(vI tt))] [] [] 0
def event_Check_C2_out (e:Event) (y1:Int) (tt:Int):Ex×St:=(.ret,event_Check_C2_T0 e y1 tt)
theorem event_Check_C2_sim (n:Nat) (e:Event) (y1:Int):∀ sb t,event_Check_C2 n e y1 sb=some t→CodeD Tryd.prog c_event_Check_C2 (event_Check_C2_S e y1 sb) (pk (event_Check_C2_out e y1) t):=by
 intro sb t h
 unfold event_Check_C2 at h
 rcases iteE h with ⟨hb1,h⟩ | ⟨hb1,h⟩
 ·
  obtain ⟨tb2,gtb2,h⟩:=bindE h
  obtain rfl:=soI h
  exact kR ⟨ord16,[rV 9 [(44,vT)]],[],[],[(11,(⟨[1,3,4,5],[],0,[],[],[]⟩,⟨[],[],[]⟩,.ret,event_Check_C3_T0 e y1 tb2))]⟩ [(1,⟨[2],[],0,[],[],[]⟩,⟨[],[],[]⟩)] ordB_event_Check_C2 (pkE rfl) (fun z=>(aB hb1 (aI (event_Check_C3_sim n e y1 _ tb2 gtb2) z))) (by kernel_rfl)
 obtain ⟨tb2,gtb2,h⟩:=bindE h
 obtain rfl:=soI h
 exact kR ⟨ord16,[rV 9 [(44,vF)]],[],[],[(11,(⟨[1,3,4,5],[],0,[],[],[]⟩,⟨[],[(5,[(vI e.Hart),(vI e.At),(vI e.Kind),(vU sb.2.2.1),(vU sb.2.2.2.1),(vU 0),vF,vF,(vI sb.2.2.2.2.1),(vI sb.2.2.2.2.2),(vI 0),.sl (sb.1.map eI),.sl (([]:List Int).map eI),.sl (sb.2.1.map eI)])],[]⟩,.ret,event_Check_C3_T0 e y1 tb2))]⟩ [(1,⟨[2],[],0,[],[],[]⟩,⟨[],[],[]⟩)] ordB_event_Check_C2 (pkE rfl) (fun z=>(aB hb1 (aI ((LeR.cons (LeA.refl _) (LeR.cons (LeA.refl _) (LeR.cons (LeA.refl _) (LeR.cons (LeA.refl _) (LeR.cons (LeA.refl _) (LeR.cons (LeA.refl _) (LeR.cons (LeA.refl _) (LeR.cons (LeA.refl _) (LeR.cons (LeA.refl _) (LeR.cons (LeA.refl _) (LeR.cons (LeA.refl _) (LeR.cons (LeA.refl _) (LeR.cons LeA.nil (LeR.cons (LeA.refl _) LeR.nil)))))))))))))):LeR [(vI e.Hart),(vI e.At),(vI e.Kind),(vU sb.2.2.1),(vU sb.2.2.2.1),(vU 0),vF,vF,(vI sb.2.2.2.2.1),(vI sb.2.2.2.2.2),(vI 0),.sl (sb.1.map eI),.nilsl,.sl (sb.2.1.map eI)] [(vI e.Hart),(vI e.At),(vI e.Kind),(vU sb.2.2.1),(vU sb.2.2.2.1),(vU 0),vF,vF,(vI sb.2.2.2.2.1),(vI sb.2.2.2.2.2),(vI 0),.sl (sb.1.map eI),.sl (([]:List Int).map eI),.sl (sb.2.1.map eI)]) (aI (event_Check_C3_sim n e y1 _ tb2 gtb2) z)))) (by kernel_rfl)

theorem ordB_event_Check_C1:ordB (polF 16) ord16 c_event_Check_C1=true:=by kernel_rfl
def event_Check_C1_S (e:Event) (y1:Int) (sa:(List Int)×(List Int)×Int×Int×Int):St:=mkS 134 [(1,.ptr (.L 1) 0 0),(3,(vU y1)),(4,.ptr (.L 4) 0 0),(5,.ptr (.L 5) 0 0)] [(5,[(vI e.Hart),(vI e.At),(vI e.Kind),(vU sa.2.2.1),(vU 0),(vU 0),vF,vF,(vI sa.2.2.2.1),(vI sa.2.2.2.2),(vI 0),.sl (sa.1.map eI),.nilsl,.sl (sa.2.1.map eI)]),(4,(Deps.enc e.Deps)),(1,(Event.enc e))] [] 0
def event_Check_C1_T0 (e:Event) (y1:Int) (tt:Int):St:=mkS 134 [(2,(vI tt))] [] [] 0
def event_Check_C1_out (e:Event) (y1:Int) (tt:Int):Ex×St:=(.ret,event_Check_C1_T0 e y1 tt)
theorem event_Check_C1_sim (n:Nat) (e:Event) (y1:Int):∀ sa t,event_Check_C1 n e y1 sa=some t→CodeD Tryd.prog c_event_Check_C1 (event_Check_C1_S e y1 sa) (pk (event_Check_C1_out e y1) t):=by
 intro sa t h
 unfold event_Check_C1 at h
 rcases iteE h with ⟨ha1,h⟩ | ⟨ha1,h⟩
 ·
  obtain ⟨ta2,gta2,h⟩:=bindE h
  obtain rfl:=soI h
  exact kR ⟨ord16,[rV 7 [(38,vT)]],[],[],[(9,(⟨[1,3,4,5],[],0,[],[],[]⟩,⟨[],[],[]⟩,.ret,event_Check_C2_T0 e y1 ta2))]⟩ [(1,⟨[2],[],0,[],[],[]⟩,⟨[],[],[]⟩)] ordB_event_Check_C1 (pkE rfl) (fun z=>(aB ha1 (aI (event_Check_C2_sim n e y1 _ ta2 gta2) z))) (by kernel_rfl)
 obtain ⟨ta2,gta2,h⟩:=bindE h
 obtain rfl:=soI h
 exact kR ⟨ord16,[rV 7 [(38,vF)]],[],[],[(9,(⟨[1,3,4,5],[],0,[],[],[]⟩,⟨[],[],[]⟩,.ret,event_Check_C2_T0 e y1 ta2))]⟩ [(1,⟨[2],[],0,[],[],[]⟩,⟨[],[],[]⟩)] ordB_event_Check_C1 (pkE rfl) (fun z=>(aB ha1 (aI (event_Check_C2_sim n e y1 _ ta2 gta2) z))) (by kernel_rfl)

theorem event_Check_sim (n:Nat) (e:Event) (r:Int) (h:event_Check n e=some r):PCall Tryd.prog 16 [(aAgg Event.enc e)] (eqA ((vI r))):=by
 unfold event_Check at h
 obtain ⟨y1,gy1,h⟩:=bindE h
 rcases iteN h with ⟨h2,h⟩ | ⟨h2,h⟩
 ·
  obtain ⟨t3,gt3,h⟩:=bindE h
  obtain rfl:=soI h
  exact kP ⟨ord16,[rVC 1 [] [(8,(vU y1))],rV 4 [(20,vF)]],[],[],[(7,(⟨[1,3,4,5],[],0,[],[],[]⟩,⟨[],[],[]⟩,.ret,event_Check_C1_T0 e y1 t3))]⟩ ordB16 (fun z=>(aI (event_has_sim n e.Kind y1 gy1) (aB h2 (aI (event_Check_C1_sim n e y1 _ t3 gt3) z)))) (by kernel_rfl)
 obtain ⟨t3,gt3,h⟩:=bindE h
 obtain rfl:=soI h
 exact kP ⟨ord16,[rVC 1 [] [(8,(vU y1))],rV 4 [(20,vT)]],[],[],[(7,(⟨[1,3,4,5],[],0,[],[],[]⟩,⟨[],[(5,[(vI e.Hart),(vI e.At),(vI e.Kind),(vU 0),(vU 0),(vU 0),vF,vF,(vI e.Pred),(vI e.Succ),(vI 0),.sl (([]:List Int).map eI),.nilsl,.sl (([]:List Int).map eI)])],[]⟩,.ret,event_Check_C1_T0 e y1 t3))]⟩ ordB16 (fun z=>(aI (event_has_sim n e.Kind y1 gy1) (aB h2 (aI ((LeR.cons (LeA.refl _) (LeR.cons (LeA.refl _) (LeR.cons (LeA.refl _) (LeR.cons (LeA.refl _) (LeR.cons (LeA.refl _) (LeR.cons (LeA.refl _) (LeR.cons (LeA.refl _) (LeR.cons (LeA.refl _) (LeR.cons (LeA.refl _) (LeR.cons (LeA.refl _) (LeR.cons (LeA.refl _) (LeR.cons LeA.nil (LeR.cons (LeA.refl _) (LeR.cons LeA.nil LeR.nil)))))))))))))):LeR [(vI e.Hart),(vI e.At),(vI e.Kind),(vU 0),(vU 0),(vU 0),vF,vF,(vI e.Pred),(vI e.Succ),(vI 0),.nilsl,.nilsl,.nilsl] [(vI e.Hart),(vI e.At),(vI e.Kind),(vU 0),(vU 0),(vU 0),vF,vF,(vI e.Pred),(vI e.Succ),(vI 0),.sl (([]:List Int).map eI),.nilsl,.sl (([]:List Int).map eI)]) (aI (event_Check_C1_sim n e y1 _ t3 gt3) z))))) (by kernel_rfl)

def ord8:List (Nat×PT):=[(11,(ptS [0,1,2,3,4,5,6,7,8,9,10,11,12,13]))]
theorem ordB8:ordB (polF 8) ord8 (bodyOf Tryd.prog 8)=true:=by kernel_rfl
noncomputable def c_event_Row_L1:Code:=sub (bodyOf Tryd.prog 8) [1,1,0,1,0,0]
theorem ordB_event_Row_L1:ordB (polF 8) ord8 c_event_Row_L1=true:=by kernel_rfl
def event_Row_L1_S (hart:Int) (l:(List Event)) (sa:Int×Int):St:=mkS 52 [(0,(vI hart)),(1,.sl (l.map Event.enc)),(5,(vI sa.2)),(8,.sl (l.map Event.enc)),(9,(vI (l.length:Int))),(10,(vI sa.1))] [] [] 0
def event_Row_L1_T0 (hart:Int) (l:(List Event)) (tt:Unit):St:=mkS 52 [] [] [] 0
def event_Row_L1_T1 (hart:Int) (l:(List Event)) (tt:Unit):St:=mkS 52 [(4,(vI 4))] [] [] 0
def event_Row_L1_out (hart:Int) (l:(List Event)) (t0:(Unit⊕Unit)):Ex×St:=match t0 with | .inl tt=>(.ex 0,event_Row_L1_T0 hart l tt) | .inr tt=>(.ret,event_Row_L1_T1 hart l tt)
theorem event_Row_L1_sim (n:Nat) (hart:Int) (l:(List Event)):∀ sa r,event_Row_L1 n hart l sa=some r→CodeD Tryd.prog c_event_Row_L1 (event_Row_L1_S hart l sa) (rk (event_Row_L1_S hart l) (event_Row_L1_out hart l) r):=by
 intro sa r h
 unfold event_Row_L1 at h
 rcases iteN h with ⟨ha1,h⟩ | ⟨ha1,h⟩
 ·
  obtain rfl:=soI h
  exact kR ⟨ord8,[rV 3 [(11,vF)]],[],[],[]⟩ [(2,⟨[],[],0,[],[],[]⟩,⟨[],[],[]⟩)] ordB_event_Row_L1 (rkE rfl neE) (fun z=>(aB ha1 z)) (by kernel_rfl)
 obtain ⟨xa2,gxa2,h⟩:=bindE h
 obtain ⟨ya3,gya3,h⟩:=bindE h
 rcases iteE h with ⟨ha4,h⟩ | ⟨ha4,h⟩
 ·
  obtain rfl:=soI h
  exact kR ⟨ord8,[rV 3 [(11,vT)],(4,⟨[],[],[(13,(Event.enc xa2))],[],[],[],[],[]⟩),rVC 5 [(18,vT)] [(16,(vI ya3))]],[],[],[]⟩ [(1,⟨[4],[7],0,[],[],[]⟩,⟨[],[],[]⟩)] ordB_event_Row_L1 (rkE rfl neR) (fun z=>(aB ha1 (aM Event.enc gxa2 (aI (event_Check_sim n xa2 ya3 gya3) (aB ha4 z))))) (by kernel_rfl)
 rcases iteE h with ⟨ha5,h⟩ | ⟨ha5,h⟩
 ·
  obtain rfl:=soI h
  exact kR ⟨ord8,[rV 3 [(11,vT)],(4,⟨[],[],[(13,(Event.enc xa2))],[],[],[],[],[]⟩),rVC 5 [(18,vF),(24,vT)] [(16,(vI ya3))]],[],[],[]⟩ [(1,⟨[4],[7],0,[],[],[]⟩,⟨[],[],[]⟩)] ordB_event_Row_L1 (rkE rfl neR) (fun z=>(aB ha1 (aM Event.enc gxa2 (aI (event_Check_sim n xa2 ya3 gya3) (aB ha4 (aB ha5 z)))))) (by kernel_rfl)
 rcases iteE h with ⟨ha6,h⟩ | ⟨ha6,h⟩
 ·
  obtain rfl:=soI h
  exact kR ⟨ord8,[rV 3 [(11,vT)],(4,⟨[],[],[(13,(Event.enc xa2))],[],[],[],[],[]⟩),rVC 5 [(18,vF),(24,vF),(29,vT)] [(16,(vI ya3))]],[],[],[]⟩ [(1,⟨[4],[7],0,[],[],[]⟩,⟨[],[],[]⟩)] ordB_event_Row_L1 (rkE rfl neR) (fun z=>(aB ha1 (aM Event.enc gxa2 (aI (event_Check_sim n xa2 ya3 gya3) (aB ha4 (aB ha5 (aB ha6 z))))))) (by kernel_rfl)
 rcases iteE h with ⟨ha7,h⟩ | ⟨ha7,h⟩
 ·
  obtain rfl:=soI h
  exact kR ⟨ord8,[rV 3 [(11,vT)],(4,⟨[],[],[(13,(Event.enc xa2))],[],[],[],[],[]⟩),rVC 5 [(18,vF),(24,vF),(29,vF)] [(16,(vI ya3))],rV 8 [(32,vT)]],[],[],[]⟩ [(0,⟨[0,1,5,8,9,10],[7],0,[],[],[]⟩,⟨[],[],[]⟩)] ordB_event_Row_L1 rkN (fun z=>(aB ha1 (aM Event.enc gxa2 (aI (event_Check_sim n xa2 ya3 gya3) (aB ha4 (aB ha5 (aB ha6 (aB ha7 z)))))))) (by kernel_rfl)
 rcases iteN h with ⟨ha8,h⟩ | ⟨ha8,h⟩
 ·
  obtain rfl:=soI h
  exact kR ⟨ord8,[rV 3 [(11,vT)],(4,⟨[],[],[(13,(Event.enc xa2))],[],[],[],[],[]⟩),rVC 5 [(18,vF),(24,vF),(29,vF)] [(16,(vI ya3))],rV 8 [(32,vF)],rV 10 [(35,vF)]],[],[],[]⟩ [(0,⟨[0,1,5,8,9,10],[7],0,[],[],[]⟩,⟨[],[],[]⟩)] ordB_event_Row_L1 rkN (fun z=>(aB ha1 (aM Event.enc gxa2 (aI (event_Check_sim n xa2 ya3 gya3) (aB ha4 (aB ha5 (aB ha6 (aB ha7 (aB ha8 z))))))))) (by kernel_rfl)
 rcases iteE h with ⟨ha9,h⟩ | ⟨ha9,h⟩
 ·
  obtain rfl:=soI h
  exact kR ⟨ord8,[rV 3 [(11,vT)],(4,⟨[],[],[(13,(Event.enc xa2))],[],[],[],[],[]⟩),rVC 5 [(18,vF),(24,vF),(29,vF)] [(16,(vI ya3))],rV 8 [(32,vF)],rV 10 [(35,vT)],rV 11 [(41,vT)]],[],[],[]⟩ [(1,⟨[4],[7],0,[],[],[]⟩,⟨[],[],[]⟩)] ordB_event_Row_L1 (rkE rfl neR) (fun z=>(aB ha1 (aM Event.enc gxa2 (aI (event_Check_sim n xa2 ya3 gya3) (aB ha4 (aB ha5 (aB ha6 (aB ha7 (aB ha8 (aB ha9 z)))))))))) (by kernel_rfl)
 obtain ⟨xa10,gxa10,h⟩:=bindE h
 rcases iteE h with ⟨ha11,h⟩ | ⟨ha11,h⟩
 ·
  obtain rfl:=soI h
  exact kR ⟨ord8,[rV 3 [(11,vT)],(4,⟨[],[],[(13,(Event.enc xa2))],[],[],[],[],[]⟩),rVC 5 [(18,vF),(24,vF),(29,vF)] [(16,(vI ya3))],rV 8 [(32,vF)],rV 10 [(35,vT)],(11,⟨[],[],[(44,(Event.enc xa10))],[(41,vF),(50,vT)],[],[],[],[]⟩)],[],[],[]⟩ [(1,⟨[4],[7],0,[],[],[]⟩,⟨[],[],[]⟩)] ordB_event_Row_L1 (rkE rfl neR) (fun z=>(aB ha1 (aM Event.enc gxa2 (aI (event_Check_sim n xa2 ya3 gya3) (aB ha4 (aB ha5 (aB ha6 (aB ha7 (aB ha8 (aB ha9 (aM Event.enc gxa10 (aB ha11 z)))))))))))) (by kernel_rfl)
 obtain rfl:=soI h
 exact kR ⟨ord8,[rV 3 [(11,vT)],(4,⟨[],[],[(13,(Event.enc xa2))],[],[],[],[],[]⟩),rVC 5 [(18,vF),(24,vF),(29,vF)] [(16,(vI ya3))],rV 8 [(32,vF)],rV 10 [(35,vT)],(11,⟨[],[],[(44,(Event.enc xa10))],[(41,vF),(50,vF)],[],[],[],[]⟩)],[],[],[]⟩ [(0,⟨[0,1,5,8,9,10],[7],0,[],[],[]⟩,⟨[],[],[]⟩)] ordB_event_Row_L1 rkN (fun z=>(aB ha1 (aM Event.enc gxa2 (aI (event_Check_sim n xa2 ya3 gya3) (aB ha4 (aB ha5 (aB ha6 (aB ha7 (aB ha8 (aB ha9 (aM Event.enc gxa10 (aB ha11 z)))))))))))) (by kernel_rfl)

theorem event_Row_sim (n:Nat) (hart:Int) (l:(List Event)) (r:Int) (h:event_Row n hart l=some r):PCall Tryd.prog 8 [(vI hart),.sl (l.map Event.enc)] (eqA ((vI r))):=by
 unfold event_Row at h
 obtain ⟨t1,gt1,h⟩:=bindE h
 rcases t1 with w2 | w2
 ·
  obtain rfl:=soI h
  exact kP ⟨ord8,[rV 2 [(9,(vI (l.length:Int)))]],[],[(3,(⟨[0,1,5,8,9,10],[],0,[],[],[]⟩,⟨[],[],[]⟩,(.ex 0),event_Row_L1_T0 hart l w2))],[]⟩ ordB8 (fun z=>(aL Event.enc l (aI (okL (pl:=polF 8) (event_Row_L1_S hart l) (event_Row_L1_out hart l) (event_Row_L1_sim n hart l) n _ (.inl w2) gt1) z))) (by kernel_rfl)
 ·
  obtain rfl:=soI h
  exact kP ⟨ord8,[rV 2 [(9,(vI (l.length:Int)))]],[],[(3,(⟨[0,1,5,8,9,10],[],0,[],[],[]⟩,⟨[],[],[]⟩,.ret,event_Row_L1_T1 hart l w2))],[]⟩ ordB8 (fun z=>(aL Event.enc l (aI (okL (pl:=polF 8) (event_Row_L1_S hart l) (event_Row_L1_out hart l) (event_Row_L1_sim n hart l) n _ (.inr w2) gt1) z))) (by kernel_rfl)

def ord9:List (Nat×PT):=[]
theorem ordB9:ordB (polF 9) ord9 (bodyOf Tryd.prog 9)=true:=by kernel_rfl
theorem kit_Pick_sim (n:Nat) (n_:Int) (m:Int) (r:Int) (h:kit_Pick n n_ m=some r):PCall Tryd.prog 9 [(vI n_),(vI m)] (eqA ((vI r))):=by
 unfold kit_Pick at h
 rcases iteE h with ⟨h1,h⟩ | ⟨h1,h⟩
 ·
  obtain rfl:=soI h
  exact kP ⟨ord9,[rV 1 [(7,vT)]],[],[],[]⟩ ordB9 (fun z=>(aB h1 z)) (by kernel_rfl)
 obtain ⟨h2,h⟩:=grdE h
 rcases iteE h with ⟨h3,h⟩ | ⟨h3,h⟩
 ·
  obtain rfl:=soI h
  exact kP ⟨ord9,[rV 1 [(7,vF)],(3,⟨[],[10],[],[],[],[],[],[]⟩),rV 4 [(12,vT)]],[],[],[]⟩ ordB9 (fun z=>(aB h1 (aI h2 (aB h3 z)))) (by kernel_rfl)
 obtain rfl:=soI h
 exact kP ⟨ord9,[rV 1 [(7,vF)],(3,⟨[],[10],[],[],[],[],[],[]⟩),rV 4 [(12,vF)]],[],[],[]⟩ ordB9 (fun z=>(aB h1 (aI h2 (aB h3 z)))) (by kernel_rfl)

def ord29:List (Nat×PT):=[]
theorem ordB29:ordB (polF 29) ord29 (bodyOf Tryd.prog 29)=true:=by kernel_rfl
theorem kit_Own_int_sim (n:Nat) (l:(List Int)) (r:(List Int)) (h:kit_Own_int n l=some r):PCall Tryd.prog 29 [.sl (l.map eI)] (eqA (.sl (r.map eI))):=by
 unfold kit_Own_int at h
 obtain ⟨h1,h⟩:=grdE h
 obtain rfl:=soI h
 exact kP ⟨ord29,[(1,⟨[],[5],[],[],[],[],[],[]⟩)],[],[],[]⟩ ordB29 (fun z=>(aI (szM:szOk 1 (l.map eI)=true) (aI (okM:okRows (l.map eI)=true) (aI (ble_map h1:Nat.ble ((l.map eI).length * 8) 140737488355328=true) z)))) (by kernel_rfl)

def ord15:List (Nat×PT):=[(1,(ptS [0,1,2,3,4,5,6,7,8,9,10]))]
theorem ordB15:ordB (polF 15) ord15 (bodyOf Tryd.prog 15)=true:=by kernel_rfl
theorem kit_OwnDeps_sim (n:Nat) (d:Deps) (r:Deps) (h:kit_OwnDeps n d=some r):PCall Tryd.prog 15 [(aAgg Deps.enc d)] (eqA ((aAgg Deps.enc r))):=by
 unfold kit_OwnDeps at h
 obtain ⟨y1,gy1,h⟩:=bindE h
 obtain ⟨y2,gy2,h⟩:=bindE h
 obtain ⟨y3,gy3,h⟩:=bindE h
 obtain rfl:=soI h
 exact kP ⟨ord15,[rVC 1 [] [(5,.sl (y1.map eI)),(8,.sl (y2.map eI)),(11,.sl (y3.map eI))]],[],[],[]⟩ ordB15 (fun z=>(aI (kit_Own_int_sim n d.Addr y1 gy1) (aI (kit_Own_int_sim n d.Data y2 gy2) (aI (kit_Own_int_sim n d.Way y3 gy3) z)))) (by kernel_rfl)

def ord24:List (Nat×PT):=[]
theorem ordB24:ordB (polF 24) ord24 (bodyOf Tryd.prog 24)=true:=by kernel_rfl
theorem kit_OwnEvent_sim (n:Nat) (e:Event) (r:Event) (h:kit_OwnEvent n e=some r):PCall Tryd.prog 24 [(aAgg Event.enc e)] (eqA ((aAgg Event.enc r))):=by
 unfold kit_OwnEvent at h
 obtain ⟨y1,gy1,h⟩:=bindE h
 obtain rfl:=soI h
 exact kP ⟨ord24,[rVC 1 [] [(5,(aAgg Deps.enc y1))]],[],[],[]⟩ ordB24 (fun z=>(aI (kit_OwnDeps_sim n e.Deps y1 gy1) z)) (by kernel_rfl)

def ord10:List (Nat×PT):=[]
theorem ordB10:ordB (polF 10) ord10 (bodyOf Tryd.prog 10)=true:=by kernel_rfl
noncomputable def c_kit_OwnEvents_S_L1:Code:=sub (bodyOf Tryd.prog 10) [1,1,0,1,0,0]
theorem ordB_kit_OwnEvents_S_L1:ordB (polF 10) ord10 c_kit_OwnEvents_S_L1=true:=by kernel_rfl
def kit_OwnEvents_S_L1_S (l:(List Event)) (sa:(List Event)×Int):St:=mkS 20 [(0,.sl (l.map Event.enc)),(3,.mf 0),(4,(vI sa.2))] [] [.arr true 14 (sa.1.map Event.enc)] 0
def kit_OwnEvents_S_L1_T0 (l:(List Event)) (tt:(List Event)):St:=mkS 20 [(3,.mf 0)] [] [.arr true 14 (tt.map Event.enc)] 0
def kit_OwnEvents_S_L1_out (l:(List Event)) (tt:((List Event))):Ex×St:=(.ex 0,kit_OwnEvents_S_L1_T0 l tt)
theorem kit_OwnEvents_S_L1_sim (n:Nat) (l:(List Event)):∀ sa r,kit_OwnEvents_S_L1 n l sa=some r→CodeD Tryd.prog c_kit_OwnEvents_S_L1 (kit_OwnEvents_S_L1_S l sa) (rk (kit_OwnEvents_S_L1_S l) (kit_OwnEvents_S_L1_out l) r):=by
 intro sa r h
 unfold kit_OwnEvents_S_L1 at h
 rcases iteN h with ⟨ha1,h⟩ | ⟨ha1,h⟩
 ·
  obtain rfl:=soI h
  exact kR ⟨ord10,[rV 3 [(7,(vI (l.length:Int))),(8,vF)]],[],[],[]⟩ [(2,⟨[3],[],1,[],[],[]⟩,⟨[],[],[]⟩)] ordB_kit_OwnEvents_S_L1 (rkE rfl neE) (fun z=>(aL Event.enc l (aB ha1 z))) (by kernel_rfl)
 obtain ⟨xa2,gxa2,h⟩:=bindE h
 obtain ⟨ya3,gya3,h⟩:=bindE h
 obtain ⟨ha4,h⟩:=grdE h
 obtain rfl:=soI h
 exact kR ⟨ord10,[rV 3 [(7,(vI (l.length:Int))),(8,vT)],(5,⟨[],[18],[(14,(Event.enc xa2))],[],[(16,(aAgg Event.enc ya3))],[],[(18,(0,(sa.1++([ya3]:List Event)).map Event.enc))],[]⟩)],[],[],[]⟩ [(0,⟨[0,3,4],[],1,[],[],[]⟩,⟨[],[],[]⟩)] ordB_kit_OwnEvents_S_L1 rkN (fun z=>(aL Event.enc l (aB ha1 (aM Event.enc gxa2 (aI (kit_OwnEvent_sim n xa2 ya3 gya3) (aI (rfl:szOk 14 [(Event.enc ya3)]=true) (aI (rfl:okRows [(Event.enc ya3)]=true) (aI (ble_maps1 ha4:Nat.ble (((sa.1.map Event.enc).length + 1) * 152) 140737488355328=true) (aI (app_map Event.enc sa.1 ([ya3]:List Event)) z))))))))) (by kernel_rfl)

def kit_OwnEvents_S_R (l:(List Event)) (y:(List Event)):AV×List Ob:=(.mf 0,[.arr true 14 (y.map Event.enc)])
theorem kit_OwnEvents_S_sim (n:Nat) (l:(List Event)) (y:(List Event)) (h:kit_OwnEvents_S n l=some y):SD Tryd.prog 10 [.sl (l.map Event.enc)] [] (fun r' o'=>r'=(kit_OwnEvents_S_R l y).1∧o'=(kit_OwnEvents_S_R l y).2):=by
 unfold kit_OwnEvents_S at h
 obtain ⟨t1,gt1,h⟩:=bindE h
 obtain rfl:=soI h
 exact kS ⟨ord10,[],[],[(3,(⟨[0,3,4],[],0,[(3,14)],[],[]⟩,⟨[],[],[]⟩,(.ex 0),kit_OwnEvents_S_L1_T0 l t1))],[]⟩ ordB10 ⟨rfl,rfl⟩ (fun z=>(aI (okL (pl:=polF 10) (kit_OwnEvents_S_L1_S l) (kit_OwnEvents_S_L1_out l) (kit_OwnEvents_S_L1_sim n l) n _ t1 gt1) z)) (by kernel_rfl)

noncomputable def c_kit_OwnEvents_S2_L1:Code:=sub (bodyOf Tryd.prog 10) [1,1,0,1,0,0]
theorem ordB_kit_OwnEvents_S2_L1:ordB (polF 10) ord10 c_kit_OwnEvents_S2_L1=true:=by kernel_rfl
def kit_OwnEvents_S2_L1_S (l:(List Event)) (ob:(List Event)) (sa:(List Event)×Int):St:=mkS 20 [(0,.sl (l.map Event.enc)),(3,.mf 1),(4,(vI sa.2))] [] [.arr true 14 (ob.map Event.enc),.arr true 14 (sa.1.map Event.enc)] 1
def kit_OwnEvents_S2_L1_T0 (l:(List Event)) (ob:(List Event)) (tt:(List Event)):St:=mkS 20 [(3,.mf 1)] [] [.arr true 14 (ob.map Event.enc),.arr true 14 (tt.map Event.enc)] 1
def kit_OwnEvents_S2_L1_out (l:(List Event)) (ob:(List Event)) (tt:((List Event))):Ex×St:=(.ex 0,kit_OwnEvents_S2_L1_T0 l ob tt)
theorem kit_OwnEvents_S2_L1_sim (n:Nat) (l:(List Event)) (ob:(List Event)):∀ sa r,kit_OwnEvents_S2_L1 n l ob sa=some r→CodeD Tryd.prog c_kit_OwnEvents_S2_L1 (kit_OwnEvents_S2_L1_S l ob sa) (rk (kit_OwnEvents_S2_L1_S l ob) (kit_OwnEvents_S2_L1_out l ob) r):=by
 intro sa r h
 unfold kit_OwnEvents_S2_L1 at h
 rcases iteN h with ⟨ha1,h⟩ | ⟨ha1,h⟩
 ·
  obtain rfl:=soI h
  exact kR ⟨ord10,[rV 3 [(7,(vI (l.length:Int))),(8,vF)]],[],[],[]⟩ [(2,⟨[3],[],2,[],[],[]⟩,⟨[],[],[]⟩)] ordB_kit_OwnEvents_S2_L1 (rkE rfl neE) (fun z=>(aL Event.enc l (aB ha1 z))) (by kernel_rfl)
 obtain ⟨xa2,gxa2,h⟩:=bindE h
 obtain ⟨ya3,gya3,h⟩:=bindE h
 obtain ⟨ha4,h⟩:=grdE h
 obtain rfl:=soI h
 exact kR ⟨ord10,[rV 3 [(7,(vI (l.length:Int))),(8,vT)],(5,⟨[],[18],[(14,(Event.enc xa2))],[],[(16,(aAgg Event.enc ya3))],[],[(18,(1,(sa.1++([ya3]:List Event)).map Event.enc))],[]⟩)],[],[],[]⟩ [(0,⟨[0,3,4],[],2,[],[],[]⟩,⟨[],[],[]⟩)] ordB_kit_OwnEvents_S2_L1 rkN (fun z=>(aL Event.enc l (aB ha1 (aM Event.enc gxa2 (aI (kit_OwnEvent_sim n xa2 ya3 gya3) (aI (rfl:szOk 14 [(Event.enc ya3)]=true) (aI (rfl:okRows [(Event.enc ya3)]=true) (aI (ble_maps1 ha4:Nat.ble (((sa.1.map Event.enc).length + 1) * 152) 140737488355328=true) (aI (app_map Event.enc sa.1 ([ya3]:List Event)) z))))))))) (by kernel_rfl)

def kit_OwnEvents_S2_R (l:(List Event)) (ob:(List Event)) (y:(List Event)):AV×List Ob:=(.mf 1,[.arr true 14 (ob.map Event.enc),.arr true 14 (y.map Event.enc)])
theorem kit_OwnEvents_S2_sim (n:Nat) (l:(List Event)) (ob:(List Event)) (y:(List Event)) (h:kit_OwnEvents_S2 n l ob=some y):SD Tryd.prog 10 [.sl (l.map Event.enc)] [.arr true 14 (ob.map Event.enc)] (fun r' o'=>r'=(kit_OwnEvents_S2_R l ob y).1∧o'=(kit_OwnEvents_S2_R l ob y).2):=by
 unfold kit_OwnEvents_S2 at h
 obtain ⟨t1,gt1,h⟩:=bindE h
 obtain rfl:=soI h
 exact kS ⟨ord10,[],[],[(3,(⟨[0,3,4],[],1,[(3,14)],[],[]⟩,⟨[],[],[]⟩,(.ex 0),kit_OwnEvents_S2_L1_T0 l ob t1))],[]⟩ ordB10 ⟨rfl,rfl⟩ (fun z=>(aI (okL (pl:=polF 10) (kit_OwnEvents_S2_L1_S l ob) (kit_OwnEvents_S2_L1_out l ob) (kit_OwnEvents_S2_L1_sim n l ob) n _ t1 gt1) z)) (by kernel_rfl)

def ord3:List (Nat×PT):=[]
theorem ordB3:ordB (polF 3) ord3 (bodyOf Tryd.prog 3)=true:=by kernel_rfl
noncomputable def c_law_EventRows_L1:Code:=sub (bodyOf Tryd.prog 3) [1,1,1,1,0,1,0,0]
theorem ordB_law_EventRows_L1:ordB (polF 3) ord3 c_law_EventRows_L1=true:=by kernel_rfl
def law_EventRows_L1_S (hart:Int) (l:(List Event)) (at_:Int) (sa:(List (Int×Int))×Int):St:=mkS 126 [(0,(vI hart)),(1,.sl (l.map Event.enc)),(2,(vI at_)),(7,.mp 0),(8,(vI sa.2))] [] [.mapo true (sa.1.map (eKV (aInt .i64) (aInt .i64)))] 0
def law_EventRows_L1_T0 (hart:Int) (l:(List Event)) (at_:Int) (tt:Unit):St:=mkS 126 [(0,(vI hart)),(1,.sl (l.map Event.enc)),(2,(vI at_))] [] [] 0
def law_EventRows_L1_T1 (hart:Int) (l:(List Event)) (at_:Int) (tt:Unit):St:=mkS 126 [(6,vF)] [] [] 0
def law_EventRows_L1_out (hart:Int) (l:(List Event)) (at_:Int) (t0:(Unit⊕Unit)):Ex×St:=match t0 with | .inl tt=>(.ex 0,law_EventRows_L1_T0 hart l at_ tt) | .inr tt=>(.ret,law_EventRows_L1_T1 hart l at_ tt)
theorem law_EventRows_L1_sim (n:Nat) (hart:Int) (l:(List Event)) (at_:Int):∀ sa r,law_EventRows_L1 n hart l at_ sa=some r→CodeD Tryd.prog c_law_EventRows_L1 (law_EventRows_L1_S hart l at_ sa) (rk (law_EventRows_L1_S hart l at_) (law_EventRows_L1_out hart l at_) r):=by
 intro sa r h
 unfold law_EventRows_L1 at h
 rcases iteN h with ⟨ha1,h⟩ | ⟨ha1,h⟩
 ·
  obtain rfl:=soI h
  exact kR ⟨ord3,[rV 7 [(26,(vI (l.length:Int))),(27,vF)]],[],[],[]⟩ [(2,⟨[0,1,2],[],0,[],[],[]⟩,⟨[],[],[]⟩)] ordB_law_EventRows_L1 (rkE rfl neE) (fun z=>(aL Event.enc l (aB ha1 z))) (by kernel_rfl)
 obtain ⟨ha2,h⟩:=grdE h
 obtain ⟨ya3,gya3,h⟩:=bindE h
 rcases iteE h with ⟨ha4,h⟩ | ⟨ha4,h⟩
 ·
  obtain rfl:=soI h
  exact kR ⟨ord3,[rV 7 [(26,(vI (l.length:Int))),(27,vT)],(9,⟨[],[33],[],[(33,.sl ((l.take (sa.2).toNat).map Event.enc)),(36,vT)],[(34,(vI ya3))],[],[],[]⟩)],[],[],[]⟩ [(1,⟨[6],[],0,[],[],[]⟩,⟨[],[],[]⟩)] ordB_law_EventRows_L1 (rkE rfl neR) (fun z=>(aL Event.enc l (aB ha1 (aI (szOk_map Event.enc l (fun _=>rfl):szOk 14 (l.map Event.enc)=true) (aI (cut_hi ha2:(decide (0≤sa.2)&&decide (sa.2≤((((l.map Event.enc)).length:Nat):Int)))=true) (aI (sl_take Event.enc l _:AV.sl (((l.map Event.enc)).take (sa.2).toNat)=AV.sl ((l.take (sa.2).toNat).map Event.enc)) (aI (event_Row_sim n hart (l.take (sa.2).toNat) ya3 gya3) (aB ha4 z)))))))) (by kernel_rfl)
 obtain ⟨xa5,gxa5,h⟩:=bindE h
 rcases iteE h with ⟨ha6,h⟩ | ⟨ha6,h⟩
 ·
  obtain rfl:=soI h
  exact kR ⟨ord3,[rV 7 [(26,(vI (l.length:Int))),(27,vT)],(9,⟨[],[33],[(39,(Event.enc xa5))],[(33,.sl ((l.take (sa.2).toNat).map Event.enc)),(36,vF),(45,vT)],[(34,(vI ya3))],[],[],[]⟩)],[],[],[]⟩ [(1,⟨[6],[],0,[],[],[]⟩,⟨[],[],[]⟩)] ordB_law_EventRows_L1 (rkE rfl neR) (fun z=>(aL Event.enc l (aB ha1 (aI (szOk_map Event.enc l (fun _=>rfl):szOk 14 (l.map Event.enc)=true) (aI (cut_hi ha2:(decide (0≤sa.2)&&decide (sa.2≤((((l.map Event.enc)).length:Nat):Int)))=true) (aI (sl_take Event.enc l _:AV.sl (((l.map Event.enc)).take (sa.2).toNat)=AV.sl ((l.take (sa.2).toNat).map Event.enc)) (aI (event_Row_sim n hart (l.take (sa.2).toNat) ya3 gya3) (aB ha4 (aM Event.enc gxa5 (aB ha6 z)))))))))) (by kernel_rfl)
 rcases iteE h with ⟨ha7,h⟩ | ⟨ha7,h⟩
 ·
  obtain rfl:=soI h
  exact kR ⟨ord3,[rV 7 [(26,(vI (l.length:Int))),(27,vT)],(9,⟨[],[33],[(39,(Event.enc xa5)),(48,(Event.enc xa5))],[(33,.sl ((l.take (sa.2).toNat).map Event.enc)),(36,vF),(45,vF),(53,vT)],[(34,(vI ya3))],[],[],[]⟩)],[],[],[]⟩ [(1,⟨[6],[],0,[],[],[]⟩,⟨[],[],[]⟩)] ordB_law_EventRows_L1 (rkE rfl neR) (fun z=>(aL Event.enc l (aB ha1 (aI (szOk_map Event.enc l (fun _=>rfl):szOk 14 (l.map Event.enc)=true) (aI (cut_hi ha2:(decide (0≤sa.2)&&decide (sa.2≤((((l.map Event.enc)).length:Nat):Int)))=true) (aI (sl_take Event.enc l _:AV.sl (((l.map Event.enc)).take (sa.2).toNat)=AV.sl ((l.take (sa.2).toNat).map Event.enc)) (aI (event_Row_sim n hart (l.take (sa.2).toNat) ya3 gya3) (aB ha4 (aM Event.enc gxa5 (aB ha6 (aM Event.enc gxa5 (aB ha7 z)))))))))))) (by kernel_rfl)
 rcases iteN h with ⟨ha8,h⟩ | ⟨ha8,h⟩
 ·
  obtain rfl:=soI h
  exact kR ⟨ord3,[rV 7 [(26,(vI (l.length:Int))),(27,vT)],(9,⟨[],[33],[(39,(Event.enc xa5)),(48,(Event.enc xa5))],[(33,.sl ((l.take (sa.2).toNat).map Event.enc)),(36,vF),(45,vF),(53,vF)],[(34,(vI ya3))],[],[],[]⟩),(11,⟨[],[],[(56,(Event.enc xa5))],[(59,vF)],[],[],[],[]⟩)],[],[],[]⟩ [(0,⟨[0,1,2,7,8],[],1,[],[],[]⟩,⟨[],[],[]⟩)] ordB_law_EventRows_L1 rkN (fun z=>(aL Event.enc l (aB ha1 (aI (szOk_map Event.enc l (fun _=>rfl):szOk 14 (l.map Event.enc)=true) (aI (cut_hi ha2:(decide (0≤sa.2)&&decide (sa.2≤((((l.map Event.enc)).length:Nat):Int)))=true) (aI (sl_take Event.enc l _:AV.sl (((l.map Event.enc)).take (sa.2).toNat)=AV.sl ((l.take (sa.2).toNat).map Event.enc)) (aI (event_Row_sim n hart (l.take (sa.2).toNat) ya3 gya3) (aB ha4 (aM Event.enc gxa5 (aB ha6 (aM Event.enc gxa5 (aB ha7 (aM Event.enc gxa5 (aB ha8 z)))))))))))))) (by kernel_rfl)
 rcases iteE h with ⟨ha9,h⟩ | ⟨ha9,h⟩
 ·
  obtain rfl:=soI h
  exact kR ⟨ord3,[rV 7 [(26,(vI (l.length:Int))),(27,vT)],(9,⟨[],[33],[(39,(Event.enc xa5)),(48,(Event.enc xa5))],[(33,.sl ((l.take (sa.2).toNat).map Event.enc)),(36,vF),(45,vF),(53,vF)],[(34,(vI ya3))],[],[],[]⟩),(11,⟨[],[],[(56,(Event.enc xa5))],[(59,vT)],[],[],[],[]⟩),(12,⟨[],[],[(63,(Event.enc xa5))],[(68,vT)],[(66,(vI ((mget beqI sa.1 xa5.Pair).getD 0)))],[],[],[]⟩)],[],[],[]⟩ [(1,⟨[6],[],0,[],[],[]⟩,⟨[],[],[]⟩)] ordB_law_EventRows_L1 (rkE rfl neR) (fun z=>(aL Event.enc l (aB ha1 (aI (szOk_map Event.enc l (fun _=>rfl):szOk 14 (l.map Event.enc)=true) (aI (cut_hi ha2:(decide (0≤sa.2)&&decide (sa.2≤((((l.map Event.enc)).length:Nat):Int)))=true) (aI (sl_take Event.enc l _:AV.sl (((l.map Event.enc)).take (sa.2).toNat)=AV.sl ((l.take (sa.2).toNat).map Event.enc)) (aI (event_Row_sim n hart (l.take (sa.2).toNat) ya3 gya3) (aB ha4 (aM Event.enc gxa5 (aB ha6 (aM Event.enc gxa5 (aB ha7 (aM Event.enc gxa5 (aB ha8 (aM Event.enc gxa5 (aI (mapGet_27 sa.1 xa5.Pair:∀ k':AV→Prop,k' ((vI ((mget beqI sa.1 xa5.Pair).getD 0)))→findK Tryd.prog 3 ((vI xa5.Pair)) (sa.1.map (eKV (aInt .i64) (aInt .i64))) fun _ r=>foundOk Tryd.prog 3 false (sa.1.map (eKV (aInt .i64) (aInt .i64))) r k') (aB ha9 z))))))))))))))))) (by kernel_rfl)
 obtain ⟨xa10,gxa10,h⟩:=bindE h
 rcases iteE h with ⟨ha11,h⟩ | ⟨ha11,h⟩
 ·
  obtain rfl:=soI h
  exact kR ⟨ord3,[rV 7 [(26,(vI (l.length:Int))),(27,vT)],(9,⟨[],[33],[(39,(Event.enc xa5)),(48,(Event.enc xa5))],[(33,.sl ((l.take (sa.2).toNat).map Event.enc)),(36,vF),(45,vF),(53,vF)],[(34,(vI ya3))],[],[],[]⟩),(11,⟨[],[],[(56,(Event.enc xa5))],[(59,vT)],[],[],[],[]⟩),(12,⟨[],[],[(63,(Event.enc xa5)),(72,(Event.enc xa5)),(75,(Event.enc xa10))],[(68,vF),(79,vT)],[(66,(vI ((mget beqI sa.1 xa5.Pair).getD 0)))],[],[],[]⟩)],[],[],[]⟩ [(1,⟨[6],[],0,[],[],[]⟩,⟨[],[],[]⟩)] ordB_law_EventRows_L1 (rkE rfl neR) (fun z=>(aL Event.enc l (aB ha1 (aI (szOk_map Event.enc l (fun _=>rfl):szOk 14 (l.map Event.enc)=true) (aI (cut_hi ha2:(decide (0≤sa.2)&&decide (sa.2≤((((l.map Event.enc)).length:Nat):Int)))=true) (aI (sl_take Event.enc l _:AV.sl (((l.map Event.enc)).take (sa.2).toNat)=AV.sl ((l.take (sa.2).toNat).map Event.enc)) (aI (event_Row_sim n hart (l.take (sa.2).toNat) ya3 gya3) (aB ha4 (aM Event.enc gxa5 (aB ha6 (aM Event.enc gxa5 (aB ha7 (aM Event.enc gxa5 (aB ha8 (aM Event.enc gxa5 (aI (mapGet_27 sa.1 xa5.Pair:∀ k':AV→Prop,k' ((vI ((mget beqI sa.1 xa5.Pair).getD 0)))→findK Tryd.prog 3 ((vI xa5.Pair)) (sa.1.map (eKV (aInt .i64) (aInt .i64))) fun _ r=>foundOk Tryd.prog 3 false (sa.1.map (eKV (aInt .i64) (aInt .i64))) r k') (aB ha9 (aM Event.enc gxa5 (aM Event.enc gxa10 (aB ha11 z)))))))))))))))))))) (by kernel_rfl)
 obtain rfl:=soI h
 exact kR ⟨ord3,[rV 7 [(26,(vI (l.length:Int))),(27,vT)],(9,⟨[],[33],[(39,(Event.enc xa5)),(48,(Event.enc xa5))],[(33,.sl ((l.take (sa.2).toNat).map Event.enc)),(36,vF),(45,vF),(53,vF)],[(34,(vI ya3))],[],[],[]⟩),(11,⟨[],[],[(56,(Event.enc xa5))],[(59,vT)],[],[],[],[]⟩),(12,⟨[],[],[(63,(Event.enc xa5)),(72,(Event.enc xa5)),(75,(Event.enc xa10))],[(68,vF),(79,vF)],[(66,(vI ((mget beqI sa.1 xa5.Pair).getD 0)))],[],[],[]⟩),(14,⟨[],[],[(83,(Event.enc xa5))],[],[],[],[],[(1000080,((mput beqI sa.1 xa5.Pair 1).map (eKV (aInt .i64) (aInt .i64))))]⟩)],[],[],[]⟩ [(0,⟨[0,1,2,7,8],[],1,[],[],[]⟩,⟨[],[],[]⟩)] ordB_law_EventRows_L1 rkN (fun z=>(aL Event.enc l (aB ha1 (aI (szOk_map Event.enc l (fun _=>rfl):szOk 14 (l.map Event.enc)=true) (aI (cut_hi ha2:(decide (0≤sa.2)&&decide (sa.2≤((((l.map Event.enc)).length:Nat):Int)))=true) (aI (sl_take Event.enc l _:AV.sl (((l.map Event.enc)).take (sa.2).toNat)=AV.sl ((l.take (sa.2).toNat).map Event.enc)) (aI (event_Row_sim n hart (l.take (sa.2).toNat) ya3 gya3) (aB ha4 (aM Event.enc gxa5 (aB ha6 (aM Event.enc gxa5 (aB ha7 (aM Event.enc gxa5 (aB ha8 (aM Event.enc gxa5 (aI (mapGet_27 sa.1 xa5.Pair:∀ k':AV→Prop,k' ((vI ((mget beqI sa.1 xa5.Pair).getD 0)))→findK Tryd.prog 3 ((vI xa5.Pair)) (sa.1.map (eKV (aInt .i64) (aInt .i64))) fun _ r=>foundOk Tryd.prog 3 false (sa.1.map (eKV (aInt .i64) (aInt .i64))) r k') (aB ha9 (aM Event.enc gxa5 (aM Event.enc gxa10 (aB ha11 (aM Event.enc gxa5 (aI (mapPut_27 sa.1 xa5.Pair 1:∀ K':List (AV×AV)→Prop,K' ((mput beqI sa.1 xa5.Pair 1).map (eKV (aInt .i64) (aInt .i64)))→findK Tryd.prog 3 ((vI xa5.Pair)) (sa.1.map (eKV (aInt .i64) (aInt .i64))) fun kv r=>Chk (ckOk Tryd.prog 3 kv) (match r with | some i=>Chk (Instr.sameBits 10000 (((sa.1.map (eKV (aInt .i64) (aInt .i64)))[i]?.bind fun e=>toK e.1).getD (.bool false)) kv) (K' ((sa.1.map (eKV (aInt .i64) (aInt .i64))).set i ((vI xa5.Pair),(vI 1)))) | none=>K' ((sa.1.map (eKV (aInt .i64) (aInt .i64)))++[((vI xa5.Pair),(vI 1))]))) z)))))))))))))))))))))) (by kernel_rfl)

theorem law_EventRows_sim (n:Nat) (hart:Int) (l:(List Event)) (at_:Int) (r:Bool) (h:law_EventRows n hart l at_=some r):PCall Tryd.prog 3 [(vI hart),.sl (l.map Event.enc),(vI at_)] (eqA (.v (.bool r))):=by
 unfold law_EventRows at h
 obtain ⟨y1,gy1,h⟩:=bindE h
 rcases iteE h with ⟨h2,h⟩ | ⟨h2,h⟩
 ·
  obtain rfl:=soI h
  exact kP ⟨ord3,[rVC 1 [(13,vT)] [(12,.v (.bool y1))]],[],[],[]⟩ ordB3 (fun z=>(aI (law_lives_sim n y1 gy1) (aB h2 z))) (by kernel_rfl)
 obtain ⟨y3,gy3,h⟩:=bindE h
 rcases iteE h with ⟨h4,h⟩ | ⟨h4,h⟩
 ·
  obtain rfl:=soI h
  exact kP ⟨ord3,[rVC 1 [(13,vF)] [(12,.v (.bool y1))],rVC 3 [(17,vT)] [(15,.v (.bool y3))]],[],[],[]⟩ ordB3 (fun z=>(aI (law_lives_sim n y1 gy1) (aB h2 (aI (kit_LightEvents_sim n l 60 y3 gy3) (aB h4 z))))) (by kernel_rfl)
 obtain ⟨y5,gy5,h⟩:=bindE h
 rcases iteE h with ⟨h6,h⟩ | ⟨h6,h⟩
 ·
  obtain rfl:=soI h
  exact kP ⟨ord3,[rVC 1 [(13,vF)] [(12,.v (.bool y1))],rVC 3 [(17,vF),(22,vT)] [(15,.v (.bool y3)),(20,(vI y5))]],[],[],[]⟩ ordB3 (fun z=>(aI (law_lives_sim n y1 gy1) (aB h2 (aI (kit_LightEvents_sim n l 60 y3 gy3) (aB h4 (aI (event_Row_sim n hart l y5 gy5) (aB h6 z))))))) (by kernel_rfl)
 obtain ⟨t7,gt7,h⟩:=bindE h
 rcases t7 with w8 | w8
 ·
  rcases iteE h with ⟨h9,h⟩ | ⟨h9,h⟩
  ·
   obtain rfl:=soI h
   exact kP ⟨ord3,[rVC 1 [(13,vF)] [(12,.v (.bool y1))],rVC 3 [(17,vF),(22,vF)] [(15,.v (.bool y3)),(20,(vI y5))],rV 15 [(87,(vI (l.length:Int))),(88,vT)]],[],[(7,(⟨[0,1,2,7,8],[],1,[],[],[]⟩,⟨[],[],[]⟩,(.ex 0),law_EventRows_L1_T0 hart l at_ w8))],[]⟩ ordB3 (fun z=>(aI (law_lives_sim n y1 gy1) (aB h2 (aI (kit_LightEvents_sim n l 60 y3 gy3) (aB h4 (aI (event_Row_sim n hart l y5 gy5) (aB h6 (aI (okL (pl:=polF 3) (law_EventRows_L1_S hart l at_) (law_EventRows_L1_out hart l at_) (law_EventRows_L1_sim n hart l at_) n _ (.inl w8) gt7) (aL Event.enc l (aB h9 z)))))))))) (by kernel_rfl)
  obtain ⟨y10,gy10,h⟩:=bindE h
  obtain ⟨y11,gy11,h⟩:=bindE h
  obtain ⟨y12,gy12,h⟩:=bindE h
  obtain ⟨x13,gx13,h⟩:=bindE h
  obtain ⟨x14,gx14,h⟩:=bindE h
  obtain ⟨y15,gy15,h⟩:=bindE h
  rcases iteN h with ⟨h16,h⟩ | ⟨h16,h⟩
  ·
   obtain rfl:=soI h
   exact kP ⟨ord3,[rVC 1 [(13,vF)] [(12,.v (.bool y1))],rVC 3 [(17,vF),(22,vF)] [(15,.v (.bool y3)),(20,(vI y5))],rV 15 [(87,(vI (l.length:Int))),(88,vF)],rVC 17 [(91,(vI (l.length:Int)))] [(92,(vI y10))],(18,⟨[],[],[],[],[],[(94,(.mf 0,[.arr true 14 (y11.map Event.enc)])),(96,(.mf 1,[.arr true 14 (y11.map Event.enc),.arr true 14 (y12.map Event.enc)]))],[],[]⟩),(19,⟨[],[],[(105,(Event.enc x13)),(107,(Event.enc x14)),(1000106,(Event.enc x13)),(1000108,(Event.enc x14))],[],[],[],[(1000106,(0,(y11.set (y10).toNat (Event.mk (addW .i64 hart 1) x13.At x13.Kind x13.Addr x13.Load x13.Store x13.Aq x13.Rl x13.Pred x13.Succ x13.Pair x13.Deps)).map Event.enc)),(1000108,(1,(y12.set (y10).toNat (Event.mk x14.Hart (addW .i64 y10 1) x14.Kind x14.Addr x14.Load x14.Store x14.Aq x14.Rl x14.Pred x14.Succ x14.Pair x14.Deps)).map Event.enc))],[]⟩),rVC 20 [(113,vF)] [(111,(vI y15))]],[],[(7,(⟨[0,1,2,7,8],[],1,[],[],[]⟩,⟨[],[],[]⟩,(.ex 0),law_EventRows_L1_T0 hart l at_ w8))],[]⟩ ordB3 (fun z=>(aI (law_lives_sim n y1 gy1) (aB h2 (aI (kit_LightEvents_sim n l 60 y3 gy3) (aB h4 (aI (event_Row_sim n hart l y5 gy5) (aB h6 (aI (okL (pl:=polF 3) (law_EventRows_L1_S hart l at_) (law_EventRows_L1_out hart l at_) (law_EventRows_L1_sim n hart l at_) n _ (.inl w8) gt7) (aL Event.enc l (aB h9 (aL Event.enc l (aI (kit_Pick_sim n at_ (l.length:Int) y10 gy10) (aI (kit_OwnEvents_S_sim n l y11 gy11) (aI (kit_OwnEvents_S2_sim n l y11 y12 gy12) (aM Event.enc gx13 (aN Event.enc gx13 (aI (set_map Event.enc y11 ((y10).toNat) (Event.mk (addW .i64 hart 1) x13.At x13.Kind x13.Addr x13.Load x13.Store x13.Aq x13.Rl x13.Pred x13.Succ x13.Pair x13.Deps)) (aM Event.enc gx14 (aN Event.enc gx14 (aI (set_map Event.enc y12 ((y10).toNat) (Event.mk x14.Hart (addW .i64 y10 1) x14.Kind x14.Addr x14.Load x14.Store x14.Aq x14.Rl x14.Pred x14.Succ x14.Pair x14.Deps)) (aI (event_Row_sim n hart (y11.set (y10).toNat (Event.mk (addW .i64 hart 1) x13.At x13.Kind x13.Addr x13.Load x13.Store x13.Aq x13.Rl x13.Pred x13.Succ x13.Pair x13.Deps)) y15 gy15) (aB h16 z)))))))))))))))))))))) (by kernel_rfl)
  obtain ⟨y17,gy17,h⟩:=bindE h
  rcases iteN h with ⟨h18,h⟩ | ⟨h18,h⟩
  ·
   obtain rfl:=soI h
   exact kP ⟨ord3,[rVC 1 [(13,vF)] [(12,.v (.bool y1))],rVC 3 [(17,vF),(22,vF)] [(15,.v (.bool y3)),(20,(vI y5))],rV 15 [(87,(vI (l.length:Int))),(88,vF)],rVC 17 [(91,(vI (l.length:Int)))] [(92,(vI y10))],(18,⟨[],[],[],[],[],[(94,(.mf 0,[.arr true 14 (y11.map Event.enc)])),(96,(.mf 1,[.arr true 14 (y11.map Event.enc),.arr true 14 (y12.map Event.enc)]))],[],[]⟩),(19,⟨[],[],[(105,(Event.enc x13)),(107,(Event.enc x14)),(1000106,(Event.enc x13)),(1000108,(Event.enc x14))],[],[],[],[(1000106,(0,(y11.set (y10).toNat (Event.mk (addW .i64 hart 1) x13.At x13.Kind x13.Addr x13.Load x13.Store x13.Aq x13.Rl x13.Pred x13.Succ x13.Pair x13.Deps)).map Event.enc)),(1000108,(1,(y12.set (y10).toNat (Event.mk x14.Hart (addW .i64 y10 1) x14.Kind x14.Addr x14.Load x14.Store x14.Aq x14.Rl x14.Pred x14.Succ x14.Pair x14.Deps)).map Event.enc))],[]⟩),rVC 20 [(113,vT),(119,vF)] [(111,(vI y15)),(116,(vI y17))]],[],[(7,(⟨[0,1,2,7,8],[],1,[],[],[]⟩,⟨[],[],[]⟩,(.ex 0),law_EventRows_L1_T0 hart l at_ w8))],[]⟩ ordB3 (fun z=>(aI (law_lives_sim n y1 gy1) (aB h2 (aI (kit_LightEvents_sim n l 60 y3 gy3) (aB h4 (aI (event_Row_sim n hart l y5 gy5) (aB h6 (aI (okL (pl:=polF 3) (law_EventRows_L1_S hart l at_) (law_EventRows_L1_out hart l at_) (law_EventRows_L1_sim n hart l at_) n _ (.inl w8) gt7) (aL Event.enc l (aB h9 (aL Event.enc l (aI (kit_Pick_sim n at_ (l.length:Int) y10 gy10) (aI (kit_OwnEvents_S_sim n l y11 gy11) (aI (kit_OwnEvents_S2_sim n l y11 y12 gy12) (aM Event.enc gx13 (aN Event.enc gx13 (aI (set_map Event.enc y11 ((y10).toNat) (Event.mk (addW .i64 hart 1) x13.At x13.Kind x13.Addr x13.Load x13.Store x13.Aq x13.Rl x13.Pred x13.Succ x13.Pair x13.Deps)) (aM Event.enc gx14 (aN Event.enc gx14 (aI (set_map Event.enc y12 ((y10).toNat) (Event.mk x14.Hart (addW .i64 y10 1) x14.Kind x14.Addr x14.Load x14.Store x14.Aq x14.Rl x14.Pred x14.Succ x14.Pair x14.Deps)) (aI (event_Row_sim n hart (y11.set (y10).toNat (Event.mk (addW .i64 hart 1) x13.At x13.Kind x13.Addr x13.Load x13.Store x13.Aq x13.Rl x13.Pred x13.Succ x13.Pair x13.Deps)) y15 gy15) (aB h16 (aI (event_Row_sim n hart (y12.set (y10).toNat (Event.mk x14.Hart (addW .i64 y10 1) x14.Kind x14.Addr x14.Load x14.Store x14.Aq x14.Rl x14.Pred x14.Succ x14.Pair x14.Deps)) y17 gy17) (aB h18 z)))))))))))))))))))))))) (by kernel_rfl)
  obtain ⟨y19,gy19,h⟩:=bindE h
  obtain rfl:=soI h
  exact kP ⟨ord3,[rVC 1 [(13,vF)] [(12,.v (.bool y1))],rVC 3 [(17,vF),(22,vF)] [(15,.v (.bool y3)),(20,(vI y5))],rV 15 [(87,(vI (l.length:Int))),(88,vF)],rVC 17 [(91,(vI (l.length:Int)))] [(92,(vI y10))],(18,⟨[],[],[],[],[],[(94,(.mf 0,[.arr true 14 (y11.map Event.enc)])),(96,(.mf 1,[.arr true 14 (y11.map Event.enc),.arr true 14 (y12.map Event.enc)]))],[],[]⟩),(19,⟨[],[],[(105,(Event.enc x13)),(107,(Event.enc x14)),(1000106,(Event.enc x13)),(1000108,(Event.enc x14))],[],[],[],[(1000106,(0,(y11.set (y10).toNat (Event.mk (addW .i64 hart 1) x13.At x13.Kind x13.Addr x13.Load x13.Store x13.Aq x13.Rl x13.Pred x13.Succ x13.Pair x13.Deps)).map Event.enc)),(1000108,(1,(y12.set (y10).toNat (Event.mk x14.Hart (addW .i64 y10 1) x14.Kind x14.Addr x14.Load x14.Store x14.Aq x14.Rl x14.Pred x14.Succ x14.Pair x14.Deps)).map Event.enc))],[]⟩),rVC 20 [(113,vT),(119,vT)] [(111,(vI y15)),(116,(vI y17)),(123,(vI y19))]],[],[(7,(⟨[0,1,2,7,8],[],1,[],[],[]⟩,⟨[],[],[]⟩,(.ex 0),law_EventRows_L1_T0 hart l at_ w8))],[]⟩ ordB3 (fun z=>(aI (law_lives_sim n y1 gy1) (aB h2 (aI (kit_LightEvents_sim n l 60 y3 gy3) (aB h4 (aI (event_Row_sim n hart l y5 gy5) (aB h6 (aI (okL (pl:=polF 3) (law_EventRows_L1_S hart l at_) (law_EventRows_L1_out hart l at_) (law_EventRows_L1_sim n hart l at_) n _ (.inl w8) gt7) (aL Event.enc l (aB h9 (aL Event.enc l (aI (kit_Pick_sim n at_ (l.length:Int) y10 gy10) (aI (kit_OwnEvents_S_sim n l y11 gy11) (aI (kit_OwnEvents_S2_sim n l y11 y12 gy12) (aM Event.enc gx13 (aN Event.enc gx13 (aI (set_map Event.enc y11 ((y10).toNat) (Event.mk (addW .i64 hart 1) x13.At x13.Kind x13.Addr x13.Load x13.Store x13.Aq x13.Rl x13.Pred x13.Succ x13.Pair x13.Deps)) (aM Event.enc gx14 (aN Event.enc gx14 (aI (set_map Event.enc y12 ((y10).toNat) (Event.mk x14.Hart (addW .i64 y10 1) x14.Kind x14.Addr x14.Load x14.Store x14.Aq x14.Rl x14.Pred x14.Succ x14.Pair x14.Deps)) (aI (event_Row_sim n hart (y11.set (y10).toNat (Event.mk (addW .i64 hart 1) x13.At x13.Kind x13.Addr x13.Load x13.Store x13.Aq x13.Rl x13.Pred x13.Succ x13.Pair x13.Deps)) y15 gy15) (aB h16 (aI (event_Row_sim n hart (y12.set (y10).toNat (Event.mk x14.Hart (addW .i64 y10 1) x14.Kind x14.Addr x14.Load x14.Store x14.Aq x14.Rl x14.Pred x14.Succ x14.Pair x14.Deps)) y17 gy17) (aB h18 (aI (event_Row_sim n (addW .i64 hart 1) l y19 gy19) z))))))))))))))))))))))))) (by kernel_rfl)
 ·
  obtain rfl:=soI h
  exact kP ⟨ord3,[rVC 1 [(13,vF)] [(12,.v (.bool y1))],rVC 3 [(17,vF),(22,vF)] [(15,.v (.bool y3)),(20,(vI y5))]],[],[(7,(⟨[0,1,2,7,8],[],1,[],[],[]⟩,⟨[],[],[]⟩,.ret,law_EventRows_L1_T1 hart l at_ w8))],[]⟩ ordB3 (fun z=>(aI (law_lives_sim n y1 gy1) (aB h2 (aI (kit_LightEvents_sim n l 60 y3 gy3) (aB h4 (aI (event_Row_sim n hart l y5 gy5) (aB h6 (aI (okL (pl:=polF 3) (law_EventRows_L1_S hart l at_) (law_EventRows_L1_out hart l at_) (law_EventRows_L1_sim n hart l at_) n _ (.inr w8) gt7) z)))))))) (by kernel_rfl)

end
end Go.Proofs.YtnmmknnnggcijaaDoor
