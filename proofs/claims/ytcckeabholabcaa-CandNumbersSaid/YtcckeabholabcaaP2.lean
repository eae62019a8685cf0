/- What the functions compute, they compute: printed by a program, path by path. No conditions. -/
import Derived.Test.YtcckeabholabcaaP1
import Derived.KernelRfl
namespace Go.Proofs.Ytcckeabholabcaa
open Go A
set_option linter.unusedVariables false
set_option maxRecDepth 100000
set_option maxHeartbeats 0
section
variable (pc:Nat→List AV→(AV→Prop)→Prop) (sc:Nat→List AV→List Ob→(AV→List Ob→Prop)→Prop) (lp:Pol→Code→St→(Ex→St→Prop)→Prop) (cd:CutP)

def ord23:List (Nat×PT):=[]
theorem ordB23:ordB (polF 23) ord23 (bodyOf Try.prog 23)=true:=by kernel_rfl
theorem kit_Event_sim (n:Nat) (a:Event) (b:Event) (r:Bool) (h:kit_Event n a b=some r):PCall Try.prog 23 [(aAgg Event.enc a),(aAgg Event.enc b)] (eqA (.v (.bool r))):=by
 unfold kit_Event at h
 obtain ⟨y1,gy1,h⟩:=bindE h
 rcases iteN h with ⟨h2,h⟩ | ⟨h2,h⟩
 ·
  obtain rfl:=soI h
  exact kP ⟨ord23,[rVC 1 [(10,vF)] [(9,.v (.bool y1))]],[],[],[]⟩ ordB23 (fun z=>(aI (kit_Deps_sim n a.Deps b.Deps y1 gy1) (aB h2 z))) (by kernel_rfl)
 rcases iteN h with ⟨h3,h⟩ | ⟨h3,h⟩
 ·
  obtain rfl:=soI h
  exact kP ⟨ord23,[rVC 1 [(10,vT),(17,vF)] [(9,.v (.bool y1))]],[],[],[]⟩ ordB23 (fun z=>(aI (kit_Deps_sim n a.Deps b.Deps y1 gy1) (aB h2 (aB h3 z)))) (by kernel_rfl)
 rcases iteN h with ⟨h4,h⟩ | ⟨h4,h⟩
 ·
  obtain rfl:=soI h
  exact kP ⟨ord23,[rVC 1 [(10,vT),(17,vT),(24,vF)] [(9,.v (.bool y1))]],[],[],[]⟩ ordB23 (fun z=>(aI (kit_Deps_sim n a.Deps b.Deps y1 gy1) (aB h2 (aB h3 (aB h4 z))))) (by kernel_rfl)
 rcases iteN h with ⟨h5,h⟩ | ⟨h5,h⟩
 ·
  obtain rfl:=soI h
  exact kP ⟨ord23,[rVC 1 [(10,vT),(17,vT),(24,vT),(31,vF)] [(9,.v (.bool y1))]],[],[],[]⟩ ordB23 (fun z=>(aI (kit_Deps_sim n a.Deps b.Deps y1 gy1) (aB h2 (aB h3 (aB h4 (aB h5 z)))))) (by kernel_rfl)
 rcases iteN h with ⟨h6,h⟩ | ⟨h6,h⟩
 ·
  obtain rfl:=soI h
  exact kP ⟨ord23,[rVC 1 [(10,vT),(17,vT),(24,vT),(31,vT),(38,vF)] [(9,.v (.bool y1))]],[],[],[]⟩ ordB23 (fun z=>(aI (kit_Deps_sim n a.Deps b.Deps y1 gy1) (aB h2 (aB h3 (aB h4 (aB h5 (aB h6 z))))))) (by kernel_rfl)
 rcases iteN h with ⟨h7,h⟩ | ⟨h7,h⟩
 ·
  obtain rfl:=soI h
  exact kP ⟨ord23,[rVC 1 [(10,vT),(17,vT),(24,vT),(31,vT),(38,vT),(45,vF)] [(9,.v (.bool y1))]],[],[],[]⟩ ordB23 (fun z=>(aI (kit_Deps_sim n a.Deps b.Deps y1 gy1) (aB h2 (aB h3 (aB h4 (aB h5 (aB h6 (aB h7 z)))))))) (by kernel_rfl)
 rcases iteN h with ⟨h8,h⟩ | ⟨h8,h⟩
 ·
  obtain rfl:=soI h
  exact kP ⟨ord23,[rVC 1 [(10,vT),(17,vT),(24,vT),(31,vT),(38,vT),(45,vT),(52,vF)] [(9,.v (.bool y1))]],[],[],[]⟩ ordB23 (fun z=>(aI (kit_Deps_sim n a.Deps b.Deps y1 gy1) (aB h2 (aB h3 (aB h4 (aB h5 (aB h6 (aB h7 (aB h8 z))))))))) (by kernel_rfl)
 rcases iteN h with ⟨h9,h⟩ | ⟨h9,h⟩
 ·
  obtain rfl:=soI h
  exact kP ⟨ord23,[rVC 1 [(10,vT),(17,vT),(24,vT),(31,vT),(38,vT),(45,vT),(52,vT),(59,vF)] [(9,.v (.bool y1))]],[],[],[]⟩ ordB23 (fun z=>(aI (kit_Deps_sim n a.Deps b.Deps y1 gy1) (aB h2 (aB h3 (aB h4 (aB h5 (aB h6 (aB h7 (aB h8 (aB h9 z)))))))))) (by kernel_rfl)
 rcases iteN h with ⟨h10,h⟩ | ⟨h10,h⟩
 ·
  obtain rfl:=soI h
  exact kP ⟨ord23,[rVC 1 [(10,vT),(17,vT),(24,vT),(31,vT),(38,vT),(45,vT),(52,vT),(59,vT),(66,vF)] [(9,.v (.bool y1))]],[],[],[]⟩ ordB23 (fun z=>(aI (kit_Deps_sim n a.Deps b.Deps y1 gy1) (aB h2 (aB h3 (aB h4 (aB h5 (aB h6 (aB h7 (aB h8 (aB h9 (aB h10 z))))))))))) (by kernel_rfl)
 rcases iteN h with ⟨h11,h⟩ | ⟨h11,h⟩
 ·
  obtain rfl:=soI h
  exact kP ⟨ord23,[rVC 1 [(10,vT),(17,vT),(24,vT),(31,vT),(38,vT),(45,vT),(52,vT),(59,vT),(66,vT),(73,vF)] [(9,.v (.bool y1))]],[],[],[]⟩ ordB23 (fun z=>(aI (kit_Deps_sim n a.Deps b.Deps y1 gy1) (aB h2 (aB h3 (aB h4 (aB h5 (aB h6 (aB h7 (aB h8 (aB h9 (aB h10 (aB h11 z)))))))))))) (by kernel_rfl)
 rcases iteE h with ⟨h12,h⟩ | ⟨h12,h⟩
 ·
  obtain rfl:=soI h
  exact kP ⟨ord23,[rVC 1 [(10,vT),(17,vT),(24,vT),(31,vT),(38,vT),(45,vT),(52,vT),(59,vT),(66,vT),(73,vT),(80,vT)] [(9,.v (.bool y1))]],[],[],[]⟩ ordB23 (fun z=>(aI (kit_Deps_sim n a.Deps b.Deps y1 gy1) (aB h2 (aB h3 (aB h4 (aB h5 (aB h6 (aB h7 (aB h8 (aB h9 (aB h10 (aB h11 (aB h12 z))))))))))))) (by kernel_rfl)
 obtain rfl:=soI h
 exact kP ⟨ord23,[rVC 1 [(10,vT),(17,vT),(24,vT),(31,vT),(38,vT),(45,vT),(52,vT),(59,vT),(66,vT),(73,vT),(80,vF)] [(9,.v (.bool y1))]],[],[],[]⟩ ordB23 (fun z=>(aI (kit_Deps_sim n a.Deps b.Deps y1 gy1) (aB h2 (aB h3 (aB h4 (aB h5 (aB h6 (aB h7 (aB h8 (aB h9 (aB h10 (aB h11 (aB h12 z))))))))))))) (by kernel_rfl)

def ord20:List (Nat×PT):=[]
theorem ordB20:ordB (polF 20) ord20 (bodyOf Try.prog 20)=true:=by kernel_rfl
theorem ref_Reads_sim (n:Nat) (e:Event) (r:Bool) (h:ref_Reads n e=some r):PCall Try.prog 20 [(aAgg Event.enc e)] (eqA (.v (.bool r))):=by
 unfold ref_Reads at h
 rcases iteE h with ⟨h1,h⟩ | ⟨h1,h⟩
 ·
  obtain rfl:=soI h
  exact kP ⟨ord20,[rV 1 [(6,vT)]],[],[],[]⟩ ordB20 (fun z=>(aB h1 z)) (by kernel_rfl)
 rcases iteE h with ⟨h2,h⟩ | ⟨h2,h⟩
 ·
  obtain rfl:=soI h
  exact kP ⟨ord20,[rV 1 [(6,vF),(11,vT)]],[],[],[]⟩ ordB20 (fun z=>(aB h1 (aB h2 z))) (by kernel_rfl)
 obtain rfl:=soI h
 exact kP ⟨ord20,[rV 1 [(6,vF),(11,vF)]],[],[],[]⟩ ordB20 (fun z=>(aB h1 (aB h2 z))) (by kernel_rfl)

def ord18:List (Nat×PT):=[]
theorem ordB18:ordB (polF 18) ord18 (bodyOf Try.prog 18)=true:=by kernel_rfl
theorem ref_Writes_sim (n:Nat) (e:Event) (r:Bool) (h:ref_Writes n e=some r):PCall Try.prog 18 [(aAgg Event.enc e)] (eqA (.v (.bool r))):=by
 unfold ref_Writes at h
 rcases iteE h with ⟨h1,h⟩ | ⟨h1,h⟩
 ·
  obtain rfl:=soI h
  exact kP ⟨ord18,[rV 1 [(6,vT)]],[],[],[]⟩ ordB18 (fun z=>(aB h1 z)) (by kernel_rfl)
 rcases iteE h with ⟨h2,h⟩ | ⟨h2,h⟩
 ·
  obtain rfl:=soI h
  exact kP ⟨ord18,[rV 1 [(6,vF),(11,vT)]],[],[],[]⟩ ordB18 (fun z=>(aB h1 (aB h2 z))) (by kernel_rfl)
 obtain rfl:=soI h
 exact kP ⟨ord18,[rV 1 [(6,vF),(11,vF)]],[],[],[]⟩ ordB18 (fun z=>(aB h1 (aB h2 z))) (by kernel_rfl)

def ord24:List (Nat×PT):=[]
theorem ordB24:ordB (polF 24) ord24 (bodyOf Try.prog 24)=true:=by kernel_rfl
theorem ref_Memory_sim (n:Nat) (e:Event) (r:Bool) (h:ref_Memory n e=some r):PCall Try.prog 24 [(aAgg Event.enc e)] (eqA (.v (.bool r))):=by
 unfold ref_Memory at h
 obtain ⟨y1,gy1,h⟩:=bindE h
 rcases iteE h with ⟨h2,h⟩ | ⟨h2,h⟩
 ·
  obtain rfl:=soI h
  exact kP ⟨ord24,[rVC 1 [(5,vT)] [(4,.v (.bool y1))]],[],[],[]⟩ ordB24 (fun z=>(aI (ref_Reads_sim n e y1 gy1) (aB h2 z))) (by kernel_rfl)
 obtain ⟨y3,gy3,h⟩:=bindE h
 obtain rfl:=soI h
 exact kP ⟨ord24,[rVC 1 [(5,vF)] [(4,.v (.bool y1)),(7,.v (.bool y3))]],[],[],[]⟩ ordB24 (fun z=>(aI (ref_Reads_sim n e y1 gy1) (aB h2 (aI (ref_Writes_sim n e y3 gy3) z)))) (by kernel_rfl)

def ord6:List (Nat×PT):=[(5,(ptS [0,1,2,3,4,5])),(14,(ptS [0,1,2,3,4,5,6,7,8,9,10,11,12,13,14,15,16,17,18,19,20,21,22,23,24,25,26,27,28])),(27,(ptS [0,1,2,3,4,5,6,7,8,9,10,11,12,13,14,15,16,17,18,19,20,21,22,23,24,25,26]))]
theorem ordB6:ordB (polF 6) ord6 (bodyOf Try.prog 6)=true:=by kernel_rfl
noncomputable def c_law_CandNumbers_L1:Code:=sub (bodyOf Try.prog 6) [1,1,1,1,1,0,1,0,0]
noncomputable def c_law_CandNumbers_L3:Code:=sub (bodyOf Try.prog 6) [1,1,1,1,1,1,1,1,0,1,0,0]
noncomputable def c_law_CandNumbers_L2:Code:=sub c_law_CandNumbers_L1 [1,0,0,1,0,0]
theorem ordB_law_CandNumbers_L2:ordB (polF 6) ord6 c_law_CandNumbers_L2=true:=by kernel_rfl
def law_CandNumbers_L2_S (c:Cand) (y7:(List Event)) (y8:(List Int)) (sb:Int×Int×Int):St:=mkS 148 [(1,.ptr (.L 1) 0 0),(3,.sl (y7.map Event.enc)),(4,.sl (y8.map eI)),(5,(vI sb.1)),(6,(vI sb.2.1)),(7,(vI sb.2.2))] [(1,(Cand.enc c))] [] 0
def law_CandNumbers_L2_T0 (c:Cand) (y7:(List Event)) (y8:(List Int)) (tt:Int×Int):St:=mkS 148 [(1,.ptr (.L 1) 0 0),(3,.sl (y7.map Event.enc)),(4,.sl (y8.map eI)),(5,(vI tt.1)),(6,(vI tt.2))] [(1,(Cand.enc c))] [] 0
def law_CandNumbers_L2_T1 (c:Cand) (y7:(List Event)) (y8:(List Int)) (tt:Unit):St:=mkS 148 [(2,vF)] [] [] 0
def law_CandNumbers_L2_out (c:Cand) (y7:(List Event)) (y8:(List Int)) (t0:((Int×Int)⊕Unit)):Ex×St:=match t0 with | .inl tt=>(.ex 2,law_CandNumbers_L2_T0 c y7 y8 tt) | .inr tt=>(.ret,law_CandNumbers_L2_T1 c y7 y8 tt)
theorem law_CandNumbers_L2_sim (n:Nat) (c:Cand) (y7:(List Event)) (y8:(List Int)):∀ sb r,law_CandNumbers_L2 n c y7 y8 sb=some r→CodeD Try.prog c_law_CandNumbers_L2 (law_CandNumbers_L2_S c y7 y8 sb) (rk (law_CandNumbers_L2_S c y7 y8) (law_CandNumbers_L2_out c y7 y8) r):=by
 intro sb r h
 unfold law_CandNumbers_L2 at h
 obtain ⟨xb1,gxb1,h⟩:=bindE h
 rcases iteN h with ⟨hb2,h⟩ | ⟨hb2,h⟩
 ·
  obtain rfl:=soI h
  exact kR ⟨ord6,[(11,⟨[],[],[(37,[.sl (xb1.map Event.enc)])],[(39,(vI (xb1.length:Int))),(40,vF)],[],[],[],[]⟩)],[],[],[]⟩ [(4,⟨[1,3,4,5,6],[],0,[],[],[]⟩,⟨[],[],[]⟩)] ordB_law_CandNumbers_L2 (rkE rfl neE) (fun z=>(aM (eSl Event.enc) gxb1 (aL Event.enc xb1 (aB hb2 z)))) (by kernel_rfl)
 obtain ⟨yb3,gyb3,h⟩:=bindE h
 rcases iteE h with ⟨hb4,h⟩ | ⟨hb4,h⟩
 ·
  obtain rfl:=soI h
  exact kR ⟨ord6,[(11,⟨[],[],[(37,[.sl (xb1.map Event.enc)])],[(39,(vI (xb1.length:Int))),(40,vT)],[],[],[],[]⟩),rVC 13 [] [(47,.tup [(vI yb3.1),(vI yb3.2)])],rV 14 [(52,vT)]],[],[],[]⟩ [(1,⟨[2],[1],0,[],[],[]⟩,⟨[],[],[]⟩)] ordB_law_CandNumbers_L2 (rkE rfl neR) (fun z=>(aM (eSl Event.enc) gxb1 (aL Event.enc xb1 (aB hb2 (aI (cand_Number_sim n c sb.2.1 sb.2.2 yb3 gyb3) (aB hb4 z)))))) (by kernel_rfl)
 rcases iteE h with ⟨hb5,h⟩ | ⟨hb5,h⟩
 ·
  obtain rfl:=soI h
  exact kR ⟨ord6,[(11,⟨[],[],[(37,[.sl (xb1.map Event.enc)])],[(39,(vI (xb1.length:Int))),(40,vT)],[],[],[],[]⟩),rVC 13 [] [(47,.tup [(vI yb3.1),(vI yb3.2)])],rV 14 [(52,vF),(57,vT)]],[],[],[]⟩ [(1,⟨[2],[1],0,[],[],[]⟩,⟨[],[],[]⟩)] ordB_law_CandNumbers_L2 (rkE rfl neR) (fun z=>(aM (eSl Event.enc) gxb1 (aL Event.enc xb1 (aB hb2 (aI (cand_Number_sim n c sb.2.1 sb.2.2 yb3 gyb3) (aB hb4 (aB hb5 z))))))) (by kernel_rfl)
 rcases iteE h with ⟨hb6,h⟩ | ⟨hb6,h⟩
 ·
  obtain rfl:=soI h
  exact kR ⟨ord6,[(11,⟨[],[],[(37,[.sl (xb1.map Event.enc)])],[(39,(vI (xb1.length:Int))),(40,vT)],[],[],[],[]⟩),rVC 13 [] [(47,.tup [(vI yb3.1),(vI yb3.2)])],rV 14 [(52,vF),(57,vF),(60,(vI (y7.length:Int))),(63,vT)]],[],[],[]⟩ [(1,⟨[2],[1],0,[],[],[]⟩,⟨[],[],[]⟩)] ordB_law_CandNumbers_L2 (rkE rfl neR) (fun z=>(aM (eSl Event.enc) gxb1 (aL Event.enc xb1 (aB hb2 (aI (cand_Number_sim n c sb.2.1 sb.2.2 yb3 gyb3) (aB hb4 (aB hb5 (aL Event.enc y7 (aB hb6 z))))))))) (by kernel_rfl)
 obtain ⟨xb7,gxb7,h⟩:=bindE h
 obtain ⟨xb8,gxb8,h⟩:=bindE h
 obtain ⟨yb9,gyb9,h⟩:=bindE h
 rcases iteE h with ⟨hb10,h⟩ | ⟨hb10,h⟩
 ·
  obtain rfl:=soI h
  exact kR ⟨ord6,[(11,⟨[],[],[(37,[.sl (xb1.map Event.enc)])],[(39,(vI (xb1.length:Int))),(40,vT)],[],[],[],[]⟩),rVC 13 [] [(47,.tup [(vI yb3.1),(vI yb3.2)])],(14,⟨[],[],[(66,(Event.enc xb7)),(71,[.sl (xb1.map Event.enc)]),(74,(Event.enc xb8))],[(52,vF),(57,vF),(60,(vI (y7.length:Int))),(63,vF),(78,vT)],[(76,.v (.bool yb9))],[],[],[]⟩)],[],[],[]⟩ [(1,⟨[2],[1],0,[],[],[]⟩,⟨[],[],[]⟩)] ordB_law_CandNumbers_L2 (rkE rfl neR) (fun z=>(aM (eSl Event.enc) gxb1 (aL Event.enc xb1 (aB hb2 (aI (cand_Number_sim n c sb.2.1 sb.2.2 yb3 gyb3) (aB hb4 (aB hb5 (aL Event.enc y7 (aB hb6 (aM Event.enc gxb7 (aM (eSl Event.enc) gxb1 (aM Event.enc gxb8 (aI (kit_Event_sim n xb7 xb8 yb9 gyb9) (aB hb10 z)))))))))))))) (by kernel_rfl)
 obtain rfl:=soI h
 exact kR ⟨ord6,[(11,⟨[],[],[(37,[.sl (xb1.map Event.enc)])],[(39,(vI (xb1.length:Int))),(40,vT)],[],[],[],[]⟩),rVC 13 [] [(47,.tup [(vI yb3.1),(vI yb3.2)])],(14,⟨[],[],[(66,(Event.enc xb7)),(71,[.sl (xb1.map Event.enc)]),(74,(Event.enc xb8))],[(52,vF),(57,vF),(60,(vI (y7.length:Int))),(63,vF),(78,vF)],[(76,.v (.bool yb9))],[],[],[]⟩)],[],[],[]⟩ [(0,⟨[1,3,4,5,6,7],[],0,[],[],[]⟩,⟨[],[],[]⟩)] ordB_law_CandNumbers_L2 rkN (fun z=>(aM (eSl Event.enc) gxb1 (aL Event.enc xb1 (aB hb2 (aI (cand_Number_sim n c sb.2.1 sb.2.2 yb3 gyb3) (aB hb4 (aB hb5 (aL Event.enc y7 (aB hb6 (aM Event.enc gxb7 (aM (eSl Event.enc) gxb1 (aM Event.enc gxb8 (aI (kit_Event_sim n xb7 xb8 yb9 gyb9) (aB hb10 z)))))))))))))) (by kernel_rfl)

theorem ordB_law_CandNumbers_L1:ordB (polF 6) ord6 c_law_CandNumbers_L1=true:=by kernel_rfl
def law_CandNumbers_L1_S (c:Cand) (y7:(List Event)) (y8:(List Int)) (sa:Int×Int):St:=mkS 148 [(1,.ptr (.L 1) 0 0),(3,.sl (y7.map Event.enc)),(4,.sl (y8.map eI)),(5,(vI sa.1)),(6,(vI sa.2))] [(1,(Cand.enc c))] [] 0
def law_CandNumbers_L1_T0 (c:Cand) (y7:(List Event)) (y8:(List Int)) (tt:Int):St:=mkS 148 [(1,.ptr (.L 1) 0 0),(3,.sl (y7.map Event.enc)),(4,.sl (y8.map eI)),(5,(vI tt))] [(1,(Cand.enc c))] [] 0
def law_CandNumbers_L1_T1 (c:Cand) (y7:(List Event)) (y8:(List Int)) (tt:Unit):St:=mkS 148 [(2,vF)] [] [] 0
def law_CandNumbers_L1_out (c:Cand) (y7:(List Event)) (y8:(List Int)) (t0:(Int⊕Unit)):Ex×St:=match t0 with | .inl tt=>(.ex 0,law_CandNumbers_L1_T0 c y7 y8 tt) | .inr tt=>(.ret,law_CandNumbers_L1_T1 c y7 y8 tt)
theorem law_CandNumbers_L1_sim (n:Nat) (c:Cand) (y7:(List Event)) (y8:(List Int)):∀ sa r,law_CandNumbers_L1 n c y7 y8 sa=some r→CodeD Try.prog c_law_CandNumbers_L1 (law_CandNumbers_L1_S c y7 y8 sa) (rk (law_CandNumbers_L1_S c y7 y8) (law_CandNumbers_L1_out c y7 y8) r):=by
 intro sa r h
 unfold law_CandNumbers_L1 at h
 rcases iteN h with ⟨ha1,h⟩ | ⟨ha1,h⟩
 ·
  obtain rfl:=soI h
  exact kR ⟨ord6,[rV 8 [(29,(vI (c.Harts.length:Int))),(30,vF)]],[],[],[]⟩ [(2,⟨[1,3,4,5],[],0,[],[],[]⟩,⟨[],[],[]⟩)] ordB_law_CandNumbers_L1 (rkE rfl neE) (fun z=>(aL (eSl Event.enc) c.Harts (aB ha1 z))) (by kernel_rfl)
 obtain ⟨ta2,gta2,h⟩:=bindE h
 rcases ta2 with wa3 | wa3
 ·
  obtain rfl:=soI h
  exact kR ⟨ord6,[rV 8 [(29,(vI (c.Harts.length:Int))),(30,vT)]],[],[(11,(⟨[1,3,4,5,6,7],[],0,[],[],[]⟩,⟨[],[],[]⟩,(.ex 2),law_CandNumbers_L2_T0 c y7 y8 wa3))],[]⟩ [(0,⟨[1,3,4,5,6],[],0,[],[],[]⟩,⟨[],[],[]⟩)] ordB_law_CandNumbers_L1 rkN (fun z=>(aL (eSl Event.enc) c.Harts (aB ha1 (aI (okL (pl:=polF 6) (law_CandNumbers_L2_S c y7 y8) (law_CandNumbers_L2_out c y7 y8) (law_CandNumbers_L2_sim n c y7 y8) n _ (.inl wa3) gta2) z)))) (by kernel_rfl)
 ·
  obtain rfl:=soI h
  exact kR ⟨ord6,[rV 8 [(29,(vI (c.Harts.length:Int))),(30,vT)]],[],[(11,(⟨[1,3,4,5,6,7],[],0,[],[],[]⟩,⟨[],[],[]⟩,.ret,law_CandNumbers_L2_T1 c y7 y8 wa3))],[]⟩ [(1,⟨[2],[],0,[],[],[]⟩,⟨[],[],[]⟩)] ordB_law_CandNumbers_L1 (rkE rfl neR) (fun z=>(aL (eSl Event.enc) c.Harts (aB ha1 (aI (okL (pl:=polF 6) (law_CandNumbers_L2_S c y7 y8) (law_CandNumbers_L2_out c y7 y8) (law_CandNumbers_L2_sim n c y7 y8) n _ (.inr wa3) gta2) z)))) (by kernel_rfl)

theorem ordB_law_CandNumbers_L3:ordB (polF 6) ord6 c_law_CandNumbers_L3=true:=by kernel_rfl
def law_CandNumbers_L3_S (c:Cand) (y7:(List Event)) (y8:(List Int)) (w10:Int) (sa:Int×Int):St:=mkS 148 [(1,.ptr (.L 1) 0 0),(3,.sl (y7.map Event.enc)),(4,.sl (y8.map eI)),(5,(vI w10)),(10,(vI sa.1)),(11,(vI sa.2))] [(1,(Cand.enc c))] [] 0
def law_CandNumbers_L3_T0 (c:Cand) (y7:(List Event)) (y8:(List Int)) (w10:Int) (tt:Int):St:=mkS 148 [(1,.ptr (.L 1) 0 0),(10,(vI tt))] [(1,(Cand.enc c))] [] 0
def law_CandNumbers_L3_T1 (c:Cand) (y7:(List Event)) (y8:(List Int)) (w10:Int) (tt:Unit):St:=mkS 148 [(2,vF)] [] [] 0
def law_CandNumbers_L3_out (c:Cand) (y7:(List Event)) (y8:(List Int)) (w10:Int) (t0:(Int⊕Unit)):Ex×St:=match t0 with | .inl tt=>(.ex 4,law_CandNumbers_L3_T0 c y7 y8 w10 tt) | .inr tt=>(.ret,law_CandNumbers_L3_T1 c y7 y8 w10 tt)
theorem law_CandNumbers_L3_sim (n:Nat) (c:Cand) (y7:(List Event)) (y8:(List Int)) (w10:Int):∀ sa r,law_CandNumbers_L3 n c y7 y8 w10 sa=some r→CodeD Try.prog c_law_CandNumbers_L3 (law_CandNumbers_L3_S c y7 y8 w10 sa) (rk (law_CandNumbers_L3_S c y7 y8 w10) (law_CandNumbers_L3_out c y7 y8 w10) r):=by
 intro sa r h
 unfold law_CandNumbers_L3 at h
 rcases iteN h with ⟨ha1,h⟩ | ⟨ha1,h⟩
 ·
  obtain rfl:=soI h
  exact kR ⟨ord6,[rV 21 [(100,vF)]],[],[],[]⟩ [(6,⟨[1,10],[],0,[],[],[]⟩,⟨[],[],[]⟩)] ordB_law_CandNumbers_L3 (rkE rfl neE) (fun z=>(aB ha1 z)) (by kernel_rfl)
 obtain ⟨xa2,gxa2,h⟩:=bindE h
 obtain ⟨ya3,gya3,h⟩:=bindE h
 rcases iteE h with ⟨ha4,h⟩ | ⟨ha4,h⟩
 ·
  obtain ⟨xa5,gxa5,h⟩:=bindE h
  rcases iteE h with ⟨ha6,h⟩ | ⟨ha6,h⟩
  ·
   obtain rfl:=soI h
   exact kR ⟨ord6,[rV 21 [(100,vT)],(23,⟨[],[],[(105,(Event.enc xa2))],[(108,vT)],[(107,.v (.bool ya3))],[],[],[]⟩),(24,⟨[],[],[(111,[(vI xa5)])],[(113,vT)],[],[],[],[]⟩)],[],[],[]⟩ [(1,⟨[2],[1],0,[],[],[]⟩,⟨[],[],[]⟩)] ordB_law_CandNumbers_L3 (rkE rfl neR) (fun z=>(aB ha1 (aM Event.enc gxa2 (aI (ref_Memory_sim n xa2 ya3 gya3) (aB ha4 (aM eI gxa5 (aB ha6 z))))))) (by kernel_rfl)
  obtain rfl:=soI h
  exact kR ⟨ord6,[rV 21 [(100,vT)],(23,⟨[],[],[(105,(Event.enc xa2))],[(108,vT)],[(107,.v (.bool ya3))],[],[],[]⟩),(24,⟨[],[],[(111,[(vI xa5)])],[(113,vF)],[],[],[],[]⟩)],[],[],[]⟩ [(0,⟨[1,3,4,5,10,11],[],0,[],[],[]⟩,⟨[],[],[]⟩)] ordB_law_CandNumbers_L3 rkN (fun z=>(aB ha1 (aM Event.enc gxa2 (aI (ref_Memory_sim n xa2 ya3 gya3) (aB ha4 (aM eI gxa5 (aB ha6 z))))))) (by kernel_rfl)
 obtain ⟨xa5,gxa5,h⟩:=bindE h
 rcases iteE h with ⟨ha6,h⟩ | ⟨ha6,h⟩
 ·
  obtain rfl:=soI h
  exact kR ⟨ord6,[rV 21 [(100,vT)],(23,⟨[],[],[(105,(Event.enc xa2))],[(108,vF)],[(107,.v (.bool ya3))],[],[],[]⟩),(27,⟨[],[],[(118,[(vI xa5)])],[(121,vT)],[],[],[],[]⟩)],[],[],[]⟩ [(1,⟨[2],[1],0,[],[],[]⟩,⟨[],[],[]⟩)] ordB_law_CandNumbers_L3 (rkE rfl neR) (fun z=>(aB ha1 (aM Event.enc gxa2 (aI (ref_Memory_sim n xa2 ya3 gya3) (aB ha4 (aM eI gxa5 (aB ha6 z))))))) (by kernel_rfl)
 rcases iteE h with ⟨ha7,h⟩ | ⟨ha7,h⟩
 ·
  obtain rfl:=soI h
  exact kR ⟨ord6,[rV 21 [(100,vT)],(23,⟨[],[],[(105,(Event.enc xa2))],[(108,vF)],[(107,.v (.bool ya3))],[],[],[]⟩),(27,⟨[],[],[(118,[(vI xa5)]),(124,[(vI xa5)])],[(121,vF),(128,(vI (c.Order.length:Int))),(131,vT)],[],[],[],[]⟩)],[],[],[]⟩ [(1,⟨[2],[1],0,[],[],[]⟩,⟨[],[],[]⟩)] ordB_law_CandNumbers_L3 (rkE rfl neR) (fun z=>(aB ha1 (aM Event.enc gxa2 (aI (ref_Memory_sim n xa2 ya3 gya3) (aB ha4 (aM eI gxa5 (aB ha6 (aM eI gxa5 (aL eI c.Order (aB ha7 z)))))))))) (by kernel_rfl)
 obtain ⟨xa8,gxa8,h⟩:=bindE h
 rcases iteE h with ⟨ha9,h⟩ | ⟨ha9,h⟩
 ·
  obtain rfl:=soI h
  exact kR ⟨ord6,[rV 21 [(100,vT)],(23,⟨[],[],[(105,(Event.enc xa2))],[(108,vF)],[(107,.v (.bool ya3))],[],[],[]⟩),(27,⟨[],[],[(118,[(vI xa5)]),(124,[(vI xa5)]),(136,[(vI xa5)]),(138,[(vI xa8)])],[(121,vF),(128,(vI (c.Order.length:Int))),(131,vF),(142,vT)],[],[],[],[]⟩)],[],[],[]⟩ [(1,⟨[2],[1],0,[],[],[]⟩,⟨[],[],[]⟩)] ordB_law_CandNumbers_L3 (rkE rfl neR) (fun z=>(aB ha1 (aM Event.enc gxa2 (aI (ref_Memory_sim n xa2 ya3 gya3) (aB ha4 (aM eI gxa5 (aB ha6 (aM eI gxa5 (aL eI c.Order (aB ha7 (aM eI gxa5 (aM eI gxa8 (aB ha9 z))))))))))))) (by kernel_rfl)
 obtain rfl:=soI h
 exact kR ⟨ord6,[rV 21 [(100,vT)],(23,⟨[],[],[(105,(Event.enc xa2))],[(108,vF)],[(107,.v (.bool ya3))],[],[],[]⟩),(27,⟨[],[],[(118,[(vI xa5)]),(124,[(vI xa5)]),(136,[(vI xa5)]),(138,[(vI xa8)])],[(121,vF),(128,(vI (c.Order.length:Int))),(131,vF),(142,vF)],[],[],[],[]⟩)],[],[],[]⟩ [(0,⟨[1,3,4,5,10,11],[],0,[],[],[]⟩,⟨[],[],[]⟩)] ordB_law_CandNumbers_L3 rkN (fun z=>(aB ha1 (aM Event.enc gxa2 (aI (ref_Memory_sim n xa2 ya3 gya3) (aB ha4 (aM eI gxa5 (aB ha6 (aM eI gxa5 (aL eI c.Order (aB ha7 (aM eI gxa5 (aM eI gxa8 (aB ha9 z))))))))))))) (by kernel_rfl)

theorem law_CandNumbers_sim (n:Nat) (c:Cand) (r:Bool) (h:law_CandNumbers n c=some r):PCall Try.prog 6 [(aAgg Cand.enc c)] (eqA (.v (.bool r))):=by
 unfold law_CandNumbers at h
 obtain ⟨y1,gy1,h⟩:=bindE h
 rcases iteE h with ⟨h2,h⟩ | ⟨h2,h⟩
 ·
  obtain rfl:=soI h
  exact kP ⟨ord6,[rVC 1 [(13,vT)] [(12,.v (.bool y1))]],[],[],[]⟩ ordB6 (fun z=>(aI (law_lives_sim n y1 gy1) (aB h2 z))) (by kernel_rfl)
 obtain ⟨y3,gy3,h⟩:=bindE h
 rcases iteE h with ⟨h4,h⟩ | ⟨h4,h⟩
 ·
  obtain rfl:=soI h
  exact kP ⟨ord6,[rVC 1 [(13,vF)] [(12,.v (.bool y1))],rVC 3 [(17,vT)] [(15,.v (.bool y3))]],[],[],[]⟩ ordB6 (fun z=>(aI (law_lives_sim n y1 gy1) (aB h2 (aI (kit_LightCand_sim n c 60 y3 gy3) (aB h4 z))))) (by kernel_rfl)
 obtain ⟨y5,gy5,h⟩:=bindE h
 rcases iteE h with ⟨h6,h⟩ | ⟨h6,h⟩
 ·
  obtain rfl:=soI h
  exact kP ⟨ord6,[rVC 1 [(13,vF)] [(12,.v (.bool y1))],rVC 3 [(17,vF),(21,vT)] [(15,.v (.bool y3)),(19,(vI y5))]],[],[],[]⟩ ordB6 (fun z=>(aI (law_lives_sim n y1 gy1) (aB h2 (aI (kit_LightCand_sim n c 60 y3 gy3) (aB h4 (aI (cand_Check_sim n c y5 gy5) (aB h6 z))))))) (by kernel_rfl)
 obtain ⟨y7,gy7,h⟩:=bindE h
 obtain ⟨y8,gy8,h⟩:=bindE h
 obtain ⟨t9,gt9,h⟩:=bindE h
 rcases t9 with w10 | w10
 ·
  rcases iteE h with ⟨h11,h⟩ | ⟨h11,h⟩
  ·
   obtain rfl:=soI h
   exact kP ⟨ord6,[rVC 1 [(13,vF)] [(12,.v (.bool y1))],rVC 3 [(17,vF),(21,vF)] [(15,.v (.bool y3)),(19,(vI y5))],rVC 5 [] [(23,.sl (y7.map Event.enc)),(25,.sl (y8.map eI))],rV 17 [(82,(vI (y7.length:Int))),(85,vT)]],[],[(8,(⟨[1,3,4,5,6],[],0,[],[],[]⟩,⟨[],[],[]⟩,(.ex 0),law_CandNumbers_L1_T0 c y7 y8 w10))],[]⟩ ordB6 (fun z=>(aI (law_lives_sim n y1 gy1) (aB h2 (aI (kit_LightCand_sim n c 60 y3 gy3) (aB h4 (aI (cand_Check_sim n c y5 gy5) (aB h6 (aI (cand_All_sim n c y7 gy7) (aI (cand_Places_sim n c y8 gy8) (aI (okL (pl:=polF 6) (law_CandNumbers_L1_S c y7 y8) (law_CandNumbers_L1_out c y7 y8) (law_CandNumbers_L1_sim n c y7 y8) n _ (.inl w10) gt9) (aL Event.enc y7 (aB h11 z)))))))))))) (by kernel_rfl)
  rcases iteE h with ⟨h12,h⟩ | ⟨h12,h⟩
  ·
   obtain rfl:=soI h
   exact kP ⟨ord6,[rVC 1 [(13,vF)] [(12,.v (.bool y1))],rVC 3 [(17,vF),(21,vF)] [(15,.v (.bool y3)),(19,(vI y5))],rVC 5 [] [(23,.sl (y7.map Event.enc)),(25,.sl (y8.map eI))],rV 17 [(82,(vI (y7.length:Int))),(85,vF),(87,(vI (y8.length:Int))),(91,vT)]],[],[(8,(⟨[1,3,4,5,6],[],0,[],[],[]⟩,⟨[],[],[]⟩,(.ex 0),law_CandNumbers_L1_T0 c y7 y8 w10))],[]⟩ ordB6 (fun z=>(aI (law_lives_sim n y1 gy1) (aB h2 (aI (kit_LightCand_sim n c 60 y3 gy3) (aB h4 (aI (cand_Check_sim n c y5 gy5) (aB h6 (aI (cand_All_sim n c y7 gy7) (aI (cand_Places_sim n c y8 gy8) (aI (okL (pl:=polF 6) (law_CandNumbers_L1_S c y7 y8) (law_CandNumbers_L1_out c y7 y8) (law_CandNumbers_L1_sim n c y7 y8) n _ (.inl w10) gt9) (aL Event.enc y7 (aB h11 (aL eI y8 (aB h12 z)))))))))))))) (by kernel_rfl)
  rcases iteE h with ⟨h13,h⟩ | ⟨h13,h⟩
  ·
   obtain rfl:=soI h
   exact kP ⟨ord6,[rVC 1 [(13,vF)] [(12,.v (.bool y1))],rVC 3 [(17,vF),(21,vF)] [(15,.v (.bool y3)),(19,(vI y5))],rVC 5 [] [(23,.sl (y7.map Event.enc)),(25,.sl (y8.map eI))],rV 17 [(82,(vI (y7.length:Int))),(85,vF),(87,(vI (y8.length:Int))),(91,vF),(94,(vI (c.From.length:Int))),(97,vT)]],[],[(8,(⟨[1,3,4,5,6],[],0,[],[],[]⟩,⟨[],[],[]⟩,(.ex 0),law_CandNumbers_L1_T0 c y7 y8 w10))],[]⟩ ordB6 (fun z=>(aI (law_lives_sim n y1 gy1) (aB h2 (aI (kit_LightCand_sim n c 60 y3 gy3) (aB h4 (aI (cand_Check_sim n c y5 gy5) (aB h6 (aI (cand_All_sim n c y7 gy7) (aI (cand_Places_sim n c y8 gy8) (aI (okL (pl:=polF 6) (law_CandNumbers_L1_S c y7 y8) (law_CandNumbers_L1_out c y7 y8) (law_CandNumbers_L1_sim n c y7 y8) n _ (.inl w10) gt9) (aL Event.enc y7 (aB h11 (aL eI y8 (aB h12 (aL eI c.From (aB h13 z)))))))))))))))) (by kernel_rfl)
  obtain ⟨t14,gt14,h⟩:=bindE h
  rcases t14 with w15 | w15
  ·
   obtain rfl:=soI h
   exact kP ⟨ord6,[rVC 1 [(13,vF)] [(12,.v (.bool y1))],rVC 3 [(17,vF),(21,vF)] [(15,.v (.bool y3)),(19,(vI y5))],rVC 5 [] [(23,.sl (y7.map Event.enc)),(25,.sl (y8.map eI))],rV 17 [(82,(vI (y7.length:Int))),(85,vF),(87,(vI (y8.length:Int))),(91,vF),(94,(vI (c.From.length:Int))),(97,vF)],rV 29 [(146,(vI (c.Order.length:Int)))]],[],[(8,(⟨[1,3,4,5,6],[],0,[],[],[]⟩,⟨[],[],[]⟩,(.ex 0),law_CandNumbers_L1_T0 c y7 y8 w10)),(21,(⟨[1,3,4,5,10,11],[],0,[],[],[]⟩,⟨[],[],[]⟩,(.ex 4),law_CandNumbers_L3_T0 c y7 y8 w10 w15))],[]⟩ ordB6 (fun z=>(aI (law_lives_sim n y1 gy1) (aB h2 (aI (kit_LightCand_sim n c 60 y3 gy3) (aB h4 (aI (cand_Check_sim n c y5 gy5) (aB h6 (aI (cand_All_sim n c y7 gy7) (aI (cand_Places_sim n c y8 gy8) (aI (okL (pl:=polF 6) (law_CandNumbers_L1_S c y7 y8) (law_CandNumbers_L1_out c y7 y8) (law_CandNumbers_L1_sim n c y7 y8) n _ (.inl w10) gt9) (aL Event.enc y7 (aB h11 (aL eI y8 (aB h12 (aL eI c.From (aB h13 (aI (okL (pl:=polF 6) (law_CandNumbers_L3_S c y7 y8 w10) (law_CandNumbers_L3_out c y7 y8 w10) (law_CandNumbers_L3_sim n c y7 y8 w10) n _ (.inl w15) gt14) (aL eI c.Order z)))))))))))))))))) (by kernel_rfl)
  ·
   obtain rfl:=soI h
   exact kP ⟨ord6,[rVC 1 [(13,vF)] [(12,.v (.bool y1))],rVC 3 [(17,vF),(21,vF)] [(15,.v (.bool y3)),(19,(vI y5))],rVC 5 [] [(23,.sl (y7.map Event.enc)),(25,.sl (y8.map eI))],rV 17 [(82,(vI (y7.length:Int))),(85,vF),(87,(vI (y8.length:Int))),(91,vF),(94,(vI (c.From.length:Int))),(97,vF)]],[],[(8,(⟨[1,3,4,5,6],[],0,[],[],[]⟩,⟨[],[],[]⟩,(.ex 0),law_CandNumbers_L1_T0 c y7 y8 w10)),(21,(⟨[1,3,4,5,10,11],[],0,[],[],[]⟩,⟨[],[],[]⟩,.ret,law_CandNumbers_L3_T1 c y7 y8 w10 w15))],[]⟩ ordB6 (fun z=>(aI (law_lives_sim n y1 gy1) (aB h2 (aI (kit_LightCand_sim n c 60 y3 gy3) (aB h4 (aI (cand_Check_sim n c y5 gy5) (aB h6 (aI (cand_All_sim n c y7 gy7) (aI (cand_Places_sim n c y8 gy8) (aI (okL (pl:=polF 6) (law_CandNumbers_L1_S c y7 y8) (law_CandNumbers_L1_out c y7 y8) (law_CandNumbers_L1_sim n c y7 y8) n _ (.inl w10) gt9) (aL Event.enc y7 (aB h11 (aL eI y8 (aB h12 (aL eI c.From (aB h13 (aI (okL (pl:=polF 6) (law_CandNumbers_L3_S c y7 y8 w10) (law_CandNumbers_L3_out c y7 y8 w10) (law_CandNumbers_L3_sim n c y7 y8 w10) n _ (.inr w15) gt14) z))))))))))))))))) (by kernel_rfl)
 ·
  obtain rfl:=soI h
  exact kP ⟨ord6,[rVC 1 [(13,vF)] [(12,.v (.bool y1))],rVC 3 [(17,vF),(21,vF)] [(15,.v (.bool y3)),(19,(vI y5))],rVC 5 [] [(23,.sl (y7.map Event.enc)),(25,.sl (y8.map eI))]],[],[(8,(⟨[1,3,4,5,6],[],0,[],[],[]⟩,⟨[],[],[]⟩,.ret,law_CandNumbers_L1_T1 c y7 y8 w10))],[]⟩ ordB6 (fun z=>(aI (law_lives_sim n y1 gy1) (aB h2 (aI (kit_LightCand_sim n c 60 y3 gy3) (aB h4 (aI (cand_Check_sim n c y5 gy5) (aB h6 (aI (cand_All_sim n c y7 gy7) (aI (cand_Places_sim n c y8 gy8) (aI (okL (pl:=polF 6) (law_CandNumbers_L1_S c y7 y8) (law_CandNumbers_L1_out c y7 y8) (law_CandNumbers_L1_sim n c y7 y8) n _ (.inr w10) gt9) z)))))))))) (by kernel_rfl)

end
end Go.Proofs.Ytcckeabholabcaa
