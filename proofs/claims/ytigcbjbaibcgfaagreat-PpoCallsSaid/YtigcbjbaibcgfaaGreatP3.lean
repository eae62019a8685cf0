/- What the functions compute, they compute: printed by a program, path by path. No conditions. -/
import Derived.Test.YtigcbjbaibcgfaaGreatP2
import Derived.KernelRfl
namespace Go.Proofs.YtigcbjbaibcgfaaGreat
open Go A
set_option linter.unusedVariables false
set_option maxRecDepth 100000
set_option maxHeartbeats 0
section
variable (pc:Nat→List AV→(AV→Prop)→Prop) (sc:Nat→List AV→List Ob→(AV→List Ob→Prop)→Prop) (lp:Pol→Code→St→(Ex→St→Prop)→Prop) (cd:CutP)

def ord42:List (Nat×PT):=[]
theorem ordB42:ordB (polF 42) ord42 (bodyOf Tryz.prog 42)=true:=by kernel_rfl
noncomputable def c_ref_Check2_C1:Code:=sub (bodyOf Tryz.prog 42) [1,1,1,1]
noncomputable def c_ref_Check2_C2:Code:=sub (bodyOf Tryz.prog 42) [1,1,1,0,1,1,1]
noncomputable def c_ref_Check2_C3:Code:=sub c_ref_Check2_C2 [1]
noncomputable def c_ref_Check2_C4:Code:=sub c_ref_Check2_C3 [1]
theorem ordB_ref_Check2_C1:ordB (polF 42) ord42 c_ref_Check2_C1=true:=by kernel_rfl
def ref_Check2_C1_S (sa:Bool):St:=mkS 216 [(4,.v (.bool sa))] [] [] 0
def ref_Check2_C1_T0 (tt:Int):St:=mkS 216 [(2,(vI tt))] [] [] 0
def ref_Check2_C1_out (tt:Int):Ex×St:=(.ret,ref_Check2_C1_T0 tt)
theorem ref_Check2_C1_sim (n:Nat):∀ sa t,ref_Check2_C1 n sa=some t→CodeD Tryz.prog c_ref_Check2_C1 (ref_Check2_C1_S sa) (pk (ref_Check2_C1_out) t):=by
 intro sa t h
 unfold ref_Check2_C1 at h
 rcases iteE h with ⟨ha1,h⟩ | ⟨ha1,h⟩
 ·
  obtain rfl:=soI h
  exact kR ⟨ord42,[rV 9 [(215,vT)]],[],[],[]⟩ [(1,⟨[2],[],0,[],[],[]⟩,⟨[],[],[]⟩)] ordB_ref_Check2_C1 (pkE rfl) (fun z=>(aB ha1 z)) (by kernel_rfl)
 obtain rfl:=soI h
 exact kR ⟨ord42,[rV 9 [(215,vF)]],[],[],[]⟩ [(1,⟨[2],[],0,[],[],[]⟩,⟨[],[],[]⟩)] ordB_ref_Check2_C1 (pkE rfl) (fun z=>(aB ha1 z)) (by kernel_rfl)

theorem ordB_ref_Check2_C4:ordB (polF 42) ord42 c_ref_Check2_C4=true:=by kernel_rfl
def ref_Check2_C4_S (e:Event) (sd:Bool):St:=mkS 216 [(1,.ptr (.L 1) 0 0),(4,.v (.bool sd))] [(1,(Event.enc e))] [] 0
def ref_Check2_C4_T0 (e:Event) (tt:Bool):St:=mkS 216 [(4,.v (.bool tt))] [] [] 0
def ref_Check2_C4_out (e:Event) (tt:Bool):Ex×St:=(.nrm,ref_Check2_C4_T0 e tt)
theorem ref_Check2_C4_sim (n:Nat) (e:Event):∀ sd t,ref_Check2_C4 n e sd=some t→CodeD Tryz.prog c_ref_Check2_C4 (ref_Check2_C4_S e sd) (pk (ref_Check2_C4_out e) t):=by
 intro sd t h
 unfold ref_Check2_C4 at h
 rcases iteN h with ⟨hd1,h⟩ | ⟨hd1,h⟩
 ·
  obtain rfl:=soI h
  exact kR ⟨ord42,[rV 8 [(179,vF)]],[],[],[]⟩ [(0,⟨[4],[1],0,[],[],[]⟩,⟨[],[],[]⟩)] ordB_ref_Check2_C4 (pkE rfl) (fun z=>(aB hd1 z)) (by kernel_rfl)
 obtain ⟨yd2,gyd2,h⟩:=bindE h
 rcases iteN h with ⟨hd3,h⟩ | ⟨hd3,h⟩
 ·
  obtain rfl:=soI h
  exact kR ⟨ord42,[rVC 8 [(179,vT),(187,vF)] [(185,.v (.bool yd2))]],[],[],[]⟩ [(0,⟨[4],[1],0,[],[],[]⟩,⟨[],[],[]⟩)] ordB_ref_Check2_C4 (pkE rfl) (fun z=>(aB hd1 (aI (ref_below_sim n e.Deps.Addr e.At yd2 gyd2) (aB hd3 z)))) (by kernel_rfl)
 obtain ⟨yd4,gyd4,h⟩:=bindE h
 rcases iteN h with ⟨hd5,h⟩ | ⟨hd5,h⟩
 ·
  obtain rfl:=soI h
  exact kR ⟨ord42,[rVC 8 [(179,vT),(187,vT),(195,vF)] [(185,.v (.bool yd2)),(193,.v (.bool yd4))]],[],[],[]⟩ [(0,⟨[4],[1],0,[],[],[]⟩,⟨[],[],[]⟩)] ordB_ref_Check2_C4 (pkE rfl) (fun z=>(aB hd1 (aI (ref_below_sim n e.Deps.Addr e.At yd2 gyd2) (aB hd3 (aI (ref_below_sim n e.Deps.Data e.At yd4 gyd4) (aB hd5 z)))))) (by kernel_rfl)
 obtain ⟨yd6,gyd6,h⟩:=bindE h
 rcases iteN h with ⟨hd7,h⟩ | ⟨hd7,h⟩
 ·
  obtain rfl:=soI h
  exact kR ⟨ord42,[rVC 8 [(179,vT),(187,vT),(195,vT),(203,vF)] [(185,.v (.bool yd2)),(193,.v (.bool yd4)),(201,.v (.bool yd6))]],[],[],[]⟩ [(0,⟨[4],[1],0,[],[],[]⟩,⟨[],[],[]⟩)] ordB_ref_Check2_C4 (pkE rfl) (fun z=>(aB hd1 (aI (ref_below_sim n e.Deps.Addr e.At yd2 gyd2) (aB hd3 (aI (ref_below_sim n e.Deps.Data e.At yd4 gyd4) (aB hd5 (aI (ref_below_sim n e.Deps.Way e.At yd6 gyd6) (aB hd7 z)))))))) (by kernel_rfl)
 obtain ⟨yd8,gyd8,h⟩:=bindE h
 rcases iteE h with ⟨hd9,h⟩ | ⟨hd9,h⟩
 ·
  obtain rfl:=soI h
  exact kR ⟨ord42,[rVC 8 [(179,vT),(187,vT),(195,vT),(203,vT),(206,vT)] [(185,.v (.bool yd2)),(193,.v (.bool yd4)),(201,.v (.bool yd6)),(205,.v (.bool yd8))]],[],[],[]⟩ [(0,⟨[4],[1],0,[],[],[]⟩,⟨[],[],[]⟩)] ordB_ref_Check2_C4 (pkE rfl) (fun z=>(aB hd1 (aI (ref_below_sim n e.Deps.Addr e.At yd2 gyd2) (aB hd3 (aI (ref_below_sim n e.Deps.Data e.At yd4 gyd4) (aB hd5 (aI (ref_below_sim n e.Deps.Way e.At yd6 gyd6) (aB hd7 (aI (ref_Writes_sim n e yd8 gyd8) (aB hd9 z)))))))))) (by kernel_rfl)
 obtain rfl:=soI h
 exact kR ⟨ord42,[rVC 8 [(179,vT),(187,vT),(195,vT),(203,vT),(206,vF),(210,(vI (e.Deps.Data.length:Int)))] [(185,.v (.bool yd2)),(193,.v (.bool yd4)),(201,.v (.bool yd6)),(205,.v (.bool yd8))]],[],[],[]⟩ [(0,⟨[4],[1],0,[],[],[]⟩,⟨[],[],[]⟩)] ordB_ref_Check2_C4 (pkE rfl) (fun z=>(aB hd1 (aI (ref_below_sim n e.Deps.Addr e.At yd2 gyd2) (aB hd3 (aI (ref_below_sim n e.Deps.Data e.At yd4 gyd4) (aB hd5 (aI (ref_below_sim n e.Deps.Way e.At yd6 gyd6) (aB hd7 (aI (ref_Writes_sim n e yd8 gyd8) (aB hd9 (aL eI e.Deps.Data z))))))))))) (by kernel_rfl)

theorem ordB_ref_Check2_C3:ordB (polF 42) ord42 c_ref_Check2_C3=true:=by kernel_rfl
def ref_Check2_C3_S (e:Event) (sb:Bool):St:=mkS 216 [(1,.ptr (.L 1) 0 0),(4,.v (.bool sb))] [(1,(Event.enc e))] [] 0
def ref_Check2_C3_T0 (e:Event) (tt:Bool):St:=mkS 216 [(4,.v (.bool tt))] [] [] 0
def ref_Check2_C3_out (e:Event) (tt:Bool):Ex×St:=(.nrm,ref_Check2_C3_T0 e tt)
theorem ref_Check2_C3_sim (n:Nat) (e:Event):∀ sb t,ref_Check2_C3 n e sb=some t→CodeD Tryz.prog c_ref_Check2_C3 (ref_Check2_C3_S e sb) (pk (ref_Check2_C3_out e) t):=by
 intro sb t h
 unfold ref_Check2_C3 at h
 rcases iteN h with ⟨hb1,h⟩ | ⟨hb1,h⟩
 ·
  obtain ⟨tb2,gtb2,h⟩:=bindE h
  obtain rfl:=soI h
  exact kR ⟨ord42,[rV 7 [(151,vF)]],[],[],[(8,(⟨[1,4],[],0,[],[],[]⟩,⟨[],[],[]⟩,.nrm,ref_Check2_C4_T0 e tb2))]⟩ [(0,⟨[4],[],0,[],[],[]⟩,⟨[],[],[]⟩)] ordB_ref_Check2_C3 (pkE rfl) (fun z=>(aB hb1 (aI (ref_Check2_C4_sim n e _ tb2 gtb2) z))) (by kernel_rfl)
 rcases iteN h with ⟨hb2,h⟩ | ⟨hb2,h⟩
 ·
  rcases iteE h with ⟨hb3,h⟩ | ⟨hb3,h⟩
  ·
   obtain ⟨tb4,gtb4,h⟩:=bindE h
   obtain rfl:=soI h
   exact kR ⟨ord42,[rV 7 [(151,vT),(155,vF),(171,vT)]],[],[],[(8,(⟨[1,4],[],0,[],[],[]⟩,⟨[],[],[]⟩,.nrm,ref_Check2_C4_T0 e tb4))]⟩ [(0,⟨[4],[],0,[],[],[]⟩,⟨[],[],[]⟩)] ordB_ref_Check2_C3 (pkE rfl) (fun z=>(aB hb1 (aB hb2 (aB hb3 (aI (ref_Check2_C4_sim n e _ tb4 gtb4) z))))) (by kernel_rfl)
  obtain ⟨tb4,gtb4,h⟩:=bindE h
  obtain rfl:=soI h
  exact kR ⟨ord42,[rV 7 [(151,vT),(155,vF),(171,vF)]],[],[],[(8,(⟨[1,4],[],0,[],[],[]⟩,⟨[],[],[]⟩,.nrm,ref_Check2_C4_T0 e tb4))]⟩ [(0,⟨[4],[],0,[],[],[]⟩,⟨[],[],[]⟩)] ordB_ref_Check2_C3 (pkE rfl) (fun z=>(aB hb1 (aB hb2 (aB hb3 (aI (ref_Check2_C4_sim n e _ tb4 gtb4) z))))) (by kernel_rfl)
 rcases iteN h with ⟨hb3,h⟩ | ⟨hb3,h⟩
 ·
  rcases iteE h with ⟨hb4,h⟩ | ⟨hb4,h⟩
  ·
   obtain ⟨tb5,gtb5,h⟩:=bindE h
   obtain rfl:=soI h
   exact kR ⟨ord42,[rV 7 [(151,vT),(155,vT),(160,vF),(171,vT)]],[],[],[(8,(⟨[1,4],[],0,[],[],[]⟩,⟨[],[],[]⟩,.nrm,ref_Check2_C4_T0 e tb5))]⟩ [(0,⟨[4],[],0,[],[],[]⟩,⟨[],[],[]⟩)] ordB_ref_Check2_C3 (pkE rfl) (fun z=>(aB hb1 (aB hb2 (aB hb3 (aB hb4 (aI (ref_Check2_C4_sim n e _ tb5 gtb5) z)))))) (by kernel_rfl)
  obtain ⟨tb5,gtb5,h⟩:=bindE h
  obtain rfl:=soI h
  exact kR ⟨ord42,[rV 7 [(151,vT),(155,vT),(160,vF),(171,vF)]],[],[],[(8,(⟨[1,4],[],0,[],[],[]⟩,⟨[],[],[]⟩,.nrm,ref_Check2_C4_T0 e tb5))]⟩ [(0,⟨[4],[],0,[],[],[]⟩,⟨[],[],[]⟩)] ordB_ref_Check2_C3 (pkE rfl) (fun z=>(aB hb1 (aB hb2 (aB hb3 (aB hb4 (aI (ref_Check2_C4_sim n e _ tb5 gtb5) z)))))) (by kernel_rfl)
 rcases iteE h with ⟨hb4,h⟩ | ⟨hb4,h⟩
 ·
  obtain ⟨tb5,gtb5,h⟩:=bindE h
  obtain rfl:=soI h
  exact kR ⟨ord42,[rV 7 [(151,vT),(155,vT),(160,vT),(167,vT)]],[],[],[(8,(⟨[1,4],[],0,[],[],[]⟩,⟨[],[],[]⟩,.nrm,ref_Check2_C4_T0 e tb5))]⟩ [(0,⟨[4],[],0,[],[],[]⟩,⟨[],[],[]⟩)] ordB_ref_Check2_C3 (pkE rfl) (fun z=>(aB hb1 (aB hb2 (aB hb3 (aB hb4 (aI (ref_Check2_C4_sim n e _ tb5 gtb5) z)))))) (by kernel_rfl)
 rcases iteE h with ⟨hb5,h⟩ | ⟨hb5,h⟩
 ·
  obtain ⟨tb6,gtb6,h⟩:=bindE h
  obtain rfl:=soI h
  exact kR ⟨ord42,[rV 7 [(151,vT),(155,vT),(160,vT),(167,vF),(171,vT)]],[],[],[(8,(⟨[1,4],[],0,[],[],[]⟩,⟨[],[],[]⟩,.nrm,ref_Check2_C4_T0 e tb6))]⟩ [(0,⟨[4],[],0,[],[],[]⟩,⟨[],[],[]⟩)] ordB_ref_Check2_C3 (pkE rfl) (fun z=>(aB hb1 (aB hb2 (aB hb3 (aB hb4 (aB hb5 (aI (ref_Check2_C4_sim n e _ tb6 gtb6) z))))))) (by kernel_rfl)
 obtain ⟨tb6,gtb6,h⟩:=bindE h
 obtain rfl:=soI h
 exact kR ⟨ord42,[rV 7 [(151,vT),(155,vT),(160,vT),(167,vF),(171,vF)]],[],[],[(8,(⟨[1,4],[],0,[],[],[]⟩,⟨[],[],[]⟩,.nrm,ref_Check2_C4_T0 e tb6))]⟩ [(0,⟨[4],[],0,[],[],[]⟩,⟨[],[],[]⟩)] ordB_ref_Check2_C3 (pkE rfl) (fun z=>(aB hb1 (aB hb2 (aB hb3 (aB hb4 (aB hb5 (aI (ref_Check2_C4_sim n e _ tb6 gtb6) z))))))) (by kernel_rfl)

theorem ordB_ref_Check2_C2:ordB (polF 42) ord42 c_ref_Check2_C2=true:=by kernel_rfl
def ref_Check2_C2_S (e:Event) (sa:Bool):St:=mkS 216 [(1,.ptr (.L 1) 0 0),(4,.v (.bool sa))] [(1,(Event.enc e))] [] 0
def ref_Check2_C2_T0 (e:Event) (tt:Bool):St:=mkS 216 [(4,.v (.bool tt))] [] [] 0
def ref_Check2_C2_out (e:Event) (tt:Bool):Ex×St:=(.nrm,ref_Check2_C2_T0 e tt)
theorem ref_Check2_C2_sim (n:Nat) (e:Event):∀ sa t,ref_Check2_C2 n e sa=some t→CodeD Tryz.prog c_ref_Check2_C2 (ref_Check2_C2_S e sa) (pk (ref_Check2_C2_out e) t):=by
 intro sa t h
 unfold ref_Check2_C2 at h
 rcases iteN h with ⟨ha1,h⟩ | ⟨ha1,h⟩
 ·
  obtain ⟨ta2,gta2,h⟩:=bindE h
  obtain rfl:=soI h
  exact kR ⟨ord42,[rV 6 [(130,vF)]],[],[],[(7,(⟨[1,4],[],0,[],[],[]⟩,⟨[],[],[]⟩,.nrm,ref_Check2_C3_T0 e ta2))]⟩ [(0,⟨[4],[],0,[],[],[]⟩,⟨[],[],[]⟩)] ordB_ref_Check2_C2 (pkE rfl) (fun z=>(aB ha1 (aI (ref_Check2_C3_sim n e _ ta2 gta2) z))) (by kernel_rfl)
 rcases iteN h with ⟨ha2,h⟩ | ⟨ha2,h⟩
 ·
  rcases iteE h with ⟨ha3,h⟩ | ⟨ha3,h⟩
  ·
   obtain ⟨ta4,gta4,h⟩:=bindE h
   obtain rfl:=soI h
   exact kR ⟨ord42,[rV 6 [(130,vT),(134,vF),(143,vT)]],[],[],[(7,(⟨[1,4],[],0,[],[],[]⟩,⟨[],[],[]⟩,.nrm,ref_Check2_C3_T0 e ta4))]⟩ [(0,⟨[4],[],0,[],[],[]⟩,⟨[],[],[]⟩)] ordB_ref_Check2_C2 (pkE rfl) (fun z=>(aB ha1 (aB ha2 (aB ha3 (aI (ref_Check2_C3_sim n e _ ta4 gta4) z))))) (by kernel_rfl)
  obtain ⟨ta4,gta4,h⟩:=bindE h
  obtain rfl:=soI h
  exact kR ⟨ord42,[rV 6 [(130,vT),(134,vF),(143,vF)]],[],[],[(7,(⟨[1,4],[],0,[],[],[]⟩,⟨[],[],[]⟩,.nrm,ref_Check2_C3_T0 e ta4))]⟩ [(0,⟨[4],[],0,[],[],[]⟩,⟨[],[],[]⟩)] ordB_ref_Check2_C2 (pkE rfl) (fun z=>(aB ha1 (aB ha2 (aB ha3 (aI (ref_Check2_C3_sim n e _ ta4 gta4) z))))) (by kernel_rfl)
 rcases iteE h with ⟨ha3,h⟩ | ⟨ha3,h⟩
 ·
  obtain ⟨ta4,gta4,h⟩:=bindE h
  obtain rfl:=soI h
  exact kR ⟨ord42,[rV 6 [(130,vT),(134,vT),(139,vT)]],[],[],[(7,(⟨[1,4],[],0,[],[],[]⟩,⟨[],[],[]⟩,.nrm,ref_Check2_C3_T0 e ta4))]⟩ [(0,⟨[4],[],0,[],[],[]⟩,⟨[],[],[]⟩)] ordB_ref_Check2_C2 (pkE rfl) (fun z=>(aB ha1 (aB ha2 (aB ha3 (aI (ref_Check2_C3_sim n e _ ta4 gta4) z))))) (by kernel_rfl)
 rcases iteE h with ⟨ha4,h⟩ | ⟨ha4,h⟩
 ·
  obtain ⟨ta5,gta5,h⟩:=bindE h
  obtain rfl:=soI h
  exact kR ⟨ord42,[rV 6 [(130,vT),(134,vT),(139,vF),(143,vT)]],[],[],[(7,(⟨[1,4],[],0,[],[],[]⟩,⟨[],[],[]⟩,.nrm,ref_Check2_C3_T0 e ta5))]⟩ [(0,⟨[4],[],0,[],[],[]⟩,⟨[],[],[]⟩)] ordB_ref_Check2_C2 (pkE rfl) (fun z=>(aB ha1 (aB ha2 (aB ha3 (aB ha4 (aI (ref_Check2_C3_sim n e _ ta5 gta5) z)))))) (by kernel_rfl)
 obtain ⟨ta5,gta5,h⟩:=bindE h
 obtain rfl:=soI h
 exact kR ⟨ord42,[rV 6 [(130,vT),(134,vT),(139,vF),(143,vF)]],[],[],[(7,(⟨[1,4],[],0,[],[],[]⟩,⟨[],[],[]⟩,.nrm,ref_Check2_C3_T0 e ta5))]⟩ [(0,⟨[4],[],0,[],[],[]⟩,⟨[],[],[]⟩)] ordB_ref_Check2_C2 (pkE rfl) (fun z=>(aB ha1 (aB ha2 (aB ha3 (aB ha4 (aI (ref_Check2_C3_sim n e _ ta5 gta5) z)))))) (by kernel_rfl)

theorem ref_Check2_sim (n:Nat) (e:Event) (r:Int) (h:ref_Check2 n e=some r):PCall Tryz.prog 42 [(aAgg Event.enc e)] (eqA ((vI r))):=by
 unfold ref_Check2 at h
 rcases iteN h with ⟨h1,h⟩ | ⟨h1,h⟩
 ·
  rcases iteE h with ⟨h2,h⟩ | ⟨h2,h⟩
  ·
   obtain ⟨t3,gt3,h⟩:=bindE h
   obtain rfl:=soI h
   exact kP ⟨ord42,[rV 1 [(8,(vI (e.Deps.Addr.length:Int))),(12,(vI (e.Deps.Data.length:Int))),(17,(vI (e.Deps.Way.length:Int)))],rV 2 [(22,vF)],rV 3 [(34,vT)]],[],[],[(9,(⟨[4],[1],0,[],[],[]⟩,⟨[],[],[]⟩,.ret,ref_Check2_C1_T0 t3))]⟩ ordB42 (fun z=>(aL eI e.Deps.Addr (aL eI e.Deps.Data (aL eI e.Deps.Way (aB h1 (aB h2 (aI (ref_Check2_C1_sim n _ t3 gt3) z))))))) (by kernel_rfl)
  obtain ⟨t3,gt3,h⟩:=bindE h
  obtain ⟨t4,gt4,h⟩:=bindE h
  obtain rfl:=soI h
  exact kP ⟨ord42,[rV 1 [(8,(vI (e.Deps.Addr.length:Int))),(12,(vI (e.Deps.Data.length:Int))),(17,(vI (e.Deps.Way.length:Int)))],rV 2 [(22,vF)],rV 3 [(34,vF)]],[],[],[(6,(⟨[1,4],[],0,[],[],[]⟩,⟨[],[],[]⟩,.nrm,ref_Check2_C2_T0 e t3)),(9,(⟨[4],[],0,[],[],[]⟩,⟨[],[],[]⟩,.ret,ref_Check2_C1_T0 t4))]⟩ ordB42 (fun z=>(aL eI e.Deps.Addr (aL eI e.Deps.Data (aL eI e.Deps.Way (aB h1 (aB h2 (aI (ref_Check2_C2_sim n e _ t3 gt3) (aI (ref_Check2_C1_sim n _ t4 gt4) z)))))))) (by kernel_rfl)
 rcases iteN h with ⟨h2,h⟩ | ⟨h2,h⟩
 ·
  rcases iteE h with ⟨h3,h⟩ | ⟨h3,h⟩
  ·
   obtain ⟨t4,gt4,h⟩:=bindE h
   obtain rfl:=soI h
   exact kP ⟨ord42,[rV 1 [(8,(vI (e.Deps.Addr.length:Int))),(12,(vI (e.Deps.Data.length:Int))),(17,(vI (e.Deps.Way.length:Int)))],rV 2 [(22,vT),(27,vF)],rV 3 [(34,vT)]],[],[],[(9,(⟨[4],[1],0,[],[],[]⟩,⟨[],[],[]⟩,.ret,ref_Check2_C1_T0 t4))]⟩ ordB42 (fun z=>(aL eI e.Deps.Addr (aL eI e.Deps.Data (aL eI e.Deps.Way (aB h1 (aB h2 (aB h3 (aI (ref_Check2_C1_sim n _ t4 gt4) z)))))))) (by kernel_rfl)
  obtain ⟨t4,gt4,h⟩:=bindE h
  obtain ⟨t5,gt5,h⟩:=bindE h
  obtain rfl:=soI h
  exact kP ⟨ord42,[rV 1 [(8,(vI (e.Deps.Addr.length:Int))),(12,(vI (e.Deps.Data.length:Int))),(17,(vI (e.Deps.Way.length:Int)))],rV 2 [(22,vT),(27,vF)],rV 3 [(34,vF)]],[],[],[(6,(⟨[1,4],[],0,[],[],[]⟩,⟨[],[],[]⟩,.nrm,ref_Check2_C2_T0 e t4)),(9,(⟨[4],[],0,[],[],[]⟩,⟨[],[],[]⟩,.ret,ref_Check2_C1_T0 t5))]⟩ ordB42 (fun z=>(aL eI e.Deps.Addr (aL eI e.Deps.Data (aL eI e.Deps.Way (aB h1 (aB h2 (aB h3 (aI (ref_Check2_C2_sim n e _ t4 gt4) (aI (ref_Check2_C1_sim n _ t5 gt5) z))))))))) (by kernel_rfl)
 rcases iteE h with ⟨h3,h⟩ | ⟨h3,h⟩
 ·
  rcases iteN h with ⟨h4,h⟩ | ⟨h4,h⟩
  ·
   obtain ⟨t5,gt5,h⟩:=bindE h
   obtain rfl:=soI h
   exact kP ⟨ord42,[rV 1 [(8,(vI (e.Deps.Addr.length:Int))),(12,(vI (e.Deps.Data.length:Int))),(17,(vI (e.Deps.Way.length:Int)))],rV 2 [(22,vT),(27,vT)],rV 3 [(34,vT)],rV 4 [(36,vF)]],[],[],[(9,(⟨[4],[1],0,[],[],[]⟩,⟨[],[],[]⟩,.ret,ref_Check2_C1_T0 t5))]⟩ ordB42 (fun z=>(aL eI e.Deps.Addr (aL eI e.Deps.Data (aL eI e.Deps.Way (aB h1 (aB h2 (aB h3 (aB h4 (aI (ref_Check2_C1_sim n _ t5 gt5) z))))))))) (by kernel_rfl)
  rcases iteN h with ⟨h5,h⟩ | ⟨h5,h⟩
  ·
   obtain ⟨t6,gt6,h⟩:=bindE h
   obtain rfl:=soI h
   exact kP ⟨ord42,[rV 1 [(8,(vI (e.Deps.Addr.length:Int))),(12,(vI (e.Deps.Data.length:Int))),(17,(vI (e.Deps.Way.length:Int)))],rV 2 [(22,vT),(27,vT)],rV 3 [(34,vT)],rV 4 [(36,vT),(41,vF)]],[],[],[(9,(⟨[4],[1],0,[],[],[]⟩,⟨[],[],[]⟩,.ret,ref_Check2_C1_T0 t6))]⟩ ordB42 (fun z=>(aL eI e.Deps.Addr (aL eI e.Deps.Data (aL eI e.Deps.Way (aB h1 (aB h2 (aB h3 (aB h4 (aB h5 (aI (ref_Check2_C1_sim n _ t6 gt6) z)))))))))) (by kernel_rfl)
  rcases iteN h with ⟨h6,h⟩ | ⟨h6,h⟩
  ·
   obtain ⟨t7,gt7,h⟩:=bindE h
   obtain rfl:=soI h
   exact kP ⟨ord42,[rV 1 [(8,(vI (e.Deps.Addr.length:Int))),(12,(vI (e.Deps.Data.length:Int))),(17,(vI (e.Deps.Way.length:Int)))],rV 2 [(22,vT),(27,vT)],rV 3 [(34,vT)],rV 4 [(36,vT),(41,vT),(46,vF)]],[],[],[(9,(⟨[4],[1],0,[],[],[]⟩,⟨[],[],[]⟩,.ret,ref_Check2_C1_T0 t7))]⟩ ordB42 (fun z=>(aL eI e.Deps.Addr (aL eI e.Deps.Data (aL eI e.Deps.Way (aB h1 (aB h2 (aB h3 (aB h4 (aB h5 (aB h6 (aI (ref_Check2_C1_sim n _ t7 gt7) z))))))))))) (by kernel_rfl)
  rcases iteN h with ⟨h7,h⟩ | ⟨h7,h⟩
  ·
   obtain ⟨t8,gt8,h⟩:=bindE h
   obtain rfl:=soI h
   exact kP ⟨ord42,[rV 1 [(8,(vI (e.Deps.Addr.length:Int))),(12,(vI (e.Deps.Data.length:Int))),(17,(vI (e.Deps.Way.length:Int)))],rV 2 [(22,vT),(27,vT)],rV 3 [(34,vT)],rV 4 [(36,vT),(41,vT),(46,vT),(51,vF)]],[],[],[(9,(⟨[4],[1],0,[],[],[]⟩,⟨[],[],[]⟩,.ret,ref_Check2_C1_T0 t8))]⟩ ordB42 (fun z=>(aL eI e.Deps.Addr (aL eI e.Deps.Data (aL eI e.Deps.Way (aB h1 (aB h2 (aB h3 (aB h4 (aB h5 (aB h6 (aB h7 (aI (ref_Check2_C1_sim n _ t8 gt8) z)))))))))))) (by kernel_rfl)
  rcases iteN h with ⟨h8,h⟩ | ⟨h8,h⟩
  ·
   obtain ⟨t9,gt9,h⟩:=bindE h
   obtain rfl:=soI h
   exact kP ⟨ord42,[rV 1 [(8,(vI (e.Deps.Addr.length:Int))),(12,(vI (e.Deps.Data.length:Int))),(17,(vI (e.Deps.Way.length:Int)))],rV 2 [(22,vT),(27,vT)],rV 3 [(34,vT)],rV 4 [(36,vT),(41,vT),(46,vT),(51,vT),(56,vF)]],[],[],[(9,(⟨[4],[1],0,[],[],[]⟩,⟨[],[],[]⟩,.ret,ref_Check2_C1_T0 t9))]⟩ ordB42 (fun z=>(aL eI e.Deps.Addr (aL eI e.Deps.Data (aL eI e.Deps.Way (aB h1 (aB h2 (aB h3 (aB h4 (aB h5 (aB h6 (aB h7 (aB h8 (aI (ref_Check2_C1_sim n _ t9 gt9) z))))))))))))) (by kernel_rfl)
  rcases iteN h with ⟨h9,h⟩ | ⟨h9,h⟩
  ·
   obtain ⟨t10,gt10,h⟩:=bindE h
   obtain rfl:=soI h
   exact kP ⟨ord42,[rV 1 [(8,(vI (e.Deps.Addr.length:Int))),(12,(vI (e.Deps.Data.length:Int))),(17,(vI (e.Deps.Way.length:Int)))],rV 2 [(22,vT),(27,vT)],rV 3 [(34,vT)],rV 4 [(36,vT),(41,vT),(46,vT),(51,vT),(56,vT),(61,vF)]],[],[],[(9,(⟨[4],[1],0,[],[],[]⟩,⟨[],[],[]⟩,.ret,ref_Check2_C1_T0 t10))]⟩ ordB42 (fun z=>(aL eI e.Deps.Addr (aL eI e.Deps.Data (aL eI e.Deps.Way (aB h1 (aB h2 (aB h3 (aB h4 (aB h5 (aB h6 (aB h7 (aB h8 (aB h9 (aI (ref_Check2_C1_sim n _ t10 gt10) z)))))))))))))) (by kernel_rfl)
  rcases iteN h with ⟨h10,h⟩ | ⟨h10,h⟩
  ·
   obtain ⟨t11,gt11,h⟩:=bindE h
   obtain rfl:=soI h
   exact kP ⟨ord42,[rV 1 [(8,(vI (e.Deps.Addr.length:Int))),(12,(vI (e.Deps.Data.length:Int))),(17,(vI (e.Deps.Way.length:Int)))],rV 2 [(22,vT),(27,vT)],rV 3 [(34,vT)],rV 4 [(36,vT),(41,vT),(46,vT),(51,vT),(56,vT),(61,vT),(66,vF)]],[],[],[(9,(⟨[4],[1],0,[],[],[]⟩,⟨[],[],[]⟩,.ret,ref_Check2_C1_T0 t11))]⟩ ordB42 (fun z=>(aL eI e.Deps.Addr (aL eI e.Deps.Data (aL eI e.Deps.Way (aB h1 (aB h2 (aB h3 (aB h4 (aB h5 (aB h6 (aB h7 (aB h8 (aB h9 (aB h10 (aI (ref_Check2_C1_sim n _ t11 gt11) z))))))))))))))) (by kernel_rfl)
  rcases iteN h with ⟨h11,h⟩ | ⟨h11,h⟩
  ·
   obtain ⟨t12,gt12,h⟩:=bindE h
   obtain rfl:=soI h
   exact kP ⟨ord42,[rV 1 [(8,(vI (e.Deps.Addr.length:Int))),(12,(vI (e.Deps.Data.length:Int))),(17,(vI (e.Deps.Way.length:Int)))],rV 2 [(22,vT),(27,vT)],rV 3 [(34,vT)],rV 4 [(36,vT),(41,vT),(46,vT),(51,vT),(56,vT),(61,vT),(66,vT),(70,vF)]],[],[],[(9,(⟨[4],[1],0,[],[],[]⟩,⟨[],[],[]⟩,.ret,ref_Check2_C1_T0 t12))]⟩ ordB42 (fun z=>(aL eI e.Deps.Addr (aL eI e.Deps.Data (aL eI e.Deps.Way (aB h1 (aB h2 (aB h3 (aB h4 (aB h5 (aB h6 (aB h7 (aB h8 (aB h9 (aB h10 (aB h11 (aI (ref_Check2_C1_sim n _ t12 gt12) z)))))))))))))))) (by kernel_rfl)
  rcases iteN h with ⟨h12,h⟩ | ⟨h12,h⟩
  ·
   obtain ⟨t13,gt13,h⟩:=bindE h
   obtain rfl:=soI h
   exact kP ⟨ord42,[rV 1 [(8,(vI (e.Deps.Addr.length:Int))),(12,(vI (e.Deps.Data.length:Int))),(17,(vI (e.Deps.Way.length:Int)))],rV 2 [(22,vT),(27,vT)],rV 3 [(34,vT)],rV 4 [(36,vT),(41,vT),(46,vT),(51,vT),(56,vT),(61,vT),(66,vT),(70,vT),(75,vF)]],[],[],[(9,(⟨[4],[1],0,[],[],[]⟩,⟨[],[],[]⟩,.ret,ref_Check2_C1_T0 t13))]⟩ ordB42 (fun z=>(aL eI e.Deps.Addr (aL eI e.Deps.Data (aL eI e.Deps.Way (aB h1 (aB h2 (aB h3 (aB h4 (aB h5 (aB h6 (aB h7 (aB h8 (aB h9 (aB h10 (aB h11 (aB h12 (aI (ref_Check2_C1_sim n _ t13 gt13) z))))))))))))))))) (by kernel_rfl)
  rcases iteN h with ⟨h13,h⟩ | ⟨h13,h⟩
  ·
   obtain ⟨t14,gt14,h⟩:=bindE h
   obtain rfl:=soI h
   exact kP ⟨ord42,[rV 1 [(8,(vI (e.Deps.Addr.length:Int))),(12,(vI (e.Deps.Data.length:Int))),(17,(vI (e.Deps.Way.length:Int)))],rV 2 [(22,vT),(27,vT)],rV 3 [(34,vT)],rV 4 [(36,vT),(41,vT),(46,vT),(51,vT),(56,vT),(61,vT),(66,vT),(70,vT),(75,vT),(80,vF)]],[],[],[(9,(⟨[4],[1],0,[],[],[]⟩,⟨[],[],[]⟩,.ret,ref_Check2_C1_T0 t14))]⟩ ordB42 (fun z=>(aL eI e.Deps.Addr (aL eI e.Deps.Data (aL eI e.Deps.Way (aB h1 (aB h2 (aB h3 (aB h4 (aB h5 (aB h6 (aB h7 (aB h8 (aB h9 (aB h10 (aB h11 (aB h12 (aB h13 (aI (ref_Check2_C1_sim n _ t14 gt14) z)))))))))))))))))) (by kernel_rfl)
  rcases iteE h with ⟨h14,h⟩ | ⟨h14,h⟩
  ·
   obtain ⟨t15,gt15,h⟩:=bindE h
   obtain rfl:=soI h
   exact kP ⟨ord42,[rV 1 [(8,(vI (e.Deps.Addr.length:Int))),(12,(vI (e.Deps.Data.length:Int))),(17,(vI (e.Deps.Way.length:Int)))],rV 2 [(22,vT),(27,vT)],rV 3 [(34,vT)],rV 4 [(36,vT),(41,vT),(46,vT),(51,vT),(56,vT),(61,vT),(66,vT),(70,vT),(75,vT),(80,vT),(85,vT)]],[],[],[(9,(⟨[4],[1],0,[],[],[]⟩,⟨[],[],[]⟩,.ret,ref_Check2_C1_T0 t15))]⟩ ordB42 (fun z=>(aL eI e.Deps.Addr (aL eI e.Deps.Data (aL eI e.Deps.Way (aB h1 (aB h2 (aB h3 (aB h4 (aB h5 (aB h6 (aB h7 (aB h8 (aB h9 (aB h10 (aB h11 (aB h12 (aB h13 (aB h14 (aI (ref_Check2_C1_sim n _ t15 gt15) z))))))))))))))))))) (by kernel_rfl)
  obtain ⟨t15,gt15,h⟩:=bindE h
  obtain rfl:=soI h
  exact kP ⟨ord42,[rV 1 [(8,(vI (e.Deps.Addr.length:Int))),(12,(vI (e.Deps.Data.length:Int))),(17,(vI (e.Deps.Way.length:Int)))],rV 2 [(22,vT),(27,vT)],rV 3 [(34,vT)],rV 4 [(36,vT),(41,vT),(46,vT),(51,vT),(56,vT),(61,vT),(66,vT),(70,vT),(75,vT),(80,vT),(85,vF)]],[],[],[(9,(⟨[4],[1],0,[],[],[]⟩,⟨[],[],[]⟩,.ret,ref_Check2_C1_T0 t15))]⟩ ordB42 (fun z=>(aL eI e.Deps.Addr (aL eI e.Deps.Data (aL eI e.Deps.Way (aB h1 (aB h2 (aB h3 (aB h4 (aB h5 (aB h6 (aB h7 (aB h8 (aB h9 (aB h10 (aB h11 (aB h12 (aB h13 (aB h14 (aI (ref_Check2_C1_sim n _ t15 gt15) z))))))))))))))))))) (by kernel_rfl)
 rcases iteN h with ⟨h4,h⟩ | ⟨h4,h⟩
 ·
  obtain ⟨t5,gt5,h⟩:=bindE h
  obtain ⟨t6,gt6,h⟩:=bindE h
  obtain rfl:=soI h
  exact kP ⟨ord42,[rV 1 [(8,(vI (e.Deps.Addr.length:Int))),(12,(vI (e.Deps.Data.length:Int))),(17,(vI (e.Deps.Way.length:Int)))],rV 2 [(22,vT),(27,vT)],rV 3 [(34,vF)],rV 5 [(91,vF)]],[],[],[(6,(⟨[1,4],[],0,[],[],[]⟩,⟨[],[],[]⟩,.nrm,ref_Check2_C2_T0 e t5)),(9,(⟨[4],[],0,[],[],[]⟩,⟨[],[],[]⟩,.ret,ref_Check2_C1_T0 t6))]⟩ ordB42 (fun z=>(aL eI e.Deps.Addr (aL eI e.Deps.Data (aL eI e.Deps.Way (aB h1 (aB h2 (aB h3 (aB h4 (aI (ref_Check2_C2_sim n e _ t5 gt5) (aI (ref_Check2_C1_sim n _ t6 gt6) z)))))))))) (by kernel_rfl)
 obtain ⟨y5,gy5,h⟩:=bindE h
 rcases iteN h with ⟨h6,h⟩ | ⟨h6,h⟩
 ·
  obtain ⟨t7,gt7,h⟩:=bindE h
  obtain ⟨t8,gt8,h⟩:=bindE h
  obtain rfl:=soI h
  exact kP ⟨ord42,[rV 1 [(8,(vI (e.Deps.Addr.length:Int))),(12,(vI (e.Deps.Data.length:Int))),(17,(vI (e.Deps.Way.length:Int)))],rV 2 [(22,vT),(27,vT)],rV 3 [(34,vF)],rVC 5 [(91,vT),(95,vF)] [(93,.v (.bool y5))]],[],[],[(6,(⟨[1,4],[],0,[],[],[]⟩,⟨[],[],[]⟩,.nrm,ref_Check2_C2_T0 e t7)),(9,(⟨[4],[],0,[],[],[]⟩,⟨[],[],[]⟩,.ret,ref_Check2_C1_T0 t8))]⟩ ordB42 (fun z=>(aL eI e.Deps.Addr (aL eI e.Deps.Data (aL eI e.Deps.Way (aB h1 (aB h2 (aB h3 (aB h4 (aI (ref_Memory_sim n e y5 gy5) (aB h6 (aI (ref_Check2_C2_sim n e _ t7 gt7) (aI (ref_Check2_C1_sim n _ t8 gt8) z)))))))))))) (by kernel_rfl)
 rcases iteN h with ⟨h7,h⟩ | ⟨h7,h⟩
 ·
  obtain ⟨t8,gt8,h⟩:=bindE h
  obtain ⟨t9,gt9,h⟩:=bindE h
  obtain rfl:=soI h
  exact kP ⟨ord42,[rV 1 [(8,(vI (e.Deps.Addr.length:Int))),(12,(vI (e.Deps.Data.length:Int))),(17,(vI (e.Deps.Way.length:Int)))],rV 2 [(22,vT),(27,vT)],rV 3 [(34,vF)],rVC 5 [(91,vT),(95,vT),(101,vF)] [(93,.v (.bool y5))]],[],[],[(6,(⟨[1,4],[],0,[],[],[]⟩,⟨[],[],[]⟩,.nrm,ref_Check2_C2_T0 e t8)),(9,(⟨[4],[],0,[],[],[]⟩,⟨[],[],[]⟩,.ret,ref_Check2_C1_T0 t9))]⟩ ordB42 (fun z=>(aL eI e.Deps.Addr (aL eI e.Deps.Data (aL eI e.Deps.Way (aB h1 (aB h2 (aB h3 (aB h4 (aI (ref_Memory_sim n e y5 gy5) (aB h6 (aB h7 (aI (ref_Check2_C2_sim n e _ t8 gt8) (aI (ref_Check2_C1_sim n _ t9 gt9) z))))))))))))) (by kernel_rfl)
 obtain ⟨y8,gy8,h⟩:=bindE h
 rcases iteE h with ⟨h9,h⟩ | ⟨h9,h⟩
 ·
  obtain ⟨y10,gy10,h⟩:=bindE h
  rcases iteE h with ⟨h11,h⟩ | ⟨h11,h⟩
  ·
   rcases iteE h with ⟨h12,h⟩ | ⟨h12,h⟩
   ·
    obtain ⟨t13,gt13,h⟩:=bindE h
    obtain ⟨t14,gt14,h⟩:=bindE h
    obtain rfl:=soI h
    exact kP ⟨ord42,[rV 1 [(8,(vI (e.Deps.Addr.length:Int))),(12,(vI (e.Deps.Data.length:Int))),(17,(vI (e.Deps.Way.length:Int)))],rV 2 [(22,vT),(27,vT)],rV 3 [(34,vF)],rVC 5 [(91,vT),(95,vT),(101,vT),(104,vT),(113,vT),(124,vT)] [(93,.v (.bool y5)),(103,.v (.bool y8)),(112,.v (.bool y10))]],[],[],[(6,(⟨[1,4],[],0,[],[],[]⟩,⟨[],[],[]⟩,.nrm,ref_Check2_C2_T0 e t13)),(9,(⟨[4],[],0,[],[],[]⟩,⟨[],[],[]⟩,.ret,ref_Check2_C1_T0 t14))]⟩ ordB42 (fun z=>(aL eI e.Deps.Addr (aL eI e.Deps.Data (aL eI e.Deps.Way (aB h1 (aB h2 (aB h3 (aB h4 (aI (ref_Memory_sim n e y5 gy5) (aB h6 (aB h7 (aI (ref_Reads_sim n e y8 gy8) (aB h9 (aI (ref_Writes_sim n e y10 gy10) (aB h11 (aB h12 (aI (ref_Check2_C2_sim n e _ t13 gt13) (aI (ref_Check2_C1_sim n _ t14 gt14) z)))))))))))))))))) (by kernel_rfl)
   obtain ⟨t13,gt13,h⟩:=bindE h
   obtain ⟨t14,gt14,h⟩:=bindE h
   obtain rfl:=soI h
   exact kP ⟨ord42,[rV 1 [(8,(vI (e.Deps.Addr.length:Int))),(12,(vI (e.Deps.Data.length:Int))),(17,(vI (e.Deps.Way.length:Int)))],rV 2 [(22,vT),(27,vT)],rV 3 [(34,vF)],rVC 5 [(91,vT),(95,vT),(101,vT),(104,vT),(113,vT),(124,vF)] [(93,.v (.bool y5)),(103,.v (.bool y8)),(112,.v (.bool y10))]],[],[],[(6,(⟨[1,4],[],0,[],[],[]⟩,⟨[],[],[]⟩,.nrm,ref_Check2_C2_T0 e t13)),(9,(⟨[4],[],0,[],[],[]⟩,⟨[],[],[]⟩,.ret,ref_Check2_C1_T0 t14))]⟩ ordB42 (fun z=>(aL eI e.Deps.Addr (aL eI e.Deps.Data (aL eI e.Deps.Way (aB h1 (aB h2 (aB h3 (aB h4 (aI (ref_Memory_sim n e y5 gy5) (aB h6 (aB h7 (aI (ref_Reads_sim n e y8 gy8) (aB h9 (aI (ref_Writes_sim n e y10 gy10) (aB h11 (aB h12 (aI (ref_Check2_C2_sim n e _ t13 gt13) (aI (ref_Check2_C1_sim n _ t14 gt14) z)))))))))))))))))) (by kernel_rfl)
  rcases iteN h with ⟨h12,h⟩ | ⟨h12,h⟩
  ·
   obtain ⟨t13,gt13,h⟩:=bindE h
   obtain ⟨t14,gt14,h⟩:=bindE h
   obtain rfl:=soI h
   exact kP ⟨ord42,[rV 1 [(8,(vI (e.Deps.Addr.length:Int))),(12,(vI (e.Deps.Data.length:Int))),(17,(vI (e.Deps.Way.length:Int)))],rV 2 [(22,vT),(27,vT)],rV 3 [(34,vF)],rVC 5 [(91,vT),(95,vT),(101,vT),(104,vT),(113,vF),(119,vF)] [(93,.v (.bool y5)),(103,.v (.bool y8)),(112,.v (.bool y10))]],[],[],[(6,(⟨[1,4],[],0,[],[],[]⟩,⟨[],[],[]⟩,.nrm,ref_Check2_C2_T0 e t13)),(9,(⟨[4],[],0,[],[],[]⟩,⟨[],[],[]⟩,.ret,ref_Check2_C1_T0 t14))]⟩ ordB42 (fun z=>(aL eI e.Deps.Addr (aL eI e.Deps.Data (aL eI e.Deps.Way (aB h1 (aB h2 (aB h3 (aB h4 (aI (ref_Memory_sim n e y5 gy5) (aB h6 (aB h7 (aI (ref_Reads_sim n e y8 gy8) (aB h9 (aI (ref_Writes_sim n e y10 gy10) (aB h11 (aB h12 (aI (ref_Check2_C2_sim n e _ t13 gt13) (aI (ref_Check2_C1_sim n _ t14 gt14) z)))))))))))))))))) (by kernel_rfl)
  rcases iteE h with ⟨h13,h⟩ | ⟨h13,h⟩
  ·
   obtain ⟨t14,gt14,h⟩:=bindE h
   obtain ⟨t15,gt15,h⟩:=bindE h
   obtain rfl:=soI h
   exact kP ⟨ord42,[rV 1 [(8,(vI (e.Deps.Addr.length:Int))),(12,(vI (e.Deps.Data.length:Int))),(17,(vI (e.Deps.Way.length:Int)))],rV 2 [(22,vT),(27,vT)],rV 3 [(34,vF)],rVC 5 [(91,vT),(95,vT),(101,vT),(104,vT),(113,vF),(119,vT),(124,vT)] [(93,.v (.bool y5)),(103,.v (.bool y8)),(112,.v (.bool y10))]],[],[],[(6,(⟨[1,4],[],0,[],[],[]⟩,⟨[],[],[]⟩,.nrm,ref_Check2_C2_T0 e t14)),(9,(⟨[4],[],0,[],[],[]⟩,⟨[],[],[]⟩,.ret,ref_Check2_C1_T0 t15))]⟩ ordB42 (fun z=>(aL eI e.Deps.Addr (aL eI e.Deps.Data (aL eI e.Deps.Way (aB h1 (aB h2 (aB h3 (aB h4 (aI (ref_Memory_sim n e y5 gy5) (aB h6 (aB h7 (aI (ref_Reads_sim n e y8 gy8) (aB h9 (aI (ref_Writes_sim n e y10 gy10) (aB h11 (aB h12 (aB h13 (aI (ref_Check2_C2_sim n e _ t14 gt14) (aI (ref_Check2_C1_sim n _ t15 gt15) z))))))))))))))))))) (by kernel_rfl)
  obtain ⟨t14,gt14,h⟩:=bindE h
  obtain ⟨t15,gt15,h⟩:=bindE h
  obtain rfl:=soI h
  exact kP ⟨ord42,[rV 1 [(8,(vI (e.Deps.Addr.length:Int))),(12,(vI (e.Deps.Data.length:Int))),(17,(vI (e.Deps.Way.length:Int)))],rV 2 [(22,vT),(27,vT)],rV 3 [(34,vF)],rVC 5 [(91,vT),(95,vT),(101,vT),(104,vT),(113,vF),(119,vT),(124,vF)] [(93,.v (.bool y5)),(103,.v (.bool y8)),(112,.v (.bool y10))]],[],[],[(6,(⟨[1,4],[],0,[],[],[]⟩,⟨[],[],[]⟩,.nrm,ref_Check2_C2_T0 e t14)),(9,(⟨[4],[],0,[],[],[]⟩,⟨[],[],[]⟩,.ret,ref_Check2_C1_T0 t15))]⟩ ordB42 (fun z=>(aL eI e.Deps.Addr (aL eI e.Deps.Data (aL eI e.Deps.Way (aB h1 (aB h2 (aB h3 (aB h4 (aI (ref_Memory_sim n e y5 gy5) (aB h6 (aB h7 (aI (ref_Reads_sim n e y8 gy8) (aB h9 (aI (ref_Writes_sim n e y10 gy10) (aB h11 (aB h12 (aB h13 (aI (ref_Check2_C2_sim n e _ t14 gt14) (aI (ref_Check2_C1_sim n _ t15 gt15) z))))))))))))))))))) (by kernel_rfl)
 rcases iteN h with ⟨h10,h⟩ | ⟨h10,h⟩
 ·
  obtain ⟨t11,gt11,h⟩:=bindE h
  obtain ⟨t12,gt12,h⟩:=bindE h
  obtain rfl:=soI h
  exact kP ⟨ord42,[rV 1 [(8,(vI (e.Deps.Addr.length:Int))),(12,(vI (e.Deps.Data.length:Int))),(17,(vI (e.Deps.Way.length:Int)))],rV 2 [(22,vT),(27,vT)],rV 3 [(34,vF)],rVC 5 [(91,vT),(95,vT),(101,vT),(104,vF),(110,vF)] [(93,.v (.bool y5)),(103,.v (.bool y8))]],[],[],[(6,(⟨[1,4],[],0,[],[],[]⟩,⟨[],[],[]⟩,.nrm,ref_Check2_C2_T0 e t11)),(9,(⟨[4],[],0,[],[],[]⟩,⟨[],[],[]⟩,.ret,ref_Check2_C1_T0 t12))]⟩ ordB42 (fun z=>(aL eI e.Deps.Addr (aL eI e.Deps.Data (aL eI e.Deps.Way (aB h1 (aB h2 (aB h3 (aB h4 (aI (ref_Memory_sim n e y5 gy5) (aB h6 (aB h7 (aI (ref_Reads_sim n e y8 gy8) (aB h9 (aB h10 (aI (ref_Check2_C2_sim n e _ t11 gt11) (aI (ref_Check2_C1_sim n _ t12 gt12) z)))))))))))))))) (by kernel_rfl)
 obtain ⟨y11,gy11,h⟩:=bindE h
 rcases iteE h with ⟨h12,h⟩ | ⟨h12,h⟩
 ·
  rcases iteE h with ⟨h13,h⟩ | ⟨h13,h⟩
  ·
   obtain ⟨t14,gt14,h⟩:=bindE h
   obtain ⟨t15,gt15,h⟩:=bindE h
   obtain rfl:=soI h
   exact kP ⟨ord42,[rV 1 [(8,(vI (e.Deps.Addr.length:Int))),(12,(vI (e.Deps.Data.length:Int))),(17,(vI (e.Deps.Way.length:Int)))],rV 2 [(22,vT),(27,vT)],rV 3 [(34,vF)],rVC 5 [(91,vT),(95,vT),(101,vT),(104,vF),(110,vT),(113,vT),(124,vT)] [(93,.v (.bool y5)),(103,.v (.bool y8)),(112,.v (.bool y11))]],[],[],[(6,(⟨[1,4],[],0,[],[],[]⟩,⟨[],[],[]⟩,.nrm,ref_Check2_C2_T0 e t14)),(9,(⟨[4],[],0,[],[],[]⟩,⟨[],[],[]⟩,.ret,ref_Check2_C1_T0 t15))]⟩ ordB42 (fun z=>(aL eI e.Deps.Addr (aL eI e.Deps.Data (aL eI e.Deps.Way (aB h1 (aB h2 (aB h3 (aB h4 (aI (ref_Memory_sim n e y5 gy5) (aB h6 (aB h7 (aI (ref_Reads_sim n e y8 gy8) (aB h9 (aB h10 (aI (ref_Writes_sim n e y11 gy11) (aB h12 (aB h13 (aI (ref_Check2_C2_sim n e _ t14 gt14) (aI (ref_Check2_C1_sim n _ t15 gt15) z))))))))))))))))))) (by kernel_rfl)
  obtain ⟨t14,gt14,h⟩:=bindE h
  obtain ⟨t15,gt15,h⟩:=bindE h
  obtain rfl:=soI h
  exact kP ⟨ord42,[rV 1 [(8,(vI (e.Deps.Addr.length:Int))),(12,(vI (e.Deps.Data.length:Int))),(17,(vI (e.Deps.Way.length:Int)))],rV 2 [(22,vT),(27,vT)],rV 3 [(34,vF)],rVC 5 [(91,vT),(95,vT),(101,vT),(104,vF),(110,vT),(113,vT),(124,vF)] [(93,.v (.bool y5)),(103,.v (.bool y8)),(112,.v (.bool y11))]],[],[],[(6,(⟨[1,4],[],0,[],[],[]⟩,⟨[],[],[]⟩,.nrm,ref_Check2_C2_T0 e t14)),(9,(⟨[4],[],0,[],[],[]⟩,⟨[],[],[]⟩,.ret,ref_Check2_C1_T0 t15))]⟩ ordB42 (fun z=>(aL eI e.Deps.Addr (aL eI e.Deps.Data (aL eI e.Deps.Way (aB h1 (aB h2 (aB h3 (aB h4 (aI (ref_Memory_sim n e y5 gy5) (aB h6 (aB h7 (aI (ref_Reads_sim n e y8 gy8) (aB h9 (aB h10 (aI (ref_Writes_sim n e y11 gy11) (aB h12 (aB h13 (aI (ref_Check2_C2_sim n e _ t14 gt14) (aI (ref_Check2_C1_sim n _ t15 gt15) z))))))))))))))))))) (by kernel_rfl)
 rcases iteN h with ⟨h13,h⟩ | ⟨h13,h⟩
 ·
  obtain ⟨t14,gt14,h⟩:=bindE h
  obtain ⟨t15,gt15,h⟩:=bindE h
  obtain rfl:=soI h
  exact kP ⟨ord42,[rV 1 [(8,(vI (e.Deps.Addr.length:Int))),(12,(vI (e.Deps.Data.length:Int))),(17,(vI (e.Deps.Way.length:Int)))],rV 2 [(22,vT),(27,vT)],rV 3 [(34,vF)],rVC 5 [(91,vT),(95,vT),(101,vT),(104,vF),(110,vT),(113,vF),(119,vF)] [(93,.v (.bool y5)),(103,.v (.bool y8)),(112,.v (.bool y11))]],[],[],[(6,(⟨[1,4],[],0,[],[],[]⟩,⟨[],[],[]⟩,.nrm,ref_Check2_C2_T0 e t14)),(9,(⟨[4],[],0,[],[],[]⟩,⟨[],[],[]⟩,.ret,ref_Check2_C1_T0 t15))]⟩ ordB42 (fun z=>(aL eI e.Deps.Addr (aL eI e.Deps.Data (aL eI e.Deps.Way (aB h1 (aB h2 (aB h3 (aB h4 (aI (ref_Memory_sim n e y5 gy5) (aB h6 (aB h7 (aI (ref_Reads_sim n e y8 gy8) (aB h9 (aB h10 (aI (ref_Writes_sim n e y11 gy11) (aB h12 (aB h13 (aI (ref_Check2_C2_sim n e _ t14 gt14) (aI (ref_Check2_C1_sim n _ t15 gt15) z))))))))))))))))))) (by kernel_rfl)
 rcases iteE h with ⟨h14,h⟩ | ⟨h14,h⟩
 ·
  obtain ⟨t15,gt15,h⟩:=bindE h
  obtain ⟨t16,gt16,h⟩:=bindE h
  obtain rfl:=soI h
  exact kP ⟨ord42,[rV 1 [(8,(vI (e.Deps.Addr.length:Int))),(12,(vI (e.Deps.Data.length:Int))),(17,(vI (e.Deps.Way.length:Int)))],rV 2 [(22,vT),(27,vT)],rV 3 [(34,vF)],rVC 5 [(91,vT),(95,vT),(101,vT),(104,vF),(110,vT),(113,vF),(119,vT),(124,vT)] [(93,.v (.bool y5)),(103,.v (.bool y8)),(112,.v (.bool y11))]],[],[],[(6,(⟨[1,4],[],0,[],[],[]⟩,⟨[],[],[]⟩,.nrm,ref_Check2_C2_T0 e t15)),(9,(⟨[4],[],0,[],[],[]⟩,⟨[],[],[]⟩,.ret,ref_Check2_C1_T0 t16))]⟩ ordB42 (fun z=>(aL eI e.Deps.Addr (aL eI e.Deps.Data (aL eI e.Deps.Way (aB h1 (aB h2 (aB h3 (aB h4 (aI (ref_Memory_sim n e y5 gy5) (aB h6 (aB h7 (aI (ref_Reads_sim n e y8 gy8) (aB h9 (aB h10 (aI (ref_Writes_sim n e y11 gy11) (aB h12 (aB h13 (aB h14 (aI (ref_Check2_C2_sim n e _ t15 gt15) (aI (ref_Check2_C1_sim n _ t16 gt16) z)))))))))))))))))))) (by kernel_rfl)
 obtain ⟨t15,gt15,h⟩:=bindE h
 obtain ⟨t16,gt16,h⟩:=bindE h
 obtain rfl:=soI h
 exact kP ⟨ord42,[rV 1 [(8,(vI (e.Deps.Addr.length:Int))),(12,(vI (e.Deps.Data.length:Int))),(17,(vI (e.Deps.Way.length:Int)))],rV 2 [(22,vT),(27,vT)],rV 3 [(34,vF)],rVC 5 [(91,vT),(95,vT),(101,vT),(104,vF),(110,vT),(113,vF),(119,vT),(124,vF)] [(93,.v (.bool y5)),(103,.v (.bool y8)),(112,.v (.bool y11))]],[],[],[(6,(⟨[1,4],[],0,[],[],[]⟩,⟨[],[],[]⟩,.nrm,ref_Check2_C2_T0 e t15)),(9,(⟨[4],[],0,[],[],[]⟩,⟨[],[],[]⟩,.ret,ref_Check2_C1_T0 t16))]⟩ ordB42 (fun z=>(aL eI e.Deps.Addr (aL eI e.Deps.Data (aL eI e.Deps.Way (aB h1 (aB h2 (aB h3 (aB h4 (aI (ref_Memory_sim n e y5 gy5) (aB h6 (aB h7 (aI (ref_Reads_sim n e y8 gy8) (aB h9 (aB h10 (aI (ref_Writes_sim n e y11 gy11) (aB h12 (aB h13 (aB h14 (aI (ref_Check2_C2_sim n e _ t15 gt15) (aI (ref_Check2_C1_sim n _ t16 gt16) z)))))))))))))))))))) (by kernel_rfl)

def ord24:List (Nat×PT):=[(8,(ptS [0,1,2,3,4,5,6,7,8,9,10,11,12,13,14,15,16,17]))]
theorem ordB24:ordB (polF 24) ord24 (bodyOf Tryz.prog 24)=true:=by kernel_rfl
noncomputable def c_ref_Row_L1:Code:=sub (bodyOf Tryz.prog 24) [1,0,1,0,0]
noncomputable def c_ref_Row_L2:Code:=sub c_ref_Row_L1 [1,0,0,1,1,1,1,1,0,0]
theorem ordB_ref_Row_L2:ordB (polF 24) ord24 c_ref_Row_L2=true:=by kernel_rfl
def ref_Row_L2_S (hart:Int) (l:(List Event)) (xa2:Event) (xa8:Event) (sb:Int×Bool×Int×Int):St:=mkS 76 [(0,(vI hart)),(1,.sl (l.map Event.enc)),(5,(vI sb.2.2.1)),(7,(vI sb.2.2.2)),(22,.ptr (.L 6) 0 0),(23,(vI xa2.Hart)),(24,(vI hart)),(25,.v (.bool (xa2.Hart != hart))),(28,.ptr (.L 6) 0 1),(29,(vI xa2.At)),(30,(vI sb.1)),(31,.v (.bool sb.2.1)),(44,.sl (l.map Event.enc)),(45,.ptr (.L 6) 0 10),(46,(vI xa2.Pair)),(47,.fptr (Event.enc xa8) 0),(48,.fptr (Event.enc xa8) 3),(49,(vU xa8.Addr)),(50,.ptr (.L 6) 0 3),(51,(vU xa2.Addr)),(52,.v (.bool (xa8.Addr != xa2.Addr)))] [(6,(Event.enc xa2))] [] 0
def ref_Row_L2_T0 (hart:Int) (l:(List Event)) (xa2:Event) (xa8:Event) (tt:Int×Bool×Int):St:=mkS 76 [(0,(vI hart)),(1,.sl (l.map Event.enc)),(5,(vI tt.2.2)),(22,.ptr (.L 6) 0 0),(23,(vI xa2.Hart)),(24,(vI hart)),(25,.v (.bool (xa2.Hart != hart))),(28,.ptr (.L 6) 0 1),(29,(vI xa2.At)),(30,(vI tt.1)),(31,.v (.bool tt.2.1)),(44,.sl (l.map Event.enc)),(45,.ptr (.L 6) 0 10),(46,(vI xa2.Pair)),(47,.fptr (Event.enc xa8) 0),(48,.fptr (Event.enc xa8) 3),(49,(vU xa8.Addr)),(50,.ptr (.L 6) 0 3),(51,(vU xa2.Addr)),(52,.v (.bool (xa8.Addr != xa2.Addr)))] [(6,(Event.enc xa2))] [] 0
def ref_Row_L2_T1 (hart:Int) (l:(List Event)) (xa2:Event) (xa8:Event) (tt:Unit):St:=mkS 76 [(4,(vI 4))] [] [] 0
def ref_Row_L2_out (hart:Int) (l:(List Event)) (xa2:Event) (xa8:Event) (t0:((Int×Bool×Int)⊕Unit)):Ex×St:=match t0 with | .inl tt=>(.ex 2,ref_Row_L2_T0 hart l xa2 xa8 tt) | .inr tt=>(.ret,ref_Row_L2_T1 hart l xa2 xa8 tt)
theorem ref_Row_L2_sim (n:Nat) (hart:Int) (l:(List Event)) (xa2:Event) (xa8:Event):∀ sb r,ref_Row_L2 n hart l xa2 xa8 sb=some r→CodeD Tryz.prog c_ref_Row_L2 (ref_Row_L2_S hart l xa2 xa8 sb) (rk (ref_Row_L2_S hart l xa2 xa8) (ref_Row_L2_out hart l xa2 xa8) r):=by
 intro sb r h
 unfold ref_Row_L2 at h
 rcases iteN h with ⟨hb1,h⟩ | ⟨hb1,h⟩
 ·
  obtain rfl:=soI h
  exact kR ⟨ord24,[rV 11 [(59,vF)]],[],[],[]⟩ [(4,⟨[0,1,5,22,23,24,25,28,29,30,31,44,45,46,47,48,49,50,51,52],[],0,[],[],[]⟩,⟨[],[],[]⟩)] ordB_ref_Row_L2 (rkE rfl neE) (fun z=>(aB hb1 z)) (by kernel_rfl)
 obtain ⟨xb2,gxb2,h⟩:=bindE h
 rcases iteE h with ⟨hb3,h⟩ | ⟨hb3,h⟩
 ·
  obtain rfl:=soI h
  exact kR ⟨ord24,[rV 11 [(59,vT)],(13,⟨[],[],[(64,(Event.enc xb2))],[(68,vT)],[],[],[],[]⟩)],[],[],[]⟩ [(1,⟨[4],[6],0,[],[],[]⟩,⟨[],[],[]⟩)] ordB_ref_Row_L2 (rkE rfl neR) (fun z=>(aB hb1 (aM Event.enc gxb2 (aB hb3 z)))) (by kernel_rfl)
 rcases iteE h with ⟨hb4,h⟩ | ⟨hb4,h⟩
 ·
  obtain rfl:=soI h
  exact kR ⟨ord24,[rV 11 [(59,vT)],(13,⟨[],[],[(64,(Event.enc xb2)),(71,(Event.enc xb2))],[(68,vF),(75,vT)],[],[],[],[]⟩)],[],[],[]⟩ [(1,⟨[4],[6],0,[],[],[]⟩,⟨[],[],[]⟩)] ordB_ref_Row_L2 (rkE rfl neR) (fun z=>(aB hb1 (aM Event.enc gxb2 (aB hb3 (aM Event.enc gxb2 (aB hb4 z)))))) (by kernel_rfl)
 obtain rfl:=soI h
 exact kR ⟨ord24,[rV 11 [(59,vT)],(13,⟨[],[],[(64,(Event.enc xb2)),(71,(Event.enc xb2))],[(68,vF),(75,vF)],[],[],[],[]⟩)],[],[],[]⟩ [(0,⟨[0,1,5,7,22,23,24,25,28,29,30,31,44,45,46,47,48,49,50,51,52],[],0,[],[],[]⟩,⟨[],[],[]⟩)] ordB_ref_Row_L2 rkN (fun z=>(aB hb1 (aM Event.enc gxb2 (aB hb3 (aM Event.enc gxb2 (aB hb4 z)))))) (by kernel_rfl)

theorem ordB_ref_Row_L1:ordB (polF 24) ord24 c_ref_Row_L1=true:=by kernel_rfl
def ref_Row_L1_S (hart:Int) (l:(List Event)) (sa:Int):St:=mkS 76 [(0,(vI hart)),(1,.sl (l.map Event.enc)),(5,(vI sa))] [] [] 0
def ref_Row_L1_T0 (hart:Int) (l:(List Event)) (tt:Unit):St:=mkS 76 [] [] [] 0
def ref_Row_L1_T1 (hart:Int) (l:(List Event)) (tt:Unit):St:=mkS 76 [(4,(vI 4))] [] [] 0
def ref_Row_L1_out (hart:Int) (l:(List Event)) (t0:(Unit⊕Unit)):Ex×St:=match t0 with | .inl tt=>(.ex 0,ref_Row_L1_T0 hart l tt) | .inr tt=>(.ret,ref_Row_L1_T1 hart l tt)
theorem ref_Row_L1_sim (n:Nat) (hart:Int) (l:(List Event)):∀ sa r,ref_Row_L1 n hart l sa=some r→CodeD Tryz.prog c_ref_Row_L1 (ref_Row_L1_S hart l sa) (rk (ref_Row_L1_S hart l) (ref_Row_L1_out hart l) r):=by
 intro sa r h
 unfold ref_Row_L1 at h
 rcases iteN h with ⟨ha1,h⟩ | ⟨ha1,h⟩
 ·
  obtain rfl:=soI h
  exact kR ⟨ord24,[rV 2 [(10,(vI (l.length:Int))),(11,vF)]],[],[],[]⟩ [(2,⟨[],[],0,[],[],[]⟩,⟨[],[],[]⟩)] ordB_ref_Row_L1 (rkE rfl neE) (fun z=>(aL Event.enc l (aB ha1 z))) (by kernel_rfl)
 obtain ⟨xa2,gxa2,h⟩:=bindE h
 obtain ⟨ya3,gya3,h⟩:=bindE h
 rcases iteE h with ⟨ha4,h⟩ | ⟨ha4,h⟩
 ·
  obtain rfl:=soI h
  exact kR ⟨ord24,[rV 2 [(10,(vI (l.length:Int))),(11,vT)],(4,⟨[],[],[(16,(Event.enc xa2))],[],[],[],[],[]⟩),rVC 5 [(21,vT)] [(19,(vI ya3))]],[],[],[]⟩ [(1,⟨[4],[6],0,[],[],[]⟩,⟨[],[],[]⟩)] ordB_ref_Row_L1 (rkE rfl neR) (fun z=>(aL Event.enc l (aB ha1 (aM Event.enc gxa2 (aI (ref_Check2_sim n xa2 ya3 gya3) (aB ha4 z)))))) (by kernel_rfl)
 rcases iteE h with ⟨ha5,h⟩ | ⟨ha5,h⟩
 ·
  obtain rfl:=soI h
  exact kR ⟨ord24,[rV 2 [(10,(vI (l.length:Int))),(11,vT)],(4,⟨[],[],[(16,(Event.enc xa2))],[],[],[],[],[]⟩),rVC 5 [(21,vF),(27,vT)] [(19,(vI ya3))]],[],[],[]⟩ [(1,⟨[4],[6],0,[],[],[]⟩,⟨[],[],[]⟩)] ordB_ref_Row_L1 (rkE rfl neR) (fun z=>(aL Event.enc l (aB ha1 (aM Event.enc gxa2 (aI (ref_Check2_sim n xa2 ya3 gya3) (aB ha4 (aB ha5 z))))))) (by kernel_rfl)
 rcases iteE h with ⟨ha6,h⟩ | ⟨ha6,h⟩
 ·
  obtain rfl:=soI h
  exact kR ⟨ord24,[rV 2 [(10,(vI (l.length:Int))),(11,vT)],(4,⟨[],[],[(16,(Event.enc xa2))],[],[],[],[],[]⟩),rVC 5 [(21,vF),(27,vF),(32,vT)] [(19,(vI ya3))]],[],[],[]⟩ [(1,⟨[4],[6],0,[],[],[]⟩,⟨[],[],[]⟩)] ordB_ref_Row_L1 (rkE rfl neR) (fun z=>(aL Event.enc l (aB ha1 (aM Event.enc gxa2 (aI (ref_Check2_sim n xa2 ya3 gya3) (aB ha4 (aB ha5 (aB ha6 z)))))))) (by kernel_rfl)
 rcases iteE h with ⟨ha7,h⟩ | ⟨ha7,h⟩
 ·
  obtain rfl:=soI h
  exact kR ⟨ord24,[rV 2 [(10,(vI (l.length:Int))),(11,vT)],(4,⟨[],[],[(16,(Event.enc xa2))],[],[],[],[],[]⟩),rVC 5 [(21,vF),(27,vF),(32,vF)] [(19,(vI ya3))],rV 7 [(35,vT)]],[],[],[]⟩ [(0,⟨[0,1,5],[6],0,[],[],[]⟩,⟨[],[],[]⟩)] ordB_ref_Row_L1 rkN (fun z=>(aL Event.enc l (aB ha1 (aM Event.enc gxa2 (aI (ref_Check2_sim n xa2 ya3 gya3) (aB ha4 (aB ha5 (aB ha6 (aB ha7 z))))))))) (by kernel_rfl)
 obtain ⟨xa8,gxa8,h⟩:=bindE h
 rcases iteE h with ⟨ha9,h⟩ | ⟨ha9,h⟩
 ·
  obtain rfl:=soI h
  exact kR ⟨ord24,[rV 2 [(10,(vI (l.length:Int))),(11,vT)],(4,⟨[],[],[(16,(Event.enc xa2))],[],[],[],[],[]⟩),rVC 5 [(21,vF),(27,vF),(32,vF)] [(19,(vI ya3))],rV 7 [(35,vF)],(8,⟨[],[],[(39,(Event.enc xa8))],[(43,vT)],[],[],[],[]⟩)],[],[],[]⟩ [(1,⟨[4],[6],0,[],[],[]⟩,⟨[],[],[]⟩)] ordB_ref_Row_L1 (rkE rfl neR) (fun z=>(aL Event.enc l (aB ha1 (aM Event.enc gxa2 (aI (ref_Check2_sim n xa2 ya3 gya3) (aB ha4 (aB ha5 (aB ha6 (aB ha7 (aM Event.enc gxa8 (aB ha9 z))))))))))) (by kernel_rfl)
 rcases iteE h with ⟨ha10,h⟩ | ⟨ha10,h⟩
 ·
  obtain rfl:=soI h
  exact kR ⟨ord24,[rV 2 [(10,(vI (l.length:Int))),(11,vT)],(4,⟨[],[],[(16,(Event.enc xa2))],[],[],[],[],[]⟩),rVC 5 [(21,vF),(27,vF),(32,vF)] [(19,(vI ya3))],rV 7 [(35,vF)],(8,⟨[],[],[(39,(Event.enc xa8)),(47,(Event.enc xa8))],[(43,vF),(53,vT)],[],[],[],[]⟩)],[],[],[]⟩ [(1,⟨[4],[6],0,[],[],[]⟩,⟨[],[],[]⟩)] ordB_ref_Row_L1 (rkE rfl neR) (fun z=>(aL Event.enc l (aB ha1 (aM Event.enc gxa2 (aI (ref_Check2_sim n xa2 ya3 gya3) (aB ha4 (aB ha5 (aB ha6 (aB ha7 (aM Event.enc gxa8 (aB ha9 (aM Event.enc gxa8 (aB ha10 z))))))))))))) (by kernel_rfl)
 obtain ⟨ta11,gta11,h⟩:=bindE h
 rcases ta11 with wa12 | wa12
 ·
  obtain rfl:=soI h
  exact kR ⟨ord24,[rV 2 [(10,(vI (l.length:Int))),(11,vT)],(4,⟨[],[],[(16,(Event.enc xa2))],[],[],[],[],[]⟩),rVC 5 [(21,vF),(27,vF),(32,vF)] [(19,(vI ya3))],rV 7 [(35,vF)],(8,⟨[],[],[(39,(Event.enc xa8)),(47,(Event.enc xa8))],[(43,vF),(53,vF)],[],[],[],[]⟩)],[],[(11,(⟨[0,1,5,7,22,23,24,25,28,29,30,31,44,45,46,47,48,49,50,51,52],[],0,[],[],[]⟩,⟨[],[],[]⟩,(.ex 2),ref_Row_L2_T0 hart l xa2 xa8 wa12))],[]⟩ [(0,⟨[0,1,5],[6],0,[],[],[]⟩,⟨[],[],[]⟩)] ordB_ref_Row_L1 rkN (fun z=>(aL Event.enc l (aB ha1 (aM Event.enc gxa2 (aI (ref_Check2_sim n xa2 ya3 gya3) (aB ha4 (aB ha5 (aB ha6 (aB ha7 (aM Event.enc gxa8 (aB ha9 (aM Event.enc gxa8 (aB ha10 (aI (okL (pl:=polF 24) (ref_Row_L2_S hart l xa2 xa8) (ref_Row_L2_out hart l xa2 xa8) (ref_Row_L2_sim n hart l xa2 xa8) n _ (.inl wa12) gta11) z)))))))))))))) (by kernel_rfl)
 ·
  obtain rfl:=soI h
  exact kR ⟨ord24,[rV 2 [(10,(vI (l.length:Int))),(11,vT)],(4,⟨[],[],[(16,(Event.enc xa2))],[],[],[],[],[]⟩),rVC 5 [(21,vF),(27,vF),(32,vF)] [(19,(vI ya3))],rV 7 [(35,vF)],(8,⟨[],[],[(39,(Event.enc xa8)),(47,(Event.enc xa8))],[(43,vF),(53,vF)],[],[],[],[]⟩)],[],[(11,(⟨[0,1,5,7,22,23,24,25,28,29,30,31,44,45,46,47,48,49,50,51,52],[],0,[],[],[]⟩,⟨[],[],[]⟩,.ret,ref_Row_L2_T1 hart l xa2 xa8 wa12))],[]⟩ [(1,⟨[4],[],0,[],[],[]⟩,⟨[],[],[]⟩)] ordB_ref_Row_L1 (rkE rfl neR) (fun z=>(aL Event.enc l (aB ha1 (aM Event.enc gxa2 (aI (ref_Check2_sim n xa2 ya3 gya3) (aB ha4 (aB ha5 (aB ha6 (aB ha7 (aM Event.enc gxa8 (aB ha9 (aM Event.enc gxa8 (aB ha10 (aI (okL (pl:=polF 24) (ref_Row_L2_S hart l xa2 xa8) (ref_Row_L2_out hart l xa2 xa8) (ref_Row_L2_sim n hart l xa2 xa8) n _ (.inr wa12) gta11) z)))))))))))))) (by kernel_rfl)

theorem ref_Row_sim (n:Nat) (hart:Int) (l:(List Event)) (r:Int) (h:ref_Row n hart l=some r):PCall Tryz.prog 24 [(vI hart),.sl (l.map Event.enc)] (eqA ((vI r))):=by
 unfold ref_Row at h
 obtain ⟨t1,gt1,h⟩:=bindE h
 rcases t1 with w2 | w2
 ·
  obtain rfl:=soI h
  exact kP ⟨ord24,[],[],[(2,(⟨[0,1,5],[],0,[],[],[]⟩,⟨[],[],[]⟩,(.ex 0),ref_Row_L1_T0 hart l w2))],[]⟩ ordB24 (fun z=>(aI (okL (pl:=polF 24) (ref_Row_L1_S hart l) (ref_Row_L1_out hart l) (ref_Row_L1_sim n hart l) n _ (.inl w2) gt1) z)) (by kernel_rfl)
 ·
  obtain rfl:=soI h
  exact kP ⟨ord24,[],[],[(2,(⟨[0,1,5],[],0,[],[],[]⟩,⟨[],[],[]⟩,.ret,ref_Row_L1_T1 hart l w2))],[]⟩ ordB24 (fun z=>(aI (okL (pl:=polF 24) (ref_Row_L1_S hart l) (ref_Row_L1_out hart l) (ref_Row_L1_sim n hart l) n _ (.inr w2) gt1) z)) (by kernel_rfl)

def ord43:List (Nat×PT):=[(1,(ptS [0,1,2,3,4,5,6,7,8,9,10,11,12,13]))]
theorem ordB43:ordB (polF 43) ord43 (bodyOf Tryz.prog 43)=true:=by kernel_rfl
theorem ref_Copy_sim (n:Nat) (d:Deps) (r:Deps) (h:ref_Copy n d=some r):PCall Tryz.prog 43 [(aAgg Deps.enc d)] (eqA ((aAgg Deps.enc r))):=by
 unfold ref_Copy at h
 obtain ⟨h1,h⟩:=grdE h
 obtain ⟨h2,h⟩:=grdE h
 obtain ⟨h3,h⟩:=grdE h
 obtain rfl:=soI h
 exact kP ⟨ord43,[],[],[],[]⟩ ordB43 (fun z=>(aI (szM:szOk 1 (d.Addr.map eI)=true) (aI (okM:okRows (d.Addr.map eI)=true) (aI (ble_map h1:Nat.ble ((d.Addr.map eI).length * 8) 140737488355328=true) (aI (szM:szOk 1 (d.Data.map eI)=true) (aI (okM:okRows (d.Data.map eI)=true) (aI (ble_map h2:Nat.ble ((d.Data.map eI).length * 8) 140737488355328=true) (aI (szM:szOk 1 (d.Way.map eI)=true) (aI (okM:okRows (d.Way.map eI)=true) (aI (ble_map h3:Nat.ble ((d.Way.map eI).length * 8) 140737488355328=true) z)))))))))) (by kernel_rfl)

def ord25:List (Nat×PT):=[]
theorem ordB25:ordB (polF 25) ord25 (bodyOf Tryz.prog 25)=true:=by kernel_rfl
noncomputable def c_ref_flat_L1:Code:=sub (bodyOf Tryz.prog 25) [1,1,0,1,0,0]
noncomputable def c_ref_flat_L2:Code:=sub c_ref_flat_L1 [1,0,0,1,0,0]
theorem ordB_ref_flat_L2:ordB (polF 25) ord25 c_ref_flat_L2=true:=by kernel_rfl
def ref_flat_L2_S (c:Cand) (sb:(List Event)×Int×Int):St:=mkS 41 [(1,.ptr (.L 1) 0 0),(3,.mf 0),(4,(vI sb.2.1)),(5,(vI sb.2.2))] [(1,(Cand.enc c))] [.arr true 14 (sb.1.map Event.enc)] 0
def ref_flat_L2_T0 (c:Cand) (tt:(List Event)×Int):St:=mkS 41 [(1,.ptr (.L 1) 0 0),(3,.mf 0),(4,(vI tt.2))] [(1,(Cand.enc c))] [.arr true 14 (tt.1.map Event.enc)] 0
def ref_flat_L2_out (c:Cand) (tt:((List Event)×Int)):Ex×St:=(.ex 2,ref_flat_L2_T0 c tt)
theorem ref_flat_L2_sim (n:Nat) (c:Cand):∀ sb r,ref_flat_L2 n c sb=some r→CodeD Tryz.prog c_ref_flat_L2 (ref_flat_L2_S c sb) (rk (ref_flat_L2_S c) (ref_flat_L2_out c) r):=by
 intro sb r h
 unfold ref_flat_L2 at h
 obtain ⟨xb1,gxb1,h⟩:=bindE h
 rcases iteN h with ⟨hb2,h⟩ | ⟨hb2,h⟩
 ·
  obtain rfl:=soI h
  exact kR ⟨ord25,[(6,⟨[],[],[(18,[.sl (xb1.map Event.enc)])],[(20,(vI (xb1.length:Int))),(21,vF)],[],[],[],[]⟩)],[],[],[]⟩ [(4,⟨[1,3,4],[],1,[],[],[]⟩,⟨[],[],[]⟩)] ordB_ref_flat_L2 (rkE rfl neE) (fun z=>(aM (eSl Event.enc) gxb1 (aL Event.enc xb1 (aB hb2 z)))) (by kernel_rfl)
 obtain ⟨xb3,gxb3,h⟩:=bindE h
 obtain ⟨yb4,gyb4,h⟩:=bindE h
 obtain ⟨hb5,h⟩:=grdE h
 obtain rfl:=soI h
 exact kR ⟨ord25,[(6,⟨[],[],[(18,[.sl (xb1.map Event.enc)])],[(20,(vI (xb1.length:Int))),(21,vT)],[],[],[],[]⟩),(8,⟨[],[],[(27,[.sl (xb1.map Event.enc)]),(30,(Event.enc xb3))],[],[],[],[],[]⟩),rVC 9 [] [(34,(aAgg Deps.enc yb4))],(10,⟨[],[39],[],[],[],[],[(39,(0,(sb.1++([(Event.mk xb3.Hart xb3.At xb3.Kind xb3.Addr xb3.Load xb3.Store xb3.Aq xb3.Rl xb3.Pred xb3.Succ xb3.Pair yb4)]:List Event)).map Event.enc))],[]⟩)],[],[],[]⟩ [(0,⟨[1,3,4,5],[6],1,[],[],[]⟩,⟨[],[],[]⟩)] ordB_ref_flat_L2 rkN (fun z=>(aM (eSl Event.enc) gxb1 (aL Event.enc xb1 (aB hb2 (aM (eSl Event.enc) gxb1 (aM Event.enc gxb3 (aI (ref_Copy_sim n xb3.Deps yb4 gyb4) (aI (rfl:szOk 14 [[(vI xb3.Hart),(vI xb3.At),(vI xb3.Kind),(vU xb3.Addr),(vU xb3.Load),(vU xb3.Store),.v (.bool xb3.Aq),.v (.bool xb3.Rl),(vI xb3.Pred),(vI xb3.Succ),(vI xb3.Pair),.sl (yb4.Addr.map eI),.sl (yb4.Data.map eI),.sl (yb4.Way.map eI)]]=true) (aI (rfl:okRows [[(vI xb3.Hart),(vI xb3.At),(vI xb3.Kind),(vU xb3.Addr),(vU xb3.Load),(vU xb3.Store),.v (.bool xb3.Aq),.v (.bool xb3.Rl),(vI xb3.Pred),(vI xb3.Succ),(vI xb3.Pair),.sl (yb4.Addr.map eI),.sl (yb4.Data.map eI),.sl (yb4.Way.map eI)]]=true) (aI (ble_maps1 hb5:Nat.ble (((sb.1.map Event.enc).length + 1) * 152) 140737488355328=true) (aI (app_map Event.enc sb.1 ([(Event.mk xb3.Hart xb3.At xb3.Kind xb3.Addr xb3.Load xb3.Store xb3.Aq xb3.Rl xb3.Pred xb3.Succ xb3.Pair yb4)]:List Event)) z))))))))))) (by kernel_rfl)

theorem ordB_ref_flat_L1:ordB (polF 25) ord25 c_ref_flat_L1=true:=by kernel_rfl
def ref_flat_L1_S (c:Cand) (sa:(List Event)×Int):St:=mkS 41 [(1,.ptr (.L 1) 0 0),(3,.mf 0),(4,(vI sa.2))] [(1,(Cand.enc c))] [.arr true 14 (sa.1.map Event.enc)] 0
def ref_flat_L1_T0 (c:Cand) (tt:(List Event)):St:=mkS 41 [(3,.mf 0)] [] [.arr true 14 (tt.map Event.enc)] 0
def ref_flat_L1_out (c:Cand) (tt:((List Event))):Ex×St:=(.ex 0,ref_flat_L1_T0 c tt)
theorem ref_flat_L1_sim (n:Nat) (c:Cand):∀ sa r,ref_flat_L1 n c sa=some r→CodeD Tryz.prog c_ref_flat_L1 (ref_flat_L1_S c sa) (rk (ref_flat_L1_S c) (ref_flat_L1_out c) r):=by
 intro sa r h
 unfold ref_flat_L1 at h
 rcases iteN h with ⟨ha1,h⟩ | ⟨ha1,h⟩
 ·
  obtain rfl:=soI h
  exact kR ⟨ord25,[rV 3 [(10,(vI (c.Harts.length:Int))),(11,vF)]],[],[],[]⟩ [(2,⟨[3],[1],1,[],[],[]⟩,⟨[],[],[]⟩)] ordB_ref_flat_L1 (rkE rfl neE) (fun z=>(aL (eSl Event.enc) c.Harts (aB ha1 z))) (by kernel_rfl)
 obtain ⟨ta2,gta2,h⟩:=bindE h
 obtain rfl:=soI h
 exact kR ⟨ord25,[rV 3 [(10,(vI (c.Harts.length:Int))),(11,vT)]],[],[(6,(⟨[1,3,4,5],[],1,[],[],[]⟩,⟨[],[],[]⟩,(.ex 2),ref_flat_L2_T0 c ta2))],[]⟩ [(0,⟨[1,3,4],[],1,[],[],[]⟩,⟨[],[],[]⟩)] ordB_ref_flat_L1 rkN (fun z=>(aL (eSl Event.enc) c.Harts (aB ha1 (aI (okL (pl:=polF 25) (ref_flat_L2_S c) (ref_flat_L2_out c) (ref_flat_L2_sim n c) n _ ta2 gta2) z)))) (by kernel_rfl)

theorem ref_flat_sim (n:Nat) (c:Cand) (r:(List Event)) (h:ref_flat n c=some r):PCall Tryz.prog 25 [(aAgg Cand.enc c)] (eqA (.sl (r.map Event.enc))):=by
 unfold ref_flat at h
 obtain ⟨t1,gt1,h⟩:=bindE h
 obtain rfl:=soI h
 exact kP ⟨ord25,[],[],[(3,(⟨[1,3,4],[],0,[(3,14)],[],[]⟩,⟨[],[],[]⟩,(.ex 0),ref_flat_L1_T0 c t1))],[]⟩ ordB25 (fun z=>(aI (okL (pl:=polF 25) (ref_flat_L1_S c) (ref_flat_L1_out c) (ref_flat_L1_sim n c) n _ t1 gt1) z)) (by kernel_rfl)

def ord45:List (Nat×PT):=[]
theorem ordB45:ordB (polF 45) ord45 (bodyOf Tryz.prog 45)=true:=by kernel_rfl
noncomputable def c_ref_first_L1:Code:=sub (bodyOf Tryz.prog 45) [1,0,1,0,0]
theorem ordB_ref_first_L1:ordB (polF 45) ord45 c_ref_first_L1=true:=by kernel_rfl
def ref_first_L1_S (l:(List Cell)) (addr:Int) (sa:Int):St:=mkS 24 [(0,.sl (l.map Cell.enc)),(1,(vU addr)),(5,(vI sa))] [] [] 0
def ref_first_L1_T0 (l:(List Cell)) (addr:Int) (tt:Unit):St:=mkS 24 [] [] [] 0
def ref_first_L1_T1 (l:(List Cell)) (addr:Int) (tt:Int):St:=mkS 24 [(4,(vU tt))] [] [] 0
def ref_first_L1_out (l:(List Cell)) (addr:Int) (t0:(Unit⊕Int)):Ex×St:=match t0 with | .inl tt=>(.ex 0,ref_first_L1_T0 l addr tt) | .inr tt=>(.ret,ref_first_L1_T1 l addr tt)
theorem ref_first_L1_sim (n:Nat) (l:(List Cell)) (addr:Int):∀ sa r,ref_first_L1 n l addr sa=some r→CodeD Tryz.prog c_ref_first_L1 (ref_first_L1_S l addr sa) (rk (ref_first_L1_S l addr) (ref_first_L1_out l addr) r):=by
 intro sa r h
 unfold ref_first_L1 at h
 rcases iteN h with ⟨ha1,h⟩ | ⟨ha1,h⟩
 ·
  obtain rfl:=soI h
  exact kR ⟨ord45,[rV 2 [(8,(vI (l.length:Int))),(9,vF)]],[],[],[]⟩ [(2,⟨[],[],0,[],[],[]⟩,⟨[],[],[]⟩)] ordB_ref_first_L1 (rkE rfl neE) (fun z=>(aL Cell.enc l (aB ha1 z))) (by kernel_rfl)
 obtain ⟨xa2,gxa2,h⟩:=bindE h
 rcases iteN h with ⟨ha3,h⟩ | ⟨ha3,h⟩
 ·
  obtain rfl:=soI h
  exact kR ⟨ord45,[rV 2 [(8,(vI (l.length:Int))),(9,vT)],(4,⟨[],[],[(14,(Cell.enc xa2))],[(18,vF)],[],[],[],[]⟩)],[],[],[]⟩ [(0,⟨[0,1,5],[],0,[],[],[]⟩,⟨[],[],[]⟩)] ordB_ref_first_L1 rkN (fun z=>(aL Cell.enc l (aB ha1 (aM Cell.enc gxa2 (aB ha3 z))))) (by kernel_rfl)
 obtain rfl:=soI h
 exact kR ⟨ord45,[rV 2 [(8,(vI (l.length:Int))),(9,vT)],(4,⟨[],[],[(14,(Cell.enc xa2))],[(18,vT)],[],[],[],[]⟩),(5,⟨[],[],[(21,(Cell.enc xa2))],[],[],[],[],[]⟩)],[],[],[]⟩ [(1,⟨[4],[],0,[],[],[]⟩,⟨[],[],[]⟩)] ordB_ref_first_L1 (rkE rfl neR) (fun z=>(aL Cell.enc l (aB ha1 (aM Cell.enc gxa2 (aB ha3 (aM Cell.enc gxa2 z)))))) (by kernel_rfl)

theorem ref_first_sim (n:Nat) (l:(List Cell)) (addr:Int) (r:Int) (h:ref_first n l addr=some r):PCall Tryz.prog 45 [.sl (l.map Cell.enc),(vU addr)] (eqA ((vU r))):=by
 unfold ref_first at h
 obtain ⟨t1,gt1,h⟩:=bindE h
 rcases t1 with w2 | w2
 ·
  obtain rfl:=soI h
  exact kP ⟨ord45,[],[],[(2,(⟨[0,1,5],[],0,[],[],[]⟩,⟨[],[],[]⟩,(.ex 0),ref_first_L1_T0 l addr w2))],[]⟩ ordB45 (fun z=>(aI (okL (pl:=polF 45) (ref_first_L1_S l addr) (ref_first_L1_out l addr) (ref_first_L1_sim n l addr) n _ (.inl w2) gt1) z)) (by kernel_rfl)
 ·
  obtain rfl:=soI h
  exact kP ⟨ord45,[],[],[(2,(⟨[0,1,5],[],0,[],[],[]⟩,⟨[],[],[]⟩,.ret,ref_first_L1_T1 l addr w2))],[]⟩ ordB45 (fun z=>(aI (okL (pl:=polF 45) (ref_first_L1_S l addr) (ref_first_L1_out l addr) (ref_first_L1_sim n l addr) n _ (.inr w2) gt1) z)) (by kernel_rfl)

def ord26:List (Nat×PT):=[(1,(ptS [0,1,2,3,4,5,6,7,8,9,10,11])),(5,(ptS [0,1,2,3,4,5,6,7,8])),(8,(ptS [0,1,2,3,4,5,6,7,8,9,10,11,12,13,14,15,16,17,18,19,20,21,22,23,24,25]))]
theorem ordB26:ordB (polF 26) ord26 (bodyOf Tryz.prog 26)=true:=by kernel_rfl
theorem ref_from_sim (n:Nat) (c:Cand) (all:(List Event)) (n_:Int) (r:Bool) (h:ref_from n c all n_=some r):PCall Tryz.prog 26 [(aAgg Cand.enc c),.sl (all.map Event.enc),(vI n_)] (eqA (.v (.bool r))):=by
 unfold ref_from at h
 obtain ⟨x1,gx1,h⟩:=bindE h
 obtain ⟨x2,gx2,h⟩:=bindE h
 obtain ⟨y3,gy3,h⟩:=bindE h
 rcases iteE h with ⟨h4,h⟩ | ⟨h4,h⟩
 ·
  obtain rfl:=soI h
  exact kP ⟨ord26,[(1,⟨[],[],[(11,(Event.enc x1)),(16,[(vI x2)])],[],[],[],[],[]⟩),rVC 2 [(18,vT)] [(20,.v (.bool y3))]],[],[],[]⟩ ordB26 (fun z=>(aM Event.enc gx1 (aM eI gx2 (aI (ref_Reads_sim n x1 y3 gy3) (aB h4 z))))) (by kernel_rfl)
 rcases iteE h with ⟨h5,h⟩ | ⟨h5,h⟩
 ·
  obtain ⟨y6,gy6,h⟩:=bindE h
  obtain rfl:=soI h
  exact kP ⟨ord26,[(1,⟨[],[],[(11,(Event.enc x1)),(16,[(vI x2)])],[],[],[],[],[]⟩),rVC 2 [(18,vF)] [(20,.v (.bool y3))],rV 4 [(24,vT)],rVC 5 [] [(33,(vU y6))]],[],[],[]⟩ ordB26 (fun z=>(aM Event.enc gx1 (aM eI gx2 (aI (ref_Reads_sim n x1 y3 gy3) (aB h4 (aB h5 (aI (ref_first_sim n c.First x1.Addr y6 gy6) z))))))) (by kernel_rfl)
 rcases iteE h with ⟨h6,h⟩ | ⟨h6,h⟩
 ·
  obtain rfl:=soI h
  exact kP ⟨ord26,[(1,⟨[],[],[(11,(Event.enc x1)),(16,[(vI x2)])],[],[],[],[],[]⟩),rVC 2 [(18,vF)] [(20,.v (.bool y3))],rV 4 [(24,vF)],rV 6 [(38,vT)]],[],[],[]⟩ ordB26 (fun z=>(aM Event.enc gx1 (aM eI gx2 (aI (ref_Reads_sim n x1 y3 gy3) (aB h4 (aB h5 (aB h6 z))))))) (by kernel_rfl)
 rcases iteE h with ⟨h7,h⟩ | ⟨h7,h⟩
 ·
  obtain rfl:=soI h
  exact kP ⟨ord26,[(1,⟨[],[],[(11,(Event.enc x1)),(16,[(vI x2)])],[],[],[],[],[]⟩),rVC 2 [(18,vF)] [(20,.v (.bool y3))],rV 4 [(24,vF)],rV 6 [(38,vF),(41,(vI (all.length:Int))),(44,vT)]],[],[],[]⟩ ordB26 (fun z=>(aM Event.enc gx1 (aM eI gx2 (aI (ref_Reads_sim n x1 y3 gy3) (aB h4 (aB h5 (aB h6 (aL Event.enc all (aB h7 z))))))))) (by kernel_rfl)
 rcases iteE h with ⟨h8,h⟩ | ⟨h8,h⟩
 ·
  obtain rfl:=soI h
  exact kP ⟨ord26,[(1,⟨[],[],[(11,(Event.enc x1)),(16,[(vI x2)])],[],[],[],[],[]⟩),rVC 2 [(18,vF)] [(20,.v (.bool y3))],rV 4 [(24,vF)],rV 6 [(35,vT),(38,vF),(41,(vI (all.length:Int))),(44,vF)]],[],[],[]⟩ ordB26 (fun z=>(aM Event.enc gx1 (aM eI gx2 (aI (ref_Reads_sim n x1 y3 gy3) (aB h4 (aB h5 (aB h6 (aL Event.enc all (aB h7 (aB h8 z)))))))))) (by kernel_rfl)
 obtain ⟨x9,gx9,h⟩:=bindE h
 obtain ⟨y10,gy10,h⟩:=bindE h
 rcases iteN h with ⟨h11,h⟩ | ⟨h11,h⟩
 ·
  obtain rfl:=soI h
  exact kP ⟨ord26,[(1,⟨[],[],[(11,(Event.enc x1)),(16,[(vI x2)])],[],[],[],[],[]⟩),rVC 2 [(18,vF)] [(20,.v (.bool y3))],rV 4 [(24,vF)],rV 6 [(35,vF),(38,vF),(41,(vI (all.length:Int))),(44,vF)],(8,⟨[],[],[(51,(Event.enc x9))],[(54,vF)],[(53,.v (.bool y10))],[],[],[]⟩)],[],[],[]⟩ ordB26 (fun z=>(aM Event.enc gx1 (aM eI gx2 (aI (ref_Reads_sim n x1 y3 gy3) (aB h4 (aB h5 (aB h6 (aL Event.enc all (aB h7 (aB h8 (aM Event.enc gx9 (aI (ref_Writes_sim n x9 y10 gy10) (aB h11 z))))))))))))) (by kernel_rfl)
 rcases iteN h with ⟨h12,h⟩ | ⟨h12,h⟩
 ·
  obtain rfl:=soI h
  exact kP ⟨ord26,[(1,⟨[],[],[(11,(Event.enc x1)),(16,[(vI x2)])],[],[],[],[],[]⟩),rVC 2 [(18,vF)] [(20,.v (.bool y3))],rV 4 [(24,vF)],rV 6 [(35,vF),(38,vF),(41,(vI (all.length:Int))),(44,vF)],(8,⟨[],[],[(51,(Event.enc x9)),(57,(Event.enc x9))],[(54,vT),(64,vF)],[(53,.v (.bool y10))],[],[],[]⟩)],[],[],[]⟩ ordB26 (fun z=>(aM Event.enc gx1 (aM eI gx2 (aI (ref_Reads_sim n x1 y3 gy3) (aB h4 (aB h5 (aB h6 (aL Event.enc all (aB h7 (aB h8 (aM Event.enc gx9 (aI (ref_Writes_sim n x9 y10 gy10) (aB h11 (aM Event.enc gx9 (aB h12 z))))))))))))))) (by kernel_rfl)
 obtain rfl:=soI h
 exact kP ⟨ord26,[(1,⟨[],[],[(11,(Event.enc x1)),(16,[(vI x2)])],[],[],[],[],[]⟩),rVC 2 [(18,vF)] [(20,.v (.bool y3))],rV 4 [(24,vF)],rV 6 [(35,vF),(38,vF),(41,(vI (all.length:Int))),(44,vF)],(8,⟨[],[],[(51,(Event.enc x9)),(57,(Event.enc x9)),(67,(Event.enc x9))],[(54,vT),(64,vT)],[(53,.v (.bool y10))],[],[],[]⟩)],[],[],[]⟩ ordB26 (fun z=>(aM Event.enc gx1 (aM eI gx2 (aI (ref_Reads_sim n x1 y3 gy3) (aB h4 (aB h5 (aB h6 (aL Event.enc all (aB h7 (aB h8 (aM Event.enc gx9 (aI (ref_Writes_sim n x9 y10 gy10) (aB h11 (aM Event.enc gx9 (aB h12 (aM Event.enc gx9 z)))))))))))))))) (by kernel_rfl)

def ord6:List (Nat×PT):=[]
theorem ordB6:ordB (polF 6) ord6 (bodyOf Tryz.prog 6)=true:=by kernel_rfl
noncomputable def c_ref_Check_L1:Code:=sub (bodyOf Tryz.prog 6) [1,1,1,0,1,0,0]
noncomputable def c_ref_Check_L2:Code:=sub (bodyOf Tryz.prog 6) [1,1,1,1,1,1,1,0,1,0,0]
noncomputable def c_ref_Check_L3:Code:=sub (bodyOf Tryz.prog 6) [1,1,1,1,1,1,1,1,1,0,1,0,0]
theorem ordB_ref_Check_L1:ordB (polF 6) ord6 c_ref_Check_L1=true:=by kernel_rfl
def ref_Check_L1_S (c:Cand) (sa:Int×Int):St:=mkS 121 [(1,.ptr (.L 1) 0 0),(3,(vI sa.1)),(4,(vI sa.2))] [(1,(Cand.enc c))] [] 0
def ref_Check_L1_T0 (c:Cand) (tt:Int):St:=mkS 121 [(1,.ptr (.L 1) 0 0),(3,(vI tt))] [(1,(Cand.enc c))] [] 0
def ref_Check_L1_T1 (c:Cand) (tt:Unit):St:=mkS 121 [(2,(vI 2))] [] [] 0
def ref_Check_L1_out (c:Cand) (t0:(Int⊕Unit)):Ex×St:=match t0 with | .inl tt=>(.ex 0,ref_Check_L1_T0 c tt) | .inr tt=>(.ret,ref_Check_L1_T1 c tt)
theorem ref_Check_L1_sim (n:Nat) (c:Cand):∀ sa r,ref_Check_L1 n c sa=some r→CodeD Tryz.prog c_ref_Check_L1 (ref_Check_L1_S c sa) (rk (ref_Check_L1_S c) (ref_Check_L1_out c) r):=by
 intro sa r h
 unfold ref_Check_L1 at h
 rcases iteN h with ⟨ha1,h⟩ | ⟨ha1,h⟩
 ·
  obtain rfl:=soI h
  exact kR ⟨ord6,[rV 5 [(30,(vI (c.Harts.length:Int))),(31,vF)]],[],[],[]⟩ [(2,⟨[1,3],[],0,[],[],[]⟩,⟨[],[],[]⟩)] ordB_ref_Check_L1 (rkE rfl neE) (fun z=>(aL (eSl Event.enc) c.Harts (aB ha1 z))) (by kernel_rfl)
 obtain ⟨xa2,gxa2,h⟩:=bindE h
 rcases iteE h with ⟨ha3,h⟩ | ⟨ha3,h⟩
 ·
  obtain rfl:=soI h
  exact kR ⟨ord6,[rV 5 [(30,(vI (c.Harts.length:Int))),(31,vT)],(7,⟨[],[],[(38,[.sl (xa2.map Event.enc)])],[(40,(vI (xa2.length:Int)))],[],[],[],[]⟩),rV 8 [(44,vT)]],[],[],[]⟩ [(1,⟨[2],[1],0,[],[],[]⟩,⟨[],[],[]⟩)] ordB_ref_Check_L1 (rkE rfl neR) (fun z=>(aL (eSl Event.enc) c.Harts (aB ha1 (aM (eSl Event.enc) gxa2 (aL Event.enc xa2 (aB ha3 z)))))) (by kernel_rfl)
 obtain ⟨ya4,gya4,h⟩:=bindE h
 rcases iteN h with ⟨ha5,h⟩ | ⟨ha5,h⟩
 ·
  obtain rfl:=soI h
  exact kR ⟨ord6,[rV 5 [(30,(vI (c.Harts.length:Int))),(31,vT)],(7,⟨[],[],[(38,[.sl (xa2.map Event.enc)])],[(40,(vI (xa2.length:Int)))],[],[],[],[]⟩),(8,⟨[],[],[(49,[.sl (xa2.map Event.enc)])],[(44,vF),(53,vF)],[(51,(vI ya4))],[],[],[]⟩)],[],[],[]⟩ [(0,⟨[1,3,4],[],0,[],[],[]⟩,⟨[],[],[]⟩)] ordB_ref_Check_L1 rkN (fun z=>(aL (eSl Event.enc) c.Harts (aB ha1 (aM (eSl Event.enc) gxa2 (aL Event.enc xa2 (aB ha3 (aM (eSl Event.enc) gxa2 (aI (ref_Row_sim n sa.2 xa2 ya4 gya4) (aB ha5 z))))))))) (by kernel_rfl)
 obtain rfl:=soI h
 exact kR ⟨ord6,[rV 5 [(30,(vI (c.Harts.length:Int))),(31,vT)],(7,⟨[],[],[(38,[.sl (xa2.map Event.enc)])],[(40,(vI (xa2.length:Int)))],[],[],[],[]⟩),(8,⟨[],[],[(49,[.sl (xa2.map Event.enc)])],[(44,vF),(53,vT)],[(51,(vI ya4))],[],[],[]⟩)],[],[],[]⟩ [(1,⟨[2],[1],0,[],[],[]⟩,⟨[],[],[]⟩)] ordB_ref_Check_L1 (rkE rfl neR) (fun z=>(aL (eSl Event.enc) c.Harts (aB ha1 (aM (eSl Event.enc) gxa2 (aL Event.enc xa2 (aB ha3 (aM (eSl Event.enc) gxa2 (aI (ref_Row_sim n sa.2 xa2 ya4 gya4) (aB ha5 z))))))))) (by kernel_rfl)

theorem ordB_ref_Check_L2:ordB (polF 6) ord6 c_ref_Check_L2=true:=by kernel_rfl
def ref_Check_L2_S (c:Cand) (w6:Int) (y7:(List Event)) (sa:Int×Int):St:=mkS 121 [(1,.ptr (.L 1) 0 0),(3,(vI w6)),(5,.sl (y7.map Event.enc)),(6,(vI sa.1)),(7,(vI sa.2))] [(1,(Cand.enc c))] [] 0
def ref_Check_L2_T0 (c:Cand) (w6:Int) (y7:(List Event)) (tt:Int):St:=mkS 121 [(1,.ptr (.L 1) 0 0),(3,(vI w6)),(5,.sl (y7.map Event.enc)),(6,(vI tt))] [(1,(Cand.enc c))] [] 0
def ref_Check_L2_T1 (c:Cand) (w6:Int) (y7:(List Event)) (tt:Unit):St:=mkS 121 [(2,(vI 2))] [] [] 0
def ref_Check_L2_out (c:Cand) (w6:Int) (y7:(List Event)) (t0:(Int⊕Unit)):Ex×St:=match t0 with | .inl tt=>(.ex 2,ref_Check_L2_T0 c w6 y7 tt) | .inr tt=>(.ret,ref_Check_L2_T1 c w6 y7 tt)
theorem ref_Check_L2_sim (n:Nat) (c:Cand) (w6:Int) (y7:(List Event)):∀ sa r,ref_Check_L2 n c w6 y7 sa=some r→CodeD Tryz.prog c_ref_Check_L2 (ref_Check_L2_S c w6 y7 sa) (rk (ref_Check_L2_S c w6 y7) (ref_Check_L2_out c w6 y7) r):=by
 intro sa r h
 unfold ref_Check_L2 at h
 rcases iteN h with ⟨ha1,h⟩ | ⟨ha1,h⟩
 ·
  obtain rfl:=soI h
  exact kR ⟨ord6,[rV 15 [(63,vF)]],[],[],[]⟩ [(4,⟨[1,3,5,6],[],0,[],[],[]⟩,⟨[],[],[]⟩)] ordB_ref_Check_L2 (rkE rfl neE) (fun z=>(aB ha1 z)) (by kernel_rfl)
 obtain ⟨ya2,gya2,h⟩:=bindE h
 rcases iteE h with ⟨ha3,h⟩ | ⟨ha3,h⟩
 ·
  obtain rfl:=soI h
  exact kR ⟨ord6,[rV 15 [(63,vT)],rVC 17 [(70,vT)] [(69,.v (.bool ya2))]],[],[],[]⟩ [(1,⟨[2],[1],0,[],[],[]⟩,⟨[],[],[]⟩)] ordB_ref_Check_L2 (rkE rfl neR) (fun z=>(aB ha1 (aI (ref_from_sim n c y7 sa.2 ya2 gya2) (aB ha3 z)))) (by kernel_rfl)
 obtain ⟨xa4,gxa4,h⟩:=bindE h
 obtain ⟨ya5,gya5,h⟩:=bindE h
 rcases iteE h with ⟨ha6,h⟩ | ⟨ha6,h⟩
 ·
  obtain rfl:=soI h
  exact kR ⟨ord6,[rV 15 [(63,vT)],rVC 17 [(70,vF)] [(69,.v (.bool ya2))],(19,⟨[],[],[(73,(Event.enc xa4))],[(75,vT)],[(75,.v (.bool ya5))],[],[],[]⟩)],[],[],[]⟩ [(0,⟨[1,3,5,6,7],[],0,[],[],[]⟩,⟨[],[],[]⟩)] ordB_ref_Check_L2 rkN (fun z=>(aB ha1 (aI (ref_from_sim n c y7 sa.2 ya2 gya2) (aB ha3 (aM Event.enc gxa4 (aI (ref_Memory_sim n xa4 ya5 gya5) (aB ha6 z))))))) (by kernel_rfl)
 obtain rfl:=soI h
 exact kR ⟨ord6,[rV 15 [(63,vT)],rVC 17 [(70,vF)] [(69,.v (.bool ya2))],(19,⟨[],[],[(73,(Event.enc xa4))],[(75,vF)],[(75,.v (.bool ya5))],[],[],[]⟩)],[],[],[]⟩ [(0,⟨[1,3,5,6,7],[],0,[],[],[]⟩,⟨[],[],[]⟩)] ordB_ref_Check_L2 rkN (fun z=>(aB ha1 (aI (ref_from_sim n c y7 sa.2 ya2 gya2) (aB ha3 (aM Event.enc gxa4 (aI (ref_Memory_sim n xa4 ya5 gya5) (aB ha6 z))))))) (by kernel_rfl)

theorem ordB_ref_Check_L3:ordB (polF 6) ord6 c_ref_Check_L3=true:=by kernel_rfl
def ref_Check_L3_S (c:Cand) (w6:Int) (y7:(List Event)) (w10:Int) (sa:(List Bool)×Int):St:=mkS 121 [(1,.ptr (.L 1) 0 0),(3,(vI w6)),(5,.sl (y7.map Event.enc)),(6,(vI w10)),(8,.mf 0),(9,(vI sa.2))] [(1,(Cand.enc c))] [.arr true 1 (sa.1.map eBool)] 0
def ref_Check_L3_T0 (c:Cand) (w6:Int) (y7:(List Event)) (w10:Int) (tt:Unit):St:=mkS 121 [(1,.ptr (.L 1) 0 0),(6,(vI w10))] [(1,(Cand.enc c))] [] 0
def ref_Check_L3_T1 (c:Cand) (w6:Int) (y7:(List Event)) (w10:Int) (tt:Unit):St:=mkS 121 [(2,(vI 2))] [] [] 0
def ref_Check_L3_out (c:Cand) (w6:Int) (y7:(List Event)) (w10:Int) (t0:(Unit⊕Unit)):Ex×St:=match t0 with | .inl tt=>(.ex 4,ref_Check_L3_T0 c w6 y7 w10 tt) | .inr tt=>(.ret,ref_Check_L3_T1 c w6 y7 w10 tt)
theorem ref_Check_L3_sim (n:Nat) (c:Cand) (w6:Int) (y7:(List Event)) (w10:Int):∀ sa r,ref_Check_L3 n c w6 y7 w10 sa=some r→CodeD Tryz.prog c_ref_Check_L3 (ref_Check_L3_S c w6 y7 w10 sa) (rk (ref_Check_L3_S c w6 y7 w10) (ref_Check_L3_out c w6 y7 w10) r):=by
 intro sa r h
 unfold ref_Check_L3 at h
 rcases iteN h with ⟨ha1,h⟩ | ⟨ha1,h⟩
 ·
  obtain rfl:=soI h
  exact kR ⟨ord6,[rV 23 [(83,(vI (c.Order.length:Int))),(84,vF)]],[],[],[]⟩ [(6,⟨[1,6],[],0,[],[],[]⟩,⟨[],[],[]⟩)] ordB_ref_Check_L3 (rkE rfl neE) (fun z=>(aL eI c.Order (aB ha1 z))) (by kernel_rfl)
 obtain ⟨xa2,gxa2,h⟩:=bindE h
 rcases iteE h with ⟨ha3,h⟩ | ⟨ha3,h⟩
 ·
  obtain rfl:=soI h
  exact kR ⟨ord6,[rV 23 [(83,(vI (c.Order.length:Int))),(84,vT)],(25,⟨[],[],[(90,[(vI xa2)])],[],[],[],[],[]⟩),rV 26 [(94,vT)]],[],[],[]⟩ [(1,⟨[2],[1],0,[],[],[]⟩,⟨[],[],[]⟩)] ordB_ref_Check_L3 (rkE rfl neR) (fun z=>(aL eI c.Order (aB ha1 (aM eI gxa2 (aB ha3 z))))) (by kernel_rfl)
 rcases iteE h with ⟨ha4,h⟩ | ⟨ha4,h⟩
 ·
  obtain rfl:=soI h
  exact kR ⟨ord6,[rV 23 [(83,(vI (c.Order.length:Int))),(84,vT)],(25,⟨[],[],[(90,[(vI xa2)])],[],[],[],[],[]⟩),rV 26 [(94,vF),(99,vT)]],[],[],[]⟩ [(1,⟨[2],[1],0,[],[],[]⟩,⟨[],[],[]⟩)] ordB_ref_Check_L3 (rkE rfl neR) (fun z=>(aL eI c.Order (aB ha1 (aM eI gxa2 (aB ha3 (aB ha4 z)))))) (by kernel_rfl)
 obtain ⟨xa5,gxa5,h⟩:=bindE h
 rcases iteE h with ⟨ha6,h⟩ | ⟨ha6,h⟩
 ·
  obtain rfl:=soI h
  exact kR ⟨ord6,[rV 23 [(83,(vI (c.Order.length:Int))),(84,vT)],(25,⟨[],[],[(90,[(vI xa2)])],[],[],[],[],[]⟩),(26,⟨[],[],[(102,[.v (.bool xa5)]),(103,[.v (.bool xa5)])],[(94,vF),(99,vF),(105,vT)],[],[],[],[]⟩)],[],[],[]⟩ [(1,⟨[2],[1],0,[],[],[]⟩,⟨[],[],[]⟩)] ordB_ref_Check_L3 (rkE rfl neR) (fun z=>(aL eI c.Order (aB ha1 (aM eI gxa2 (aB ha3 (aB ha4 (aM eBool gxa5 (aN eBool gxa5 (aB ha6 z))))))))) (by kernel_rfl)
 obtain ⟨xa7,gxa7,h⟩:=bindE h
 obtain ⟨ya8,gya8,h⟩:=bindE h
 rcases iteE h with ⟨ha9,h⟩ | ⟨ha9,h⟩
 ·
  obtain rfl:=soI h
  exact kR ⟨ord6,[rV 23 [(83,(vI (c.Order.length:Int))),(84,vT)],(25,⟨[],[],[(90,[(vI xa2)])],[],[],[],[],[]⟩),(26,⟨[],[],[(102,[.v (.bool xa5)]),(103,[.v (.bool xa5)]),(108,(Event.enc xa7))],[(94,vF),(99,vF),(105,vF),(112,vT)],[(110,.v (.bool ya8))],[],[],[]⟩)],[],[],[]⟩ [(1,⟨[2],[1],0,[],[],[]⟩,⟨[],[],[]⟩)] ordB_ref_Check_L3 (rkE rfl neR) (fun z=>(aL eI c.Order (aB ha1 (aM eI gxa2 (aB ha3 (aB ha4 (aM eBool gxa5 (aN eBool gxa5 (aB ha6 (aM Event.enc gxa7 (aI (ref_Memory_sim n xa7 ya8 gya8) (aB ha9 z)))))))))))) (by kernel_rfl)
 obtain rfl:=soI h
 exact kR ⟨ord6,[rV 23 [(83,(vI (c.Order.length:Int))),(84,vT)],(25,⟨[],[],[(90,[(vI xa2)])],[],[],[],[],[]⟩),(26,⟨[],[],[(102,[.v (.bool xa5)]),(103,[.v (.bool xa5)]),(108,(Event.enc xa7))],[(94,vF),(99,vF),(105,vF),(112,vF)],[(110,.v (.bool ya8))],[],[],[]⟩),(28,⟨[],[],[(115,[.v (.bool xa5)]),(1000115,[.v (.bool xa5)])],[],[],[],[(1000115,(0,(sa.1.set (xa2).toNat true).map eBool))],[]⟩)],[],[],[]⟩ [(0,⟨[1,3,5,6,8,9],[],1,[],[],[]⟩,⟨[],[],[]⟩)] ordB_ref_Check_L3 rkN (fun z=>(aL eI c.Order (aB ha1 (aM eI gxa2 (aB ha3 (aB ha4 (aM eBool gxa5 (aN eBool gxa5 (aB ha6 (aM Event.enc gxa7 (aI (ref_Memory_sim n xa7 ya8 gya8) (aB ha9 (aM eBool gxa5 (aN eBool gxa5 (aI (set_map eBool sa.1 ((xa2).toNat) true) z))))))))))))))) (by kernel_rfl)

theorem ref_Check_sim (n:Nat) (c:Cand) (r:Int) (h:ref_Check n c=some r):PCall Tryz.prog 6 [(aAgg Cand.enc c)] (eqA ((vI r))):=by
 unfold ref_Check at h
 obtain ⟨y1,gy1,h⟩:=bindE h
 rcases iteE h with ⟨h2,h⟩ | ⟨h2,h⟩
 ·
  obtain rfl:=soI h
  exact kP ⟨ord6,[rVC 1 [(15,vT)] [(13,.v (.bool y1))]],[],[],[]⟩ ordB6 (fun z=>(aI (ref_Cells_sim n c.First y1 gy1) (aB h2 z))) (by kernel_rfl)
 rcases iteE h with ⟨h3,h⟩ | ⟨h3,h⟩
 ·
  obtain rfl:=soI h
  exact kP ⟨ord6,[rVC 1 [(15,vF),(18,(vI (c.Harts.length:Int))),(21,vT)] [(13,.v (.bool y1))]],[],[],[]⟩ ordB6 (fun z=>(aI (ref_Cells_sim n c.First y1 gy1) (aB h2 (aL (eSl Event.enc) c.Harts (aB h3 z))))) (by kernel_rfl)
 rcases iteE h with ⟨h4,h⟩ | ⟨h4,h⟩
 ·
  obtain rfl:=soI h
  exact kP ⟨ord6,[rVC 1 [(15,vF),(18,(vI (c.Harts.length:Int))),(21,vF),(24,(vI (c.Harts.length:Int))),(26,vT)] [(13,.v (.bool y1))]],[],[],[]⟩ ordB6 (fun z=>(aI (ref_Cells_sim n c.First y1 gy1) (aB h2 (aL (eSl Event.enc) c.Harts (aB h3 (aL (eSl Event.enc) c.Harts (aB h4 z))))))) (by kernel_rfl)
 obtain ⟨t5,gt5,h⟩:=bindE h
 rcases t5 with w6 | w6
 ·
  obtain ⟨y7,gy7,h⟩:=bindE h
  rcases iteE h with ⟨h8,h⟩ | ⟨h8,h⟩
  ·
   obtain rfl:=soI h
   exact kP ⟨ord6,[rVC 1 [(15,vF),(18,(vI (c.Harts.length:Int))),(21,vF),(24,(vI (c.Harts.length:Int))),(26,vF)] [(13,.v (.bool y1))],rVC 10 [] [(55,.sl (y7.map Event.enc))],rV 11 [(58,(vI (c.From.length:Int))),(60,vT)]],[],[(5,(⟨[1,3,4],[],0,[],[],[]⟩,⟨[],[],[]⟩,(.ex 0),ref_Check_L1_T0 c w6))],[]⟩ ordB6 (fun z=>(aI (ref_Cells_sim n c.First y1 gy1) (aB h2 (aL (eSl Event.enc) c.Harts (aB h3 (aL (eSl Event.enc) c.Harts (aB h4 (aI (okL (pl:=polF 6) (ref_Check_L1_S c) (ref_Check_L1_out c) (ref_Check_L1_sim n c) n _ (.inl w6) gt5) (aI (ref_flat_sim n c y7 gy7) (aL eI c.From (aB h8 z))))))))))) (by kernel_rfl)
  obtain ⟨t9,gt9,h⟩:=bindE h
  rcases t9 with w10 | w10
  ·
   obtain ⟨h11,h⟩:=grdE h
   obtain ⟨t12,gt12,h⟩:=bindE h
   rcases t12 with w13 | w13
   ·
    rcases iteE h with ⟨h14,h⟩ | ⟨h14,h⟩
    ·
     obtain rfl:=soI h
     exact kP ⟨ord6,[rVC 1 [(15,vF),(18,(vI (c.Harts.length:Int))),(21,vF),(24,(vI (c.Harts.length:Int))),(26,vF)] [(13,.v (.bool y1))],rVC 10 [] [(55,.sl (y7.map Event.enc))],rV 11 [(58,(vI (c.From.length:Int))),(60,vF)],(21,⟨[],[79],[],[],[],[],[(79,(0,(List.replicate (w6).toNat false).map eBool))],[]⟩),rV 29 [(118,(vI (c.Order.length:Int))),(120,vT)]],[],[(5,(⟨[1,3,4],[],0,[],[],[]⟩,⟨[],[],[]⟩,(.ex 0),ref_Check_L1_T0 c w6)),(15,(⟨[1,3,5,6,7],[],0,[],[],[]⟩,⟨[],[],[]⟩,(.ex 2),ref_Check_L2_T0 c w6 y7 w10)),(23,(⟨[1,3,5,6,8,9],[],1,[],[],[]⟩,⟨[],[],[]⟩,(.ex 4),ref_Check_L3_T0 c w6 y7 w10 w13))],[]⟩ ordB6 (fun z=>(aI (ref_Cells_sim n c.First y1 gy1) (aB h2 (aL (eSl Event.enc) c.Harts (aB h3 (aL (eSl Event.enc) c.Harts (aB h4 (aI (okL (pl:=polF 6) (ref_Check_L1_S c) (ref_Check_L1_out c) (ref_Check_L1_sim n c) n _ (.inl w6) gt5) (aI (ref_flat_sim n c y7 gy7) (aL eI c.From (aB h8 (aI (okL (pl:=polF 6) (ref_Check_L2_S c w6 y7) (ref_Check_L2_out c w6 y7) (ref_Check_L2_sim n c w6 y7) n _ (.inl w10) gt9) (aI h11 (aI (rep_map eBool _ false:List.replicate (w6).toNat [vF]=(List.replicate (w6).toNat false).map eBool) (aI (okL (pl:=polF 6) (ref_Check_L3_S c w6 y7 w10) (ref_Check_L3_out c w6 y7 w10) (ref_Check_L3_sim n c w6 y7 w10) n _ (.inl w13) gt12) (aL eI c.Order (aB h14 z))))))))))))))))) (by kernel_rfl)
    obtain rfl:=soI h
    exact kP ⟨ord6,[rVC 1 [(15,vF),(18,(vI (c.Harts.length:Int))),(21,vF),(24,(vI (c.Harts.length:Int))),(26,vF)] [(13,.v (.bool y1))],rVC 10 [] [(55,.sl (y7.map Event.enc))],rV 11 [(58,(vI (c.From.length:Int))),(60,vF)],(21,⟨[],[79],[],[],[],[],[(79,(0,(List.replicate (w6).toNat false).map eBool))],[]⟩),rV 29 [(118,(vI (c.Order.length:Int))),(120,vF)]],[],[(5,(⟨[1,3,4],[],0,[],[],[]⟩,⟨[],[],[]⟩,(.ex 0),ref_Check_L1_T0 c w6)),(15,(⟨[1,3,5,6,7],[],0,[],[],[]⟩,⟨[],[],[]⟩,(.ex 2),ref_Check_L2_T0 c w6 y7 w10)),(23,(⟨[1,3,5,6,8,9],[],1,[],[],[]⟩,⟨[],[],[]⟩,(.ex 4),ref_Check_L3_T0 c w6 y7 w10 w13))],[]⟩ ordB6 (fun z=>(aI (ref_Cells_sim n c.First y1 gy1) (aB h2 (aL (eSl Event.enc) c.Harts (aB h3 (aL (eSl Event.enc) c.Harts (aB h4 (aI (okL (pl:=polF 6) (ref_Check_L1_S c) (ref_Check_L1_out c) (ref_Check_L1_sim n c) n _ (.inl w6) gt5) (aI (ref_flat_sim n c y7 gy7) (aL eI c.From (aB h8 (aI (okL (pl:=polF 6) (ref_Check_L2_S c w6 y7) (ref_Check_L2_out c w6 y7) (ref_Check_L2_sim n c w6 y7) n _ (.inl w10) gt9) (aI h11 (aI (rep_map eBool _ false:List.replicate (w6).toNat [vF]=(List.replicate (w6).toNat false).map eBool) (aI (okL (pl:=polF 6) (ref_Check_L3_S c w6 y7 w10) (ref_Check_L3_out c w6 y7 w10) (ref_Check_L3_sim n c w6 y7 w10) n _ (.inl w13) gt12) (aL eI c.Order (aB h14 z))))))))))))))))) (by kernel_rfl)
   ·
    obtain rfl:=soI h
    exact kP ⟨ord6,[rVC 1 [(15,vF),(18,(vI (c.Harts.length:Int))),(21,vF),(24,(vI (c.Harts.length:Int))),(26,vF)] [(13,.v (.bool y1))],rVC 10 [] [(55,.sl (y7.map Event.enc))],rV 11 [(58,(vI (c.From.length:Int))),(60,vF)],(21,⟨[],[79],[],[],[],[],[(79,(0,(List.replicate (w6).toNat false).map eBool))],[]⟩)],[],[(5,(⟨[1,3,4],[],0,[],[],[]⟩,⟨[],[],[]⟩,(.ex 0),ref_Check_L1_T0 c w6)),(15,(⟨[1,3,5,6,7],[],0,[],[],[]⟩,⟨[],[],[]⟩,(.ex 2),ref_Check_L2_T0 c w6 y7 w10)),(23,(⟨[1,3,5,6,8,9],[],1,[],[],[]⟩,⟨[],[],[]⟩,.ret,ref_Check_L3_T1 c w6 y7 w10 w13))],[]⟩ ordB6 (fun z=>(aI (ref_Cells_sim n c.First y1 gy1) (aB h2 (aL (eSl Event.enc) c.Harts (aB h3 (aL (eSl Event.enc) c.Harts (aB h4 (aI (okL (pl:=polF 6) (ref_Check_L1_S c) (ref_Check_L1_out c) (ref_Check_L1_sim n c) n _ (.inl w6) gt5) (aI (ref_flat_sim n c y7 gy7) (aL eI c.From (aB h8 (aI (okL (pl:=polF 6) (ref_Check_L2_S c w6 y7) (ref_Check_L2_out c w6 y7) (ref_Check_L2_sim n c w6 y7) n _ (.inl w10) gt9) (aI h11 (aI (rep_map eBool _ false:List.replicate (w6).toNat [vF]=(List.replicate (w6).toNat false).map eBool) (aI (okL (pl:=polF 6) (ref_Check_L3_S c w6 y7 w10) (ref_Check_L3_out c w6 y7 w10) (ref_Check_L3_sim n c w6 y7 w10) n _ (.inr w13) gt12) z))))))))))))))) (by kernel_rfl)
  ·
   obtain rfl:=soI h
   exact kP ⟨ord6,[rVC 1 [(15,vF),(18,(vI (c.Harts.length:Int))),(21,vF),(24,(vI (c.Harts.length:Int))),(26,vF)] [(13,.v (.bool y1))],rVC 10 [] [(55,.sl (y7.map Event.enc))],rV 11 [(58,(vI (c.From.length:Int))),(60,vF)]],[],[(5,(⟨[1,3,4],[],0,[],[],[]⟩,⟨[],[],[]⟩,(.ex 0),ref_Check_L1_T0 c w6)),(15,(⟨[1,3,5,6,7],[],0,[],[],[]⟩,⟨[],[],[]⟩,.ret,ref_Check_L2_T1 c w6 y7 w10))],[]⟩ ordB6 (fun z=>(aI (ref_Cells_sim n c.First y1 gy1) (aB h2 (aL (eSl Event.enc) c.Harts (aB h3 (aL (eSl Event.enc) c.Harts (aB h4 (aI (okL (pl:=polF 6) (ref_Check_L1_S c) (ref_Check_L1_out c) (ref_Check_L1_sim n c) n _ (.inl w6) gt5) (aI (ref_flat_sim n c y7 gy7) (aL eI c.From (aB h8 (aI (okL (pl:=polF 6) (ref_Check_L2_S c w6 y7) (ref_Check_L2_out c w6 y7) (ref_Check_L2_sim n c w6 y7) n _ (.inr w10) gt9) z)))))))))))) (by kernel_rfl)
 ·
  obtain rfl:=soI h
  exact kP ⟨ord6,[rVC 1 [(15,vF),(18,(vI (c.Harts.length:Int))),(21,vF),(24,(vI (c.Harts.length:Int))),(26,vF)] [(13,.v (.bool y1))]],[],[(5,(⟨[1,3,4],[],0,[],[],[]⟩,⟨[],[],[]⟩,.ret,ref_Check_L1_T1 c w6))],[]⟩ ordB6 (fun z=>(aI (ref_Cells_sim n c.First y1 gy1) (aB h2 (aL (eSl Event.enc) c.Harts (aB h3 (aL (eSl Event.enc) c.Harts (aB h4 (aI (okL (pl:=polF 6) (ref_Check_L1_S c) (ref_Check_L1_out c) (ref_Check_L1_sim n c) n _ (.inr w6) gt5) z)))))))) (by kernel_rfl)

def ord7:List (Nat×PT):=[]
theorem ordB7:ordB (polF 7) ord7 (bodyOf Tryz.prog 7)=true:=by kernel_rfl
theorem kit_Pick_sim (n:Nat) (n_:Int) (m:Int) (r:Int) (h:kit_Pick n n_ m=some r):PCall Tryz.prog 7 [(vI n_),(vI m)] (eqA ((vI r))):=by
 unfold kit_Pick at h
 rcases iteE h with ⟨h1,h⟩ | ⟨h1,h⟩
 ·
  obtain rfl:=soI h
  exact kP ⟨ord7,[rV 1 [(7,vT)]],[],[],[]⟩ ordB7 (fun z=>(aB h1 z)) (by kernel_rfl)
 obtain ⟨h2,h⟩:=grdE h
 rcases iteE h with ⟨h3,h⟩ | ⟨h3,h⟩
 ·
  obtain rfl:=soI h
  exact kP ⟨ord7,[rV 1 [(7,vF)],(3,⟨[],[10],[],[],[],[],[],[]⟩),rV 4 [(12,vT)]],[],[],[]⟩ ordB7 (fun z=>(aB h1 (aI h2 (aB h3 z)))) (by kernel_rfl)
 obtain rfl:=soI h
 exact kP ⟨ord7,[rV 1 [(7,vF)],(3,⟨[],[10],[],[],[],[],[],[]⟩),rV 4 [(12,vF)]],[],[],[]⟩ ordB7 (fun z=>(aB h1 (aI h2 (aB h3 z)))) (by kernel_rfl)

def ord28:List (Nat×PT):=[]
theorem ordB28:ordB (polF 28) ord28 (bodyOf Tryz.prog 28)=true:=by kernel_rfl
theorem kit_Own_Cell_sim (n:Nat) (l:(List Cell)) (r:(List Cell)) (h:kit_Own_Cell n l=some r):PCall Tryz.prog 28 [.sl (l.map Cell.enc)] (eqA (.sl (r.map Cell.enc))):=by
 unfold kit_Own_Cell at h
 obtain ⟨h1,h⟩:=grdE h
 obtain rfl:=soI h
 exact kP ⟨ord28,[(1,⟨[],[5],[],[],[],[],[],[]⟩)],[],[],[]⟩ ordB28 (fun z=>(aI (szM:szOk 2 (l.map Cell.enc)=true) (aI (okM:okRows (l.map Cell.enc)=true) (aI (ble_map h1:Nat.ble ((l.map Cell.enc).length * 16) 140737488355328=true) z)))) (by kernel_rfl)

def ord29:List (Nat×PT):=[]
theorem ordB29:ordB (polF 29) ord29 (bodyOf Tryz.prog 29)=true:=by kernel_rfl
theorem kit_Own_int_sim (n:Nat) (l:(List Int)) (r:(List Int)) (h:kit_Own_int n l=some r):PCall Tryz.prog 29 [.sl (l.map eI)] (eqA (.sl (r.map eI))):=by
 unfold kit_Own_int at h
 obtain ⟨h1,h⟩:=grdE h
 obtain rfl:=soI h
 exact kP ⟨ord29,[(1,⟨[],[5],[],[],[],[],[],[]⟩)],[],[],[]⟩ ordB29 (fun z=>(aI (szM:szOk 1 (l.map eI)=true) (aI (okM:okRows (l.map eI)=true) (aI (ble_map h1:Nat.ble ((l.map eI).length * 8) 140737488355328=true) z)))) (by kernel_rfl)

def ord78:List (Nat×PT):=[(1,(ptS [0,1,2,3,4,5,6,7,8,9,10]))]
theorem ordB78:ordB (polF 78) ord78 (bodyOf Tryz.prog 78)=true:=by kernel_rfl
theorem kit_OwnDeps_sim (n:Nat) (d:Deps) (r:Deps) (h:kit_OwnDeps n d=some r):PCall Tryz.prog 78 [(aAgg Deps.enc d)] (eqA ((aAgg Deps.enc r))):=by
 unfold kit_OwnDeps at h
 obtain ⟨y1,gy1,h⟩:=bindE h
 obtain ⟨y2,gy2,h⟩:=bindE h
 obtain ⟨y3,gy3,h⟩:=bindE h
 obtain rfl:=soI h
 exact kP ⟨ord78,[rVC 1 [] [(5,.sl (y1.map eI)),(8,.sl (y2.map eI)),(11,.sl (y3.map eI))]],[],[],[]⟩ ordB78 (fun z=>(aI (kit_Own_int_sim n d.Addr y1 gy1) (aI (kit_Own_int_sim n d.Data y2 gy2) (aI (kit_Own_int_sim n d.Way y3 gy3) z)))) (by kernel_rfl)

def ord47:List (Nat×PT):=[]
theorem ordB47:ordB (polF 47) ord47 (bodyOf Tryz.prog 47)=true:=by kernel_rfl
theorem kit_OwnEvent_sim (n:Nat) (e:Event) (r:Event) (h:kit_OwnEvent n e=some r):PCall Tryz.prog 47 [(aAgg Event.enc e)] (eqA ((aAgg Event.enc r))):=by
 unfold kit_OwnEvent at h
 obtain ⟨y1,gy1,h⟩:=bindE h
 obtain rfl:=soI h
 exact kP ⟨ord47,[rVC 1 [] [(5,(aAgg Deps.enc y1))]],[],[],[]⟩ ordB47 (fun z=>(aI (kit_OwnDeps_sim n e.Deps y1 gy1) z)) (by kernel_rfl)

def ord30:List (Nat×PT):=[]
theorem ordB30:ordB (polF 30) ord30 (bodyOf Tryz.prog 30)=true:=by kernel_rfl
noncomputable def c_kit_OwnEvents_L1:Code:=sub (bodyOf Tryz.prog 30) [1,1,0,1,0,0]
theorem ordB_kit_OwnEvents_L1:ordB (polF 30) ord30 c_kit_OwnEvents_L1=true:=by kernel_rfl
def kit_OwnEvents_L1_S (l:(List Event)) (sa:(List Event)×Int):St:=mkS 20 [(0,.sl (l.map Event.enc)),(3,.mf 0),(4,(vI sa.2))] [] [.arr true 14 (sa.1.map Event.enc)] 0
def kit_OwnEvents_L1_T0 (l:(List Event)) (tt:(List Event)):St:=mkS 20 [(3,.mf 0)] [] [.arr true 14 (tt.map Event.enc)] 0
def kit_OwnEvents_L1_out (l:(List Event)) (tt:((List Event))):Ex×St:=(.ex 0,kit_OwnEvents_L1_T0 l tt)
theorem kit_OwnEvents_L1_sim (n:Nat) (l:(List Event)):∀ sa r,kit_OwnEvents_L1 n l sa=some r→CodeD Tryz.prog c_kit_OwnEvents_L1 (kit_OwnEvents_L1_S l sa) (rk (kit_OwnEvents_L1_S l) (kit_OwnEvents_L1_out l) r):=by
 intro sa r h
 unfold kit_OwnEvents_L1 at h
 rcases iteN h with ⟨ha1,h⟩ | ⟨ha1,h⟩
 ·
  obtain rfl:=soI h
  exact kR ⟨ord30,[rV 3 [(7,(vI (l.length:Int))),(8,vF)]],[],[],[]⟩ [(2,⟨[3],[],1,[],[],[]⟩,⟨[],[],[]⟩)] ordB_kit_OwnEvents_L1 (rkE rfl neE) (fun z=>(aL Event.enc l (aB ha1 z))) (by kernel_rfl)
 obtain ⟨xa2,gxa2,h⟩:=bindE h
 obtain ⟨ya3,gya3,h⟩:=bindE h
 obtain ⟨ha4,h⟩:=grdE h
 obtain rfl:=soI h
 exact kR ⟨ord30,[rV 3 [(7,(vI (l.length:Int))),(8,vT)],(5,⟨[],[18],[(14,(Event.enc xa2))],[],[(16,(aAgg Event.enc ya3))],[],[(18,(0,(sa.1++([ya3]:List Event)).map Event.enc))],[]⟩)],[],[],[]⟩ [(0,⟨[0,3,4],[],1,[],[],[]⟩,⟨[],[],[]⟩)] ordB_kit_OwnEvents_L1 rkN (fun z=>(aL Event.enc l (aB ha1 (aM Event.enc gxa2 (aI (kit_OwnEvent_sim n xa2 ya3 gya3) (aI (rfl:szOk 14 [(Event.enc ya3)]=true) (aI (rfl:okRows [(Event.enc ya3)]=true) (aI (ble_maps1 ha4:Nat.ble (((sa.1.map Event.enc).length + 1) * 152) 140737488355328=true) (aI (app_map Event.enc sa.1 ([ya3]:List Event)) z))))))))) (by kernel_rfl)

theorem kit_OwnEvents_sim (n:Nat) (l:(List Event)) (r:(List Event)) (h:kit_OwnEvents n l=some r):PCall Tryz.prog 30 [.sl (l.map Event.enc)] (eqA (.sl (r.map Event.enc))):=by
 unfold kit_OwnEvents at h
 obtain ⟨t1,gt1,h⟩:=bindE h
 obtain rfl:=soI h
 exact kP ⟨ord30,[],[],[(3,(⟨[0,3,4],[],0,[(3,14)],[],[]⟩,⟨[],[],[]⟩,(.ex 0),kit_OwnEvents_L1_T0 l t1))],[]⟩ ordB30 (fun z=>(aI (okL (pl:=polF 30) (kit_OwnEvents_L1_S l) (kit_OwnEvents_L1_out l) (kit_OwnEvents_L1_sim n l) n _ t1 gt1) z)) (by kernel_rfl)

def ord8:List (Nat×PT):=[(1,(ptS [0,1,2,3,4,5,6,7,8,9,10,11])),(5,(ptS [0,1,2,3,4,5,6,7,8,9,10,11]))]
theorem ordB8:ordB (polF 8) ord8 (bodyOf Tryz.prog 8)=true:=by kernel_rfl
noncomputable def c_kit_OwnCand_L1:Code:=sub (bodyOf Tryz.prog 8) [1,1,0,1,0,0]
theorem ordB_kit_OwnCand_L1:ordB (polF 8) ord8 c_kit_OwnCand_L1=true:=by kernel_rfl
def kit_OwnCand_L1_S (c:Cand) (y1:(List Cell)) (y2:(List Int)) (y3:(List Int)) (sa:(List (List Event))×Int):St:=mkS 34 [(1,.ptr (.L 1) 0 0),(2,.ptr (.L 2) 0 0),(3,.ptr (.L 3) 0 0),(4,(vI sa.2))] [(3,[.sl (y1.map Cell.enc),.mf 0,.sl (y2.map eI),.sl (y3.map eI)]),(2,[.nilsl,.nilsl,.nilsl,.nilsl]),(1,(Cand.enc c))] [.arr true 1 (sa.1.map (eSl Event.enc))] 0
def kit_OwnCand_L1_T0 (c:Cand) (y1:(List Cell)) (y2:(List Int)) (y3:(List Int)) (tt:(List (List Event))):St:=mkS 34 [(2,.ptr (.L 2) 0 0),(3,.ptr (.L 3) 0 0)] [(3,[.sl (y1.map Cell.enc),.mf 0,.sl (y2.map eI),.sl (y3.map eI)]),(2,[.nilsl,.nilsl,.nilsl,.nilsl])] [.arr true 1 (tt.map (eSl Event.enc))] 0
def kit_OwnCand_L1_out (c:Cand) (y1:(List Cell)) (y2:(List Int)) (y3:(List Int)) (tt:((List (List Event)))):Ex×St:=(.ex 0,kit_OwnCand_L1_T0 c y1 y2 y3 tt)
theorem kit_OwnCand_L1_sim (n:Nat) (c:Cand) (y1:(List Cell)) (y2:(List Int)) (y3:(List Int)):∀ sa r,kit_OwnCand_L1 n c y1 y2 y3 sa=some r→CodeD Tryz.prog c_kit_OwnCand_L1 (kit_OwnCand_L1_S c y1 y2 y3 sa) (rk (kit_OwnCand_L1_S c y1 y2 y3) (kit_OwnCand_L1_out c y1 y2 y3) r):=by
 intro sa r h
 unfold kit_OwnCand_L1 at h
 rcases iteN h with ⟨ha1,h⟩ | ⟨ha1,h⟩
 ·
  obtain rfl:=soI h
  exact kR ⟨ord8,[rV 3 [(18,(vI (c.Harts.length:Int))),(19,vF)]],[],[],[]⟩ [(2,⟨[2,3],[1],1,[],[],[]⟩,⟨[],[],[]⟩)] ordB_kit_OwnCand_L1 (rkE rfl neE) (fun z=>(aL (eSl Event.enc) c.Harts (aB ha1 z))) (by kernel_rfl)
 obtain ⟨xa2,gxa2,h⟩:=bindE h
 obtain ⟨ya3,gya3,h⟩:=bindE h
 obtain ⟨ha4,h⟩:=grdE h
 obtain rfl:=soI h
 exact kR ⟨ord8,[rV 3 [(18,(vI (c.Harts.length:Int))),(19,vT)],(5,⟨[],[31],[(27,[.sl (xa2.map Event.enc)])],[],[(29,.sl (ya3.map Event.enc))],[],[(31,(0,(sa.1++([ya3]:List (List Event))).map (eSl Event.enc)))],[]⟩)],[],[],[]⟩ [(0,⟨[1,2,3,4],[],1,[],[],[]⟩,⟨[],[],[]⟩)] ordB_kit_OwnCand_L1 rkN (fun z=>(aL (eSl Event.enc) c.Harts (aB ha1 (aM (eSl Event.enc) gxa2 (aI (kit_OwnEvents_sim n xa2 ya3 gya3) (aI (rfl:szOk 1 [[.sl (ya3.map Event.enc)]]=true) (aI (rfl:okRows [[.sl (ya3.map Event.enc)]]=true) (aI (ble_maps1 ha4:Nat.ble (((sa.1.map (eSl Event.enc)).length + 1) * 24) 140737488355328=true) (aI (app_map (eSl Event.enc) sa.1 ([ya3]:List (List Event))) z))))))))) (by kernel_rfl)

theorem kit_OwnCand_sim (n:Nat) (c:Cand) (r:Cand) (h:kit_OwnCand n c=some r):PCall Tryz.prog 8 [(aAgg Cand.enc c)] (eqA ((aAgg Cand.enc r))):=by
 unfold kit_OwnCand at h
 obtain ⟨y1,gy1,h⟩:=bindE h
 obtain ⟨y2,gy2,h⟩:=bindE h
 obtain ⟨y3,gy3,h⟩:=bindE h
 obtain ⟨t4,gt4,h⟩:=bindE h
 obtain rfl:=soI h
 exact kP ⟨ord8,[rVC 1 [] [(7,.sl (y1.map Cell.enc)),(10,.sl (y2.map eI)),(13,.sl (y3.map eI))]],[],[(3,(⟨[1,2,3,4],[],0,[],[(3,1,1)],[]⟩,⟨[],[],[]⟩,(.ex 0),kit_OwnCand_L1_T0 c y1 y2 y3 t4))],[]⟩ ordB8 (fun z=>(aI (kit_Own_Cell_sim n c.First y1 gy1) (aI (kit_Own_int_sim n c.From y2 gy2) (aI (kit_Own_int_sim n c.Order y3 gy3) (aI (okL (pl:=polF 8) (kit_OwnCand_L1_S c y1 y2 y3) (kit_OwnCand_L1_out c y1 y2 y3) (kit_OwnCand_L1_sim n c y1 y2 y3) n _ t4 gt4) z))))) (by kernel_rfl)

def ord9:List (Nat×PT):=[(9,(ptS [0,1,2,3,4,5,6,7,8,9,10,11,12,13,14,15,16,17,18,19]))]
theorem ordB9:ordB (polF 9) ord9 (bodyOf Tryz.prog 9)=true:=by kernel_rfl
noncomputable def c_ppo_Pairs_L1:Code:=sub (bodyOf Tryz.prog 9) [1,1,1,1,0,1,0,0]
noncomputable def c_ppo_Pairs_L2:Code:=sub c_ppo_Pairs_L1 [1,1,0,0,1,1,0,0]
theorem ordB_ppo_Pairs_L2:ordB (polF 9) ord9 c_ppo_Pairs_L2=true:=by kernel_rfl
def ppo_Pairs_L2_S (z2:ppo_view) (xa2:Event) (sb:(List (Arr2 Int))×Int×Int×Int):St:=mkS 58 [(3,.fptr (ppo_view.enc z2) 0),(4,.mf 0),(5,(vI sb.2.2.1)),(6,.ptr (.L 6) 0 0),(7,(vI sb.2.2.2)),(14,.sl (z2.all.map Event.enc)),(15,(vI (z2.all.length:Int))),(16,(vI sb.2.1))] [(6,(Event.enc xa2))] [.arr true 2 (sb.1.map (eArr2 eI))] 0
def ppo_Pairs_L2_T0 (z2:ppo_view) (xa2:Event) (tt:(List (Arr2 Int))×Int):St:=mkS 58 [(3,.fptr (ppo_view.enc z2) 0),(4,.mf 0),(14,.sl (z2.all.map Event.enc)),(15,(vI (z2.all.length:Int))),(16,(vI tt.2))] [] [.arr true 2 (tt.1.map (eArr2 eI))] 0
def ppo_Pairs_L2_out (z2:ppo_view) (xa2:Event) (tt:((List (Arr2 Int))×Int)):Ex×St:=(.ex 2,ppo_Pairs_L2_T0 z2 xa2 tt)
theorem ppo_Pairs_L2_sim (n:Nat) (z2:ppo_view) (xa2:Event):∀ sb r,ppo_Pairs_L2 n z2 xa2 sb=some r→CodeD Tryz.prog c_ppo_Pairs_L2 (ppo_Pairs_L2_S z2 xa2 sb) (rk (ppo_Pairs_L2_S z2 xa2) (ppo_Pairs_L2_out z2 xa2) r):=by
 intro sb r h
 unfold ppo_Pairs_L2 at h
 rcases iteN h with ⟨hb1,h⟩ | ⟨hb1,h⟩
 ·
  obtain rfl:=soI h
  exact kR ⟨ord9,[rV 9 [(28,(vI (z2.all.length:Int))),(30,vF)]],[],[],[]⟩ [(4,⟨[3,4,14,15,16],[6],1,[],[],[]⟩,⟨[],[],[]⟩)] ordB_ppo_Pairs_L2 (rkE rfl neE) (fun z=>(aL Event.enc z2.all (aB hb1 z))) (by kernel_rfl)
 obtain ⟨xb2,gxb2,h⟩:=bindE h
 rcases iteN h with ⟨hb3,h⟩ | ⟨hb3,h⟩
 ·
  obtain rfl:=soI h
  exact kR ⟨ord9,[(9,⟨[],[],[(36,(Event.enc xb2))],[(28,(vI (z2.all.length:Int))),(30,vT),(42,vF)],[],[],[],[]⟩)],[],[],[]⟩ [(4,⟨[3,4,14,15,16],[6],1,[],[],[]⟩,⟨[],[],[]⟩)] ordB_ppo_Pairs_L2 (rkE rfl neE) (fun z=>(aL Event.enc z2.all (aB hb1 (aM Event.enc gxb2 (aB hb3 z))))) (by kernel_rfl)
 obtain ⟨yb4,gyb4,h⟩:=bindE h
 rcases iteN h with ⟨hb5,h⟩ | ⟨hb5,h⟩
 ·
  obtain rfl:=soI h
  exact kR ⟨ord9,[(9,⟨[],[],[(36,(Event.enc xb2))],[(28,(vI (z2.all.length:Int))),(30,vT),(42,vT)],[],[],[],[]⟩),rVC 11 [(49,vF)] [(48,(vI yb4))]],[],[],[]⟩ [(0,⟨[3,4,5,6,7,14,15,16],[],1,[],[],[]⟩,⟨[],[],[]⟩)] ordB_ppo_Pairs_L2 rkN (fun z=>(aL Event.enc z2.all (aB hb1 (aM Event.enc gxb2 (aB hb3 (aI (ppo_view_rule2_sim n z2 sb.2.2.1 sb.2.2.2 yb4 gyb4) (aB hb5 z))))))) (by kernel_rfl)
 obtain ⟨hb6,h⟩:=grdE h
 obtain rfl:=soI h
 exact kR ⟨ord9,[(9,⟨[],[],[(36,(Event.enc xb2))],[(28,(vI (z2.all.length:Int))),(30,vT),(42,vT)],[],[],[],[]⟩),rVC 11 [(49,vT)] [(48,(vI yb4))],(12,⟨[],[55],[],[],[],[],[(55,(0,(sb.1++([(Arr2.mk sb.2.2.1 sb.2.2.2)]:List (Arr2 Int))).map (eArr2 eI)))],[]⟩)],[],[],[]⟩ [(0,⟨[3,4,5,6,7,14,15,16],[],1,[],[],[]⟩,⟨[],[],[]⟩)] ordB_ppo_Pairs_L2 rkN (fun z=>(aL Event.enc z2.all (aB hb1 (aM Event.enc gxb2 (aB hb3 (aI (ppo_view_rule2_sim n z2 sb.2.2.1 sb.2.2.2 yb4 gyb4) (aB hb5 (aI (rfl:szOk 2 [[(vI sb.2.2.1),(vI sb.2.2.2)]]=true) (aI (rfl:okRows [[(vI sb.2.2.1),(vI sb.2.2.2)]]=true) (aI (ble_maps1 hb6:Nat.ble (((sb.1.map (eArr2 eI)).length + 1) * 16) 140737488355328=true) (aI (app_map (eArr2 eI) sb.1 ([(Arr2.mk sb.2.2.1 sb.2.2.2)]:List (Arr2 Int))) z))))))))))) (by kernel_rfl)

theorem ordB_ppo_Pairs_L1:ordB (polF 9) ord9 c_ppo_Pairs_L1=true:=by kernel_rfl
def ppo_Pairs_L1_S (z2:ppo_view) (sa:(List (Arr2 Int))×Int):St:=mkS 58 [(3,.fptr (ppo_view.enc z2) 0),(4,.mf 0),(14,.sl (z2.all.map Event.enc)),(15,(vI (z2.all.length:Int))),(16,(vI sa.2))] [] [.arr true 2 (sa.1.map (eArr2 eI))] 0
def ppo_Pairs_L1_T0 (z2:ppo_view) (tt:(List (Arr2 Int))):St:=mkS 58 [(4,.mf 0)] [] [.arr true 2 (tt.map (eArr2 eI))] 0
def ppo_Pairs_L1_out (z2:ppo_view) (tt:((List (Arr2 Int)))):Ex×St:=(.ex 0,ppo_Pairs_L1_T0 z2 tt)
theorem ppo_Pairs_L1_sim (n:Nat) (z2:ppo_view):∀ sa r,ppo_Pairs_L1 n z2 sa=some r→CodeD Tryz.prog c_ppo_Pairs_L1 (ppo_Pairs_L1_S z2 sa) (rk (ppo_Pairs_L1_S z2) (ppo_Pairs_L1_out z2) r):=by
 intro sa r h
 unfold ppo_Pairs_L1 at h
 rcases iteN h with ⟨ha1,h⟩ | ⟨ha1,h⟩
 ·
  obtain rfl:=soI h
  exact kR ⟨ord9,[rV 6 [(17,vF)]],[],[],[]⟩ [(2,⟨[4],[],1,[],[],[]⟩,⟨[],[],[]⟩)] ordB_ppo_Pairs_L1 (rkE rfl neE) (fun z=>(aB ha1 z)) (by kernel_rfl)
 obtain ⟨xa2,gxa2,h⟩:=bindE h
 obtain ⟨ta3,gta3,h⟩:=bindE h
 obtain rfl:=soI h
 exact kR ⟨ord9,[rV 6 [(17,vT)],(7,⟨[],[],[(19,(Event.enc xa2))],[],[],[],[],[]⟩)],[],[(9,(⟨[3,4,5,6,7,14,15,16],[],1,[],[],[]⟩,⟨[],[],[]⟩,(.ex 2),ppo_Pairs_L2_T0 z2 xa2 ta3))],[]⟩ [(0,⟨[3,4,14,15,16],[],1,[],[],[]⟩,⟨[],[],[]⟩)] ordB_ppo_Pairs_L1 rkN (fun z=>(aB ha1 (aM Event.enc gxa2 (aI (okL (pl:=polF 9) (ppo_Pairs_L2_S z2 xa2) (ppo_Pairs_L2_out z2 xa2) (ppo_Pairs_L2_sim n z2 xa2) n _ ta3 gta3) z)))) (by kernel_rfl)

theorem ppo_Pairs_sim (n:Nat) (c:Cand) (r:(List (Arr2 Int))) (h:ppo_Pairs n c=some r):PCall Tryz.prog 9 [(aAgg Cand.enc c)] (eqA (.sl (r.map (eArr2 eI)))):=by
 unfold ppo_Pairs at h
 obtain ⟨y1,gy1,h⟩:=bindE h
 rcases y1 with _ | z2
 ·
  obtain rfl:=soI h
  exact kP ⟨ord9,[rVC 1 [] [(8,.nilp)]],[],[],[]⟩ ordB9 (fun z=>(aI (ppo_of_sim n c none gy1) (LeA.nil:LeA .nilsl (.sl (([]:List (Arr2 Int)).map (eArr2 eI)))))) (by kernel_rfl)
 ·
  obtain ⟨t3,gt3,h⟩:=bindE h
  obtain rfl:=soI h
  exact kP ⟨ord9,[rVC 1 [] [(8,.fptr (ppo_view.enc z2) 0)],rV 5 [(15,(vI (z2.all.length:Int)))]],[],[(6,(⟨[3,4,14,15,16],[],0,[(4,2)],[],[]⟩,⟨[],[],[]⟩,(.ex 0),ppo_Pairs_L1_T0 z2 t3))],[]⟩ ordB9 (fun z=>(aI (ppo_of_sim n c (some z2) gy1) (aL Event.enc z2.all (aI (okL (pl:=polF 9) (ppo_Pairs_L1_S z2) (ppo_Pairs_L1_out z2) (ppo_Pairs_L1_sim n z2) n _ t3 gt3) z)))) (by kernel_rfl)

def ord51:List (Nat×PT):=[]
theorem ordB51:ordB (polF 51) ord51 (bodyOf Tryz.prog 51)=true:=by kernel_rfl
theorem ref_All_sim (n:Nat) (c:Cand) (r:(List Event)) (h:ref_All n c=some r):PCall Tryz.prog 51 [(aAgg Cand.enc c)] (eqA (.sl (r.map Event.enc))):=by
 unfold ref_All at h
 obtain ⟨y1,gy1,h⟩:=bindE h
 rcases iteE h with ⟨h2,h⟩ | ⟨h2,h⟩
 ·
  obtain rfl:=soI h
  exact kP ⟨ord51,[rVC 1 [(5,vT)] [(4,(vI y1))]],[],[],[]⟩ ordB51 (fun z=>(aI (ref_Check_sim n c y1 gy1) (aB h2 (LeA.nil:LeA .nilsl (.sl (([]:List Event).map Event.enc)))))) (by kernel_rfl)
 obtain ⟨y3,gy3,h⟩:=bindE h
 obtain rfl:=soI h
 exact kP ⟨ord51,[rVC 1 [(5,vF)] [(4,(vI y1))],rVC 3 [] [(7,.sl (y3.map Event.enc))]],[],[],[]⟩ ordB51 (fun z=>(aI (ref_Check_sim n c y1 gy1) (aB h2 (aI (ref_flat_sim n c y3 gy3) z)))) (by kernel_rfl)

def ord33:List (Nat×PT):=[(1,(ptS [0,1,2,3,4,5,6,7,8]))]
theorem ordB33:ordB (polF 33) ord33 (bodyOf Tryz.prog 33)=true:=by kernel_rfl
theorem ref_Of_sim (n:Nat) (c:Cand) (r:fencepostref10_View×Bool) (h:ref_Of n c=some r):PCall Tryz.prog 33 [(aAgg Cand.enc c)] (eqA (.tup [(aAgg fencepostref10_View.enc r.1),.v (.bool r.2)])):=by
 unfold ref_Of at h
 obtain ⟨y1,gy1,h⟩:=bindE h
 obtain ⟨y2,gy2,h⟩:=bindE h
 obtain rfl:=soI h
 exact kP ⟨ord33,[rVC 1 [] [(6,.sl (y1.map Event.enc)),(9,(vI y2))]],[],[],[]⟩ ordB33 (fun z=>(aI (ref_All_sim n c y1 gy1) (aI (ref_Check_sim n c y2 gy2) z))) (by kernel_rfl)

def ord71:List (Nat×PT):=[(3,(ptS [0,1,2,3,4,5,6,7,8,9,10,11,12,13]))]
theorem ordB71:ordB (polF 71) ord71 (bodyOf Tryz.prog 71)=true:=by kernel_rfl
theorem ref_View_ahead_sim (n:Nat) (v:fencepostref10_View) (a:Int) (b:Int) (r:Bool) (h:ref_View_ahead n v a b=some r):PCall Tryz.prog 71 [(aAgg fencepostref10_View.enc v),(vI a),(vI b)] (eqA (.v (.bool r))):=by
 unfold ref_View_ahead at h
 rcases iteE h with ⟨h1,h⟩ | ⟨h1,h⟩
 ·
  obtain rfl:=soI h
  exact kP ⟨ord71,[rV 1 [(11,vT)]],[],[],[]⟩ ordB71 (fun z=>(aB h1 z)) (by kernel_rfl)
 rcases iteE h with ⟨h2,h⟩ | ⟨h2,h⟩
 ·
  obtain rfl:=soI h
  exact kP ⟨ord71,[rV 1 [(11,vF),(15,vT)]],[],[],[]⟩ ordB71 (fun z=>(aB h1 (aB h2 z))) (by kernel_rfl)
 rcases iteE h with ⟨h3,h⟩ | ⟨h3,h⟩
 ·
  obtain rfl:=soI h
  exact kP ⟨ord71,[rV 1 [(11,vF),(15,vF),(19,(vI (v.All.length:Int))),(22,vT)]],[],[],[]⟩ ordB71 (fun z=>(aB h1 (aB h2 (aL Event.enc v.All (aB h3 z))))) (by kernel_rfl)
 rcases iteE h with ⟨h4,h⟩ | ⟨h4,h⟩
 ·
  obtain rfl:=soI h
  exact kP ⟨ord71,[rV 1 [(11,vF),(15,vF),(19,(vI (v.All.length:Int))),(22,vF),(26,(vI (v.All.length:Int))),(28,vT)]],[],[],[]⟩ ordB71 (fun z=>(aB h1 (aB h2 (aL Event.enc v.All (aB h3 (aL Event.enc v.All (aB h4 z))))))) (by kernel_rfl)
 obtain ⟨x5,gx5,h⟩:=bindE h
 obtain ⟨x6,gx6,h⟩:=bindE h
 rcases iteN h with ⟨h7,h⟩ | ⟨h7,h⟩
 ·
  obtain rfl:=soI h
  exact kP ⟨ord71,[rV 1 [(11,vF),(15,vF),(19,(vI (v.All.length:Int))),(22,vF),(26,(vI (v.All.length:Int))),(28,vF)],(3,⟨[],[],[(32,(Event.enc x5)),(37,(Event.enc x6))],[],[],[],[],[]⟩),rV 4 [(44,vF)]],[],[],[]⟩ ordB71 (fun z=>(aB h1 (aB h2 (aL Event.enc v.All (aB h3 (aL Event.enc v.All (aB h4 (aM Event.enc gx5 (aM Event.enc gx6 (aB h7 z)))))))))) (by kernel_rfl)
 rcases iteN h with ⟨h8,h⟩ | ⟨h8,h⟩
 ·
  obtain rfl:=soI h
  exact kP ⟨ord71,[rV 1 [(11,vF),(15,vF),(19,(vI (v.All.length:Int))),(22,vF),(26,(vI (v.All.length:Int))),(28,vF)],(3,⟨[],[],[(32,(Event.enc x5)),(37,(Event.enc x6))],[],[],[],[],[]⟩),rV 4 [(44,vT),(51,vF)]],[],[],[]⟩ ordB71 (fun z=>(aB h1 (aB h2 (aL Event.enc v.All (aB h3 (aL Event.enc v.All (aB h4 (aM Event.enc gx5 (aM Event.enc gx6 (aB h7 (aB h8 z))))))))))) (by kernel_rfl)
 obtain ⟨y9,gy9,h⟩:=bindE h
 rcases iteN h with ⟨h10,h⟩ | ⟨h10,h⟩
 ·
  obtain rfl:=soI h
  exact kP ⟨ord71,[rV 1 [(11,vF),(15,vF),(19,(vI (v.All.length:Int))),(22,vF),(26,(vI (v.All.length:Int))),(28,vF)],(3,⟨[],[],[(32,(Event.enc x5)),(37,(Event.enc x6))],[],[],[],[],[]⟩),rVC 4 [(44,vT),(51,vT),(55,vF)] [(53,.v (.bool y9))]],[],[],[]⟩ ordB71 (fun z=>(aB h1 (aB h2 (aL Event.enc v.All (aB h3 (aL Event.enc v.All (aB h4 (aM Event.enc gx5 (aM Event.enc gx6 (aB h7 (aB h8 (aI (ref_Memory_sim n x5 y9 gy9) (aB h10 z))))))))))))) (by kernel_rfl)
 obtain ⟨y11,gy11,h⟩:=bindE h
 obtain rfl:=soI h
 exact kP ⟨ord71,[rV 1 [(11,vF),(15,vF),(19,(vI (v.All.length:Int))),(22,vF),(26,(vI (v.All.length:Int))),(28,vF)],(3,⟨[],[],[(32,(Event.enc x5)),(37,(Event.enc x6))],[],[],[],[],[]⟩),rVC 4 [(44,vT),(51,vT),(55,vT)] [(53,.v (.bool y9)),(57,.v (.bool y11))]],[],[],[]⟩ ordB71 (fun z=>(aB h1 (aB h2 (aL Event.enc v.All (aB h3 (aL Event.enc v.All (aB h4 (aM Event.enc gx5 (aM Event.enc gx6 (aB h7 (aB h8 (aI (ref_Memory_sim n x5 y9 gy9) (aB h10 (aI (ref_Memory_sim n x6 y11 gy11) z)))))))))))))) (by kernel_rfl)

def ord72:List (Nat×PT):=[]
theorem ordB72:ordB (polF 72) ord72 (bodyOf Tryz.prog 72)=true:=by kernel_rfl
theorem ref_side_sim (n:Nat) (part:Int) (e:Event) (r:Bool) (h:ref_side n part e=some r):PCall Tryz.prog 72 [(vI part),(aAgg Event.enc e)] (eqA (.v (.bool r))):=by
 unfold ref_side at h
 rcases iteN h with ⟨h1,h⟩ | ⟨h1,h⟩
 ·
  rcases iteN h with ⟨h2,h⟩ | ⟨h2,h⟩
  ·
   obtain rfl:=soI h
   exact kP ⟨ord72,[rV 1 [(9,vF),(18,vF)]],[],[],[]⟩ ordB72 (fun z=>(aB h1 (aB h2 z))) (by kernel_rfl)
  obtain ⟨y3,gy3,h⟩:=bindE h
  obtain rfl:=soI h
  exact kP ⟨ord72,[rVC 1 [(9,vF),(18,vT)] [(20,.v (.bool y3))]],[],[],[]⟩ ordB72 (fun z=>(aB h1 (aB h2 (aI (ref_Writes_sim n e y3 gy3) z)))) (by kernel_rfl)
 obtain ⟨y2,gy2,h⟩:=bindE h
 rcases iteE h with ⟨h3,h⟩ | ⟨h3,h⟩
 ·
  obtain rfl:=soI h
  exact kP ⟨ord72,[rVC 1 [(9,vT),(13,vT)] [(11,.v (.bool y2))]],[],[],[]⟩ ordB72 (fun z=>(aB h1 (aI (ref_Reads_sim n e y2 gy2) (aB h3 z)))) (by kernel_rfl)
 rcases iteN h with ⟨h4,h⟩ | ⟨h4,h⟩
 ·
  obtain rfl:=soI h
  exact kP ⟨ord72,[rVC 1 [(9,vT),(13,vF),(18,vF)] [(11,.v (.bool y2))]],[],[],[]⟩ ordB72 (fun z=>(aB h1 (aI (ref_Reads_sim n e y2 gy2) (aB h3 (aB h4 z))))) (by kernel_rfl)
 obtain ⟨y5,gy5,h⟩:=bindE h
 obtain rfl:=soI h
 exact kP ⟨ord72,[rVC 1 [(9,vT),(13,vF),(18,vT)] [(11,.v (.bool y2)),(20,.v (.bool y5))]],[],[],[]⟩ ordB72 (fun z=>(aB h1 (aI (ref_Reads_sim n e y2 gy2) (aB h3 (aB h4 (aI (ref_Writes_sim n e y5 gy5) z)))))) (by kernel_rfl)

def ord73:List (Nat×PT):=[]
theorem ordB73:ordB (polF 73) ord73 (bodyOf Tryz.prog 73)=true:=by kernel_rfl
noncomputable def c_ref_in_L1:Code:=sub (bodyOf Tryz.prog 73) [1,0,1,0,0]
theorem ordB_ref_in_L1:ordB (polF 73) ord73 c_ref_in_L1=true:=by kernel_rfl
def ref_in_L1_S (l:(List Int)) (n_:Int) (sa:Int):St:=mkS 18 [(0,.sl (l.map eI)),(1,(vI n_)),(5,(vI sa))] [] [] 0
def ref_in_L1_T0 (l:(List Int)) (n_:Int) (tt:Unit):St:=mkS 18 [] [] [] 0
def ref_in_L1_T1 (l:(List Int)) (n_:Int) (tt:Unit):St:=mkS 18 [(4,vT)] [] [] 0
def ref_in_L1_out (l:(List Int)) (n_:Int) (t0:(Unit⊕Unit)):Ex×St:=match t0 with | .inl tt=>(.ex 0,ref_in_L1_T0 l n_ tt) | .inr tt=>(.ret,ref_in_L1_T1 l n_ tt)
theorem ref_in_L1_sim (n:Nat) (l:(List Int)) (n_:Int):∀ sa r,ref_in_L1 n l n_ sa=some r→CodeD Tryz.prog c_ref_in_L1 (ref_in_L1_S l n_ sa) (rk (ref_in_L1_S l n_) (ref_in_L1_out l n_) r):=by
 intro sa r h
 unfold ref_in_L1 at h
 rcases iteN h with ⟨ha1,h⟩ | ⟨ha1,h⟩
 ·
  obtain rfl:=soI h
  exact kR ⟨ord73,[rV 2 [(8,(vI (l.length:Int))),(9,vF)]],[],[],[]⟩ [(2,⟨[],[],0,[],[],[]⟩,⟨[],[],[]⟩)] ordB_ref_in_L1 (rkE rfl neE) (fun z=>(aL eI l (aB ha1 z))) (by kernel_rfl)
 obtain ⟨xa2,gxa2,h⟩:=bindE h
 rcases iteN h with ⟨ha3,h⟩ | ⟨ha3,h⟩
 ·
  obtain rfl:=soI h
  exact kR ⟨ord73,[rV 2 [(8,(vI (l.length:Int))),(9,vT)],(4,⟨[],[],[(14,[(vI xa2)])],[(17,vF)],[],[],[],[]⟩)],[],[],[]⟩ [(0,⟨[0,1,5],[],0,[],[],[]⟩,⟨[],[],[]⟩)] ordB_ref_in_L1 rkN (fun z=>(aL eI l (aB ha1 (aM eI gxa2 (aB ha3 z))))) (by kernel_rfl)
 obtain rfl:=soI h
 exact kR ⟨ord73,[rV 2 [(8,(vI (l.length:Int))),(9,vT)],(4,⟨[],[],[(14,[(vI xa2)])],[(17,vT)],[],[],[],[]⟩)],[],[],[]⟩ [(1,⟨[4],[],0,[],[],[]⟩,⟨[],[],[]⟩)] ordB_ref_in_L1 (rkE rfl neR) (fun z=>(aL eI l (aB ha1 (aM eI gxa2 (aB ha3 z))))) (by kernel_rfl)

theorem ref_in_sim (n:Nat) (l:(List Int)) (n_:Int) (r:Bool) (h:ref_in n l n_=some r):PCall Tryz.prog 73 [.sl (l.map eI),(vI n_)] (eqA (.v (.bool r))):=by
 unfold ref_in at h
 obtain ⟨t1,gt1,h⟩:=bindE h
 rcases t1 with w2 | w2
 ·
  obtain rfl:=soI h
  exact kP ⟨ord73,[],[],[(2,(⟨[0,1,5],[],0,[],[],[]⟩,⟨[],[],[]⟩,(.ex 0),ref_in_L1_T0 l n_ w2))],[]⟩ ordB73 (fun z=>(aI (okL (pl:=polF 73) (ref_in_L1_S l n_) (ref_in_L1_out l n_) (ref_in_L1_sim n l n_) n _ (.inl w2) gt1) z)) (by kernel_rfl)
 ·
  obtain rfl:=soI h
  exact kP ⟨ord73,[],[],[(2,(⟨[0,1,5],[],0,[],[],[]⟩,⟨[],[],[]⟩,.ret,ref_in_L1_T1 l n_ w2))],[]⟩ ordB73 (fun z=>(aI (okL (pl:=polF 73) (ref_in_L1_S l n_) (ref_in_L1_out l n_) (ref_in_L1_sim n l n_) n _ (.inr w2) gt1) z)) (by kernel_rfl)

end
end Go.Proofs.YtigcbjbaibcgfaaGreat
