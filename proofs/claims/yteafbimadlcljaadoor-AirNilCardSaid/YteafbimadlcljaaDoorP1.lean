/- What the functions compute, they compute: printed by a program, path by path. No conditions. -/
import Derived.Test.YteafbimadlcljaaDoorP0
import Derived.KernelRfl
namespace Go.Proofs.YteafbimadlcljaaDoor
open Go A
set_option linter.unusedVariables false
set_option maxRecDepth 100000
set_option maxHeartbeats 0
section
variable (pc:Nat→List AV→(AV→Prop)→Prop) (sc:Nat→List AV→List Ob→(AV→List Ob→Prop)→Prop) (lp:Pol→Code→St→(Ex→St→Prop)→Prop) (cd:CutP)

def stL:List Nat:=[2,3,4,5,6,7,8,11,12,14,15,16,17,18,22,23,24,25,26,27,31,32,34,37,39,40,41,43,44,45,46,47,48,49,50,51,52,53,54,56,57,58,59,60,62,65,66,67,68,69,70,71,72,74,75,76,78,79,80,81,82,83,84,85,86,88,89,90,91,92,93,94,95,96,97,98,99,100,101,102,103,104,105,106,107,108,109,110,111,112,113,114,136]
noncomputable def cfgL:A.Cfg:={ P:=Tryd.prog,pure:=fun f=>!(hasN stL f),pol:=fun f=>{ esc:=match f with | 9=>[1,3] | 23=>[3] | 24=>[2] | 35=>[5] | 43=>[8] | 44=>[3,11] | 63=>[3,4] | 83=>[7] | 84=>[9] | 96=>[7] | 107=>[12] | _=>[],ms:=match f with | 7=>[161,167,168,169,170] | 12=>[40,63] | 14=>[28] | 15=>[17] | 18=>[11] | 27=>[8] | 37=>[46,54] | 43=>[33] | 44=>[22,82] | 49=>[16] | 68=>[26,31,39,46,54,64,69,75,79] | 70=>[5] | 78=>[37] | 79=>[13] | _=>[],bx:=match f with | 3=>[1] | 4=>[1,4] | 5=>[6,8,10] | 6=>[2,5] | 7=>[11,15,17] | 8=>[1,2] | 10=>[1] | 11=>[1] | 12=>[2,5] | 14=>[1] | 15=>[3] | 16=>[2,4] | 20=>[3] | 21=>[9] | 29=>[3] | 30=>[9] | 32=>[2,4] | 33=>[2,3] | 34=>[1,2] | 35=>[2,3] | 36=>[2,3] | 37=>[1,3,6] | 40=>[1] | 42=>[3] | 43=>[3,10] | 44=>[1,12] | 50=>[3] | 59=>[1] | 62=>[8,9] | 63=>[8] | 64=>[3] | 66=>[0] | 68=>[1] | 77=>[3,7] | 78=>[1] | 93=>[1] | 94=>[2,5] | 95=>[1] | _=>[],st:=stL } }
set_option maxRecDepth 1000000 in
set_option maxHeartbeats 0 in
theorem lives_run:A.Gives cfgL 2000 8 [] (vT)=(AV.v (.bool true)=AV.v (.bool true)):=by kernel_rfl
theorem cfgL_mix:cfgL.P.follows .mixedOrders=true:=by kernel_rfl
set_option maxRecDepth 1000000 in
theorem law_lives_sim (n:Nat) (r:Bool) (h:law_lives n=some r):PCall Tryd.prog 8 [] (eqA (.v (.bool r))):=by
  have e:=Option.some.inj h
  subst e
  exact PCall.ofN (cfg:=cfgL) (noNum_of names0) cfgL_mix (by rw [lives_run])
def ord54:List (Nat×PT):=[]
theorem ordB54:ordB (polF 54) ord54 (bodyOf Tryd.prog 54)=true:=by kernel_rfl
theorem air_Plan_is_sim (n:Nat) (r:Bool) (h:air_Plan_is n=some r):PCall Tryd.prog 54 [.nilp] (eqA (.v (.bool r))):=by
 unfold air_Plan_is at h
 obtain rfl:=soI h
 exact kP ⟨ord54,[],[],[],[]⟩ ordB54 (fun z=>z) (by kernel_rfl)

def ord16:List (Nat×PT):=[(3,(ptS [0,1,2,3,4,5,6,7,8,9,10,11]))]
theorem ordB16:ordB (polF 16) ord16 (bodyOf Tryd.prog 16)=true:=by kernel_rfl
theorem air_Plan_Done_sim (n:Nat) (r:Air×Int) (h:air_Plan_Done n=some r):PCall Tryd.prog 16 [.nilp] (eqA (.tup [(aAgg Air.enc r.1),(vI r.2)])):=by
 unfold air_Plan_Done at h
 obtain ⟨y1,gy1,h⟩:=bindE h
 rcases iteN h with ⟨h2,h⟩ | ⟨h2,h⟩
 ·
  cases h
 obtain rfl:=soI h
 exact kP ⟨ord16,[rVC 1 [(11,vT)] [(10,.v (.bool y1))]],[],[],[]⟩ ordB16 (fun z=>(aI (air_Plan_is_sim n y1 gy1) (aB h2 ((LeA.tup (LeR.cons (LeA.agg (LeR.cons (LeA.refl _) (LeR.cons LeA.nil LeR.nil))) (LeR.cons (LeA.refl _) LeR.nil))):LeA (.tup [.agg [(vI 0),.nilsl],(vI 1)]) (.tup [.agg [(vI ((Air.mk 0 ([]:List AirStep)).Regs)),.sl (((Air.mk 0 ([]:List AirStep)).Steps).map AirStep.enc)],(vI 1)]))))) (by kernel_rfl)

def ord17:List (Nat×PT):=[]
theorem ordB17:ordB (polF 17) ord17 (bodyOf Tryd.prog 17)=true:=by kernel_rfl
theorem air_Plan_Reg_sim (n:Nat) (r:Int) (h:air_Plan_Reg n=some r):PCall Tryd.prog 17 [.nilp] (eqA ((vI r))):=by
 unfold air_Plan_Reg at h
 obtain ⟨y1,gy1,h⟩:=bindE h
 rcases iteN h with ⟨h2,h⟩ | ⟨h2,h⟩
 ·
  cases h
 obtain rfl:=soI h
 exact kP ⟨ord17,[rVC 1 [(5,vT)] [(4,.v (.bool y1))]],[],[],[]⟩ ordB17 (fun z=>(aI (air_Plan_is_sim n y1 gy1) (aB h2 z))) (by kernel_rfl)

def ord18:List (Nat×PT):=[]
theorem ordB18:ordB (polF 18) ord18 (bodyOf Tryd.prog 18)=true:=by kernel_rfl
theorem air_Plan_Label_sim (n:Nat) (r:Int) (h:air_Plan_Label n=some r):PCall Tryd.prog 18 [.nilp] (eqA ((vI r))):=by
 unfold air_Plan_Label at h
 obtain ⟨y1,gy1,h⟩:=bindE h
 rcases iteN h with ⟨h2,h⟩ | ⟨h2,h⟩
 ·
  cases h
 obtain rfl:=soI h
 exact kP ⟨ord18,[rVC 1 [(5,vT)] [(4,.v (.bool y1))]],[],[],[]⟩ ordB18 (fun z=>(aI (air_Plan_is_sim n y1 gy1) (aB h2 z))) (by kernel_rfl)

def ord56:List (Nat×PT):=[]
theorem ordB56:ordB (polF 56) ord56 (bodyOf Tryd.prog 56)=true:=by kernel_rfl
theorem air_Plan_taken_sim (n:Nat) (label:Int) (r:Bool) (h:air_Plan_taken n label=some r):PCall Tryd.prog 56 [.nilp,(vI label)] (eqA (.v (.bool r))):=by
 unfold air_Plan_taken at h
 rcases iteE h with ⟨h1,h⟩ | ⟨h1,h⟩
 ·
  cases h
 obtain rfl:=soI h
 exact kP ⟨ord56,[rV 1 [(7,vF)]],[],[],[]⟩ ordB56 (fun z=>(aB h1 z)) (by kernel_rfl)

def ord19:List (Nat×PT):=[(7,(ptS [0,1,2,3,4,5,6,7,8,9,10,11]))]
theorem ordB19:ordB (polF 19) ord19 (bodyOf Tryd.prog 19)=true:=by kernel_rfl
theorem air_Plan_Put_sim (n:Nat) (label:Int) (r:Int) (h:air_Plan_Put n label=some r):PCall Tryd.prog 19 [.nilp,(vI label)] (eqA ((vI r))):=by
 unfold air_Plan_Put at h
 obtain ⟨y1,gy1,h⟩:=bindE h
 rcases iteE h with ⟨h2,h⟩ | ⟨h2,h⟩
 ·
  obtain rfl:=soI h
  exact kP ⟨ord19,[rVC 1 [(5,vT)] [(7,.v (.bool y1))]],[],[],[]⟩ ordB19 (fun z=>(aI (air_Plan_is_sim n y1 gy1) (aB h2 z))) (by kernel_rfl)
 obtain ⟨y3,gy3,h⟩:=bindE h
 rcases iteN h with ⟨h4,h⟩ | ⟨h4,h⟩
 ·
  cases h
 obtain rfl:=soI h
 exact kP ⟨ord19,[rVC 1 [(5,vF)] [(7,.v (.bool y1))],rVC 3 [(9,vT)] [(12,.v (.bool y3))]],[],[],[]⟩ ordB19 (fun z=>(aI (air_Plan_is_sim n y1 gy1) (aB h2 (aI (air_Plan_taken_sim n label y3 gy3) (aB h4 z))))) (by kernel_rfl)

def ord57:List (Nat×PT):=[]
theorem ordB57:ordB (polF 57) ord57 (bodyOf Tryd.prog 57)=true:=by kernel_rfl
theorem air_known_sim (n:Nat) (op:Int) (r:Bool) (h:air_known n op=some r):PCall Tryd.prog 57 [(vI op)] (eqA (.v (.bool r))):=by
 unfold air_known at h
 rcases iteE h with ⟨h1,h⟩ | ⟨h1,h⟩
 ·
  obtain rfl:=soI h
  exact kP ⟨ord57,[rV 1 [(5,vT)]],[],[],[]⟩ ordB57 (fun z=>(aB h1 z)) (by kernel_rfl)
 obtain rfl:=soI h
 exact kP ⟨ord57,[rV 1 [(5,vF)]],[],[],[]⟩ ordB57 (fun z=>(aB h1 z)) (by kernel_rfl)

def ord50:List (Nat×PT):=[]
theorem ordB50:ordB (polF 50) ord50 (bodyOf Tryd.prog 50)=true:=by kernel_rfl
theorem air_parts_sim (n:Nat) (op:Int) (r:Int) (h:air_parts n op=some r):PCall Tryd.prog 50 [(vI op)] (eqA ((vI r))):=by
 unfold air_parts at h
 rcases iteE h with ⟨h1,h⟩ | ⟨h1,h⟩
 ·
  obtain rfl:=soI h
  exact kP ⟨ord50,[rV 2 [(7,vT)]],[],[],[]⟩ ordB50 (fun z=>(aB h1 z)) (by kernel_rfl)
 rcases iteE h with ⟨h2,h⟩ | ⟨h2,h⟩
 ·
  obtain rfl:=soI h
  exact kP ⟨ord50,[rV 2 [(7,vF),(10,vT)]],[],[],[]⟩ ordB50 (fun z=>(aB h1 (aB h2 z))) (by kernel_rfl)
 rcases iteE h with ⟨h3,h⟩ | ⟨h3,h⟩
 ·
  obtain rfl:=soI h
  exact kP ⟨ord50,[rV 2 [(7,vF),(10,vF)],rV 4 [(11,(vI 0))]],[],[],[]⟩ ordB50 (fun z=>(aB h1 (aB h2 (aE .i64 h3 z)))) (by kernel_rfl)
 rcases iteE h with ⟨h3,h⟩ | ⟨h3,h⟩
 ·
  obtain rfl:=soI h
  exact kP ⟨ord50,[rV 2 [(7,vF),(10,vF)],rV 4 [(11,(vI 1))]],[],[],[]⟩ ordB50 (fun z=>(aB h1 (aB h2 (aE .i64 h3 z)))) (by kernel_rfl)
 rcases iteE h with ⟨h3,h⟩ | ⟨h3,h⟩
 ·
  obtain rfl:=soI h
  exact kP ⟨ord50,[rV 2 [(7,vF),(10,vF)],rV 4 [(11,(vI 2))]],[],[],[]⟩ ordB50 (fun z=>(aB h1 (aB h2 (aE .i64 h3 z)))) (by kernel_rfl)
 rcases iteE h with ⟨h3,h⟩ | ⟨h3,h⟩
 ·
  obtain rfl:=soI h
  exact kP ⟨ord50,[rV 2 [(7,vF),(10,vF)],rV 4 [(11,(vI 3))]],[],[],[]⟩ ordB50 (fun z=>(aB h1 (aB h2 (aE .i64 h3 z)))) (by kernel_rfl)
 rcases iteE h with ⟨h3,h⟩ | ⟨h3,h⟩
 ·
  obtain rfl:=soI h
  exact kP ⟨ord50,[rV 2 [(7,vF),(10,vF)],rV 4 [(11,(vI 4))]],[],[],[]⟩ ordB50 (fun z=>(aB h1 (aB h2 (aE .i64 h3 z)))) (by kernel_rfl)
 rcases iteE h with ⟨h3,h⟩ | ⟨h3,h⟩
 ·
  obtain rfl:=soI h
  exact kP ⟨ord50,[rV 2 [(7,vF),(10,vF)],rV 4 [(11,(vI 5))]],[],[],[]⟩ ordB50 (fun z=>(aB h1 (aB h2 (aE .i64 h3 z)))) (by kernel_rfl)
 rcases iteE h with ⟨h3,h⟩ | ⟨h3,h⟩
 ·
  obtain rfl:=soI h
  exact kP ⟨ord50,[rV 2 [(7,vF),(10,vF)],rV 4 [(11,(vI 6))]],[],[],[]⟩ ordB50 (fun z=>(aB h1 (aB h2 (aE .i64 h3 z)))) (by kernel_rfl)
 rcases iteE h with ⟨h3,h⟩ | ⟨h3,h⟩
 ·
  obtain rfl:=soI h
  exact kP ⟨ord50,[rV 2 [(7,vF),(10,vF)],rV 4 [(11,(vI 7))]],[],[],[]⟩ ordB50 (fun z=>(aB h1 (aB h2 (aE .i64 h3 z)))) (by kernel_rfl)
 rcases iteE h with ⟨h3,h⟩ | ⟨h3,h⟩
 ·
  obtain rfl:=soI h
  exact kP ⟨ord50,[rV 2 [(7,vF),(10,vF)],rV 4 [(11,(vI 8))]],[],[],[]⟩ ordB50 (fun z=>(aB h1 (aB h2 (aE .i64 h3 z)))) (by kernel_rfl)
 rcases iteE h with ⟨h3,h⟩ | ⟨h3,h⟩
 ·
  obtain rfl:=soI h
  exact kP ⟨ord50,[rV 2 [(7,vF),(10,vF)],rV 4 [(11,(vI 9))]],[],[],[]⟩ ordB50 (fun z=>(aB h1 (aB h2 (aE .i64 h3 z)))) (by kernel_rfl)
 rcases iteE h with ⟨h3,h⟩ | ⟨h3,h⟩
 ·
  obtain rfl:=soI h
  exact kP ⟨ord50,[rV 2 [(7,vF),(10,vF)],rV 4 [(11,(vI 10))]],[],[],[]⟩ ordB50 (fun z=>(aB h1 (aB h2 (aE .i64 h3 z)))) (by kernel_rfl)
 cases h

def ord20:List (Nat×PT):=[(5,(.go 1 (.go 2 (.go 3 (.go 4 (.go 5 (.go 6 (.alt 0 (ptS [7,8,9,10]) (.alt 7 (ptS [0,8,9,10]) (ptS []))))))))))]
theorem ordB20:ordB (polF 20) ord20 (bodyOf Tryd.prog 20)=true:=by kernel_rfl
theorem air_Plan_Step_sim (n:Nat) (s_:AirStep) (r:Int) (h:air_Plan_Step n s_=some r):PCall Tryd.prog 20 [.nilp,(aAgg AirStep.enc s_)] (eqA ((vI r))):=by
 unfold air_Plan_Step at h
 obtain ⟨y1,gy1,h⟩:=bindE h
 rcases iteE h with ⟨h2,h⟩ | ⟨h2,h⟩
 ·
  obtain rfl:=soI h
  exact kP ⟨ord20,[rVC 1 [(5,vT)] [(7,.v (.bool y1))]],[],[],[]⟩ ordB20 (fun z=>(aI (air_Plan_is_sim n y1 gy1) (aB h2 z))) (by kernel_rfl)
 obtain ⟨y3,gy3,h⟩:=bindE h
 rcases iteE h with ⟨h4,h⟩ | ⟨h4,h⟩
 ·
  obtain rfl:=soI h
  exact kP ⟨ord20,[rVC 1 [(5,vF)] [(7,.v (.bool y1))],rVC 3 [(14,vT)] [(12,.v (.bool y3))]],[],[],[]⟩ ordB20 (fun z=>(aI (air_Plan_is_sim n y1 gy1) (aB h2 (aI (air_known_sim n s_.Op y3 gy3) (aB h4 z))))) (by kernel_rfl)
 obtain ⟨y5,gy5,h⟩:=bindE h
 rcases iteN h with ⟨h6,h⟩ | ⟨h6,h⟩
 ·
  cases h
 obtain rfl:=soI h
 exact kP ⟨ord20,[rVC 1 [(5,vF)] [(7,.v (.bool y1))],rVC 3 [(9,vT),(14,vF)] [(12,.v (.bool y3)),(17,(vI y5))]],[],[],[]⟩ ordB20 (fun z=>(aI (air_Plan_is_sim n y1 gy1) (aB h2 (aI (air_known_sim n s_.Op y3 gy3) (aB h4 (aI (air_parts_sim n s_.Op y5 gy5) (aB h6 z))))))) (by kernel_rfl)

def ord21:List (Nat×PT):=[(10,(ptS [0,1,2,3,4,5,6,7,8,9,10])),(11,(.go 1 (.go 2 (.go 3 (.go 4 (.go 5 (.go 6 (.alt 0 (ptS [7,8,9,10]) (.alt 7 (ptS [0,8,9,10]) (ptS []))))))))))]
theorem ordB21:ordB (polF 21) ord21 (bodyOf Tryd.prog 21)=true:=by kernel_rfl
theorem air_Plan_Jump_sim (n:Nat) (op:Int) (reg:Int) (label:Int) (r:Int) (h:air_Plan_Jump n op reg label=some r):PCall Tryd.prog 21 [.nilp,(vI op),(vI reg),(vI label)] (eqA ((vI r))):=by
 unfold air_Plan_Jump at h
 obtain ⟨y1,gy1,h⟩:=bindE h
 rcases iteE h with ⟨h2,h⟩ | ⟨h2,h⟩
 ·
  obtain rfl:=soI h
  exact kP ⟨ord21,[rVC 1 [(10,vT)] [(12,.v (.bool y1))]],[],[],[]⟩ ordB21 (fun z=>(aI (air_Plan_is_sim n y1 gy1) (aB h2 z))) (by kernel_rfl)
 obtain ⟨y3,gy3,h⟩:=bindE h
 rcases iteE h with ⟨h4,h⟩ | ⟨h4,h⟩
 ·
  obtain rfl:=soI h
  exact kP ⟨ord21,[rVC 1 [(10,vF)] [(12,.v (.bool y1))],rVC 3 [(14,vT)] [(16,(vI y3))]],[],[],[]⟩ ordB21 (fun z=>(aI (air_Plan_is_sim n y1 gy1) (aB h2 (aI (air_parts_sim n op y3 gy3) (aB h4 z))))) (by kernel_rfl)
 obtain ⟨y5,gy5,h⟩:=bindE h
 rcases iteN h with ⟨h6,h⟩ | ⟨h6,h⟩
 ·
  obtain ⟨y7,gy7,h⟩:=bindE h
  rcases iteE h with ⟨h8,h⟩ | ⟨h8,h⟩
  ·
   cases h
  cases h
 obtain rfl:=soI h
 exact kP ⟨ord21,[rVC 1 [(10,vF)] [(12,.v (.bool y1))],rVC 3 [(14,vF)] [(16,(vI y3))],rVC 5 [(19,vT)] [(22,.v (.bool y5))]],[],[],[]⟩ ordB21 (fun z=>(aI (air_Plan_is_sim n y1 gy1) (aB h2 (aI (air_parts_sim n op y3 gy3) (aB h4 (aI (air_Plan_taken_sim n label y5 gy5) (aB h6 z))))))) (by kernel_rfl)

def ord22:List (Nat×PT):=[]
theorem ordB22:ordB (polF 22) ord22 (bodyOf Tryd.prog 22)=true:=by kernel_rfl
theorem air_Plan_Len_sim (n:Nat) (r:Int) (h:air_Plan_Len n=some r):PCall Tryd.prog 22 [.nilp] (eqA ((vI r))):=by
 unfold air_Plan_Len at h
 obtain ⟨y1,gy1,h⟩:=bindE h
 rcases iteN h with ⟨h2,h⟩ | ⟨h2,h⟩
 ·
  cases h
 obtain rfl:=soI h
 exact kP ⟨ord22,[rVC 1 [(5,vT)] [(4,.v (.bool y1))]],[],[],[]⟩ ordB22 (fun z=>(aI (air_Plan_is_sim n y1 gy1) (aB h2 z))) (by kernel_rfl)

def ord4:List (Nat×PT):=[]
theorem ordB4:ordB (polF 4) ord4 (bodyOf Tryd.prog 4)=true:=by kernel_rfl
theorem law_AirNil_sim (n:Nat) (a:fencepostlaw21_Act) (r:Bool) (h:law_AirNil n a=some r):PCall Tryd.prog 4 [(aAgg fencepostlaw21_Act.enc a)] (eqA (.v (.bool r))):=by
 unfold law_AirNil at h
 obtain ⟨y1,gy1,h⟩:=bindE h
 rcases iteE h with ⟨h2,h⟩ | ⟨h2,h⟩
 ·
  obtain rfl:=soI h
  exact kP ⟨ord4,[rVC 1 [(7,vT)] [(6,.v (.bool y1))]],[],[],[]⟩ ordB4 (fun z=>(aI (law_lives_sim n y1 gy1) (aB h2 z))) (by kernel_rfl)
 obtain ⟨y3,gy3,h⟩:=bindE h
 obtain ⟨y4,gy4,h⟩:=bindE h
 rcases iteN h with ⟨h5,h⟩ | ⟨h5,h⟩
 ·
  obtain rfl:=soI h
  exact kP ⟨ord4,[rVC 1 [(7,vF)] [(6,.v (.bool y1))],rVC 4 [] [(10,.tup [(aAgg Air.enc y3.1),(vI y3.2)])],rVC 5 [(16,vF)] [(14,(vI y4))]],[],[],[]⟩ ordB4 (fun z=>(aI (law_lives_sim n y1 gy1) (aB h2 (aI (air_Plan_Done_sim n y3 gy3) (aI (air_Plan_Reg_sim n y4 gy4) (aB h5 z)))))) (by kernel_rfl)
 obtain ⟨y6,gy6,h⟩:=bindE h
 rcases iteN h with ⟨h7,h⟩ | ⟨h7,h⟩
 ·
  obtain rfl:=soI h
  exact kP ⟨ord4,[rVC 1 [(7,vF)] [(6,.v (.bool y1))],rVC 4 [] [(10,.tup [(aAgg Air.enc y3.1),(vI y3.2)])],rVC 5 [(16,vT),(21,vF)] [(14,(vI y4)),(18,(vI y6))]],[],[],[]⟩ ordB4 (fun z=>(aI (law_lives_sim n y1 gy1) (aB h2 (aI (air_Plan_Done_sim n y3 gy3) (aI (air_Plan_Reg_sim n y4 gy4) (aB h5 (aI (air_Plan_Label_sim n y6 gy6) (aB h7 z)))))))) (by kernel_rfl)
 obtain ⟨y8,gy8,h⟩:=bindE h
 rcases iteN h with ⟨h9,h⟩ | ⟨h9,h⟩
 ·
  obtain rfl:=soI h
  exact kP ⟨ord4,[rVC 1 [(7,vF)] [(6,.v (.bool y1))],rVC 4 [] [(10,.tup [(aAgg Air.enc y3.1),(vI y3.2)])],rVC 5 [(16,vT),(21,vT),(28,vF)] [(14,(vI y4)),(18,(vI y6)),(25,(vI y8))]],[],[],[]⟩ ordB4 (fun z=>(aI (law_lives_sim n y1 gy1) (aB h2 (aI (air_Plan_Done_sim n y3 gy3) (aI (air_Plan_Reg_sim n y4 gy4) (aB h5 (aI (air_Plan_Label_sim n y6 gy6) (aB h7 (aI (air_Plan_Put_sim n a.N y8 gy8) (aB h9 z)))))))))) (by kernel_rfl)
 obtain ⟨y10,gy10,h⟩:=bindE h
 rcases iteN h with ⟨h11,h⟩ | ⟨h11,h⟩
 ·
  obtain rfl:=soI h
  exact kP ⟨ord4,[rVC 1 [(7,vF)] [(6,.v (.bool y1))],rVC 4 [] [(10,.tup [(aAgg Air.enc y3.1),(vI y3.2)])],rVC 5 [(16,vT),(21,vT),(28,vT),(35,vF)] [(14,(vI y4)),(18,(vI y6)),(25,(vI y8)),(32,(vI y10))]],[],[],[]⟩ ordB4 (fun z=>(aI (law_lives_sim n y1 gy1) (aB h2 (aI (air_Plan_Done_sim n y3 gy3) (aI (air_Plan_Reg_sim n y4 gy4) (aB h5 (aI (air_Plan_Label_sim n y6 gy6) (aB h7 (aI (air_Plan_Put_sim n a.N y8 gy8) (aB h9 (aI (air_Plan_Step_sim n a.S y10 gy10) (aB h11 z)))))))))))) (by kernel_rfl)
 obtain ⟨y12,gy12,h⟩:=bindE h
 rcases iteN h with ⟨h13,h⟩ | ⟨h13,h⟩
 ·
  obtain rfl:=soI h
  exact kP ⟨ord4,[rVC 1 [(7,vF)] [(6,.v (.bool y1))],rVC 4 [] [(10,.tup [(aAgg Air.enc y3.1),(vI y3.2)])],rVC 5 [(16,vT),(21,vT),(28,vT),(35,vT),(48,vF)] [(14,(vI y4)),(18,(vI y6)),(25,(vI y8)),(32,(vI y10)),(45,(vI y12))]],[],[],[]⟩ ordB4 (fun z=>(aI (law_lives_sim n y1 gy1) (aB h2 (aI (air_Plan_Done_sim n y3 gy3) (aI (air_Plan_Reg_sim n y4 gy4) (aB h5 (aI (air_Plan_Label_sim n y6 gy6) (aB h7 (aI (air_Plan_Put_sim n a.N y8 gy8) (aB h9 (aI (air_Plan_Step_sim n a.S y10 gy10) (aB h11 (aI (air_Plan_Jump_sim n a.S.Op a.S.B a.N y12 gy12) (aB h13 z)))))))))))))) (by kernel_rfl)
 rcases iteN h with ⟨h14,h⟩ | ⟨h14,h⟩
 ·
  obtain rfl:=soI h
  exact kP ⟨ord4,[rVC 1 [(7,vF)] [(6,.v (.bool y1))],rVC 4 [] [(10,.tup [(aAgg Air.enc y3.1),(vI y3.2)])],rVC 5 [(16,vT),(21,vT),(28,vT),(35,vT),(48,vT),(52,vF)] [(14,(vI y4)),(18,(vI y6)),(25,(vI y8)),(32,(vI y10)),(45,(vI y12))]],[],[],[]⟩ ordB4 (fun z=>(aI (law_lives_sim n y1 gy1) (aB h2 (aI (air_Plan_Done_sim n y3 gy3) (aI (air_Plan_Reg_sim n y4 gy4) (aB h5 (aI (air_Plan_Label_sim n y6 gy6) (aB h7 (aI (air_Plan_Put_sim n a.N y8 gy8) (aB h9 (aI (air_Plan_Step_sim n a.S y10 gy10) (aB h11 (aI (air_Plan_Jump_sim n a.S.Op a.S.B a.N y12 gy12) (aB h13 (aB h14 z))))))))))))))) (by kernel_rfl)
 obtain ⟨y15,gy15,h⟩:=bindE h
 obtain rfl:=soI h
 exact kP ⟨ord4,[rVC 1 [(7,vF)] [(6,.v (.bool y1))],rVC 4 [] [(10,.tup [(aAgg Air.enc y3.1),(vI y3.2)])],rVC 5 [(16,vT),(21,vT),(28,vT),(35,vT),(48,vT),(52,vT)] [(14,(vI y4)),(18,(vI y6)),(25,(vI y8)),(32,(vI y10)),(45,(vI y12)),(54,(vI y15))]],[],[],[]⟩ ordB4 (fun z=>(aI (law_lives_sim n y1 gy1) (aB h2 (aI (air_Plan_Done_sim n y3 gy3) (aI (air_Plan_Reg_sim n y4 gy4) (aB h5 (aI (air_Plan_Label_sim n y6 gy6) (aB h7 (aI (air_Plan_Put_sim n a.N y8 gy8) (aB h9 (aI (air_Plan_Step_sim n a.S y10 gy10) (aB h11 (aI (air_Plan_Jump_sim n a.S.Op a.S.B a.N y12 gy12) (aB h13 (aB h14 (aI (air_Plan_Len_sim n y15 gy15) z)))))))))))))))) (by kernel_rfl)

end
end Go.Proofs.YteafbimadlcljaaDoor
