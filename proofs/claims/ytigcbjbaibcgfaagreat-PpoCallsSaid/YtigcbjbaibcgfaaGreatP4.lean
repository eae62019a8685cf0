/- What the functions compute, they compute: printed by a program, path by path. No conditions. -/
import Derived.Test.YtigcbjbaibcgfaaGreatP3
import Derived.KernelRfl
namespace Go.Proofs.YtigcbjbaibcgfaaGreat
open Go A
set_option linter.unusedVariables false
set_option maxRecDepth 100000
set_option maxHeartbeats 0
section
variable (pc:Nat→List AV→(AV→Prop)→Prop) (sc:Nat→List AV→List Ob→(AV→List Ob→Prop)→Prop) (lp:Pol→Code→St→(Ex→St→Prop)→Prop) (cd:CutP)

def ord37:List (Nat×PT):=[(3,(ptS [0,1,2,3,4,5,6,7,8,9,10,11,12,13])),(11,(ptS [0,1,2,3,4,5,6,7,8,9,10,11,12,13,14,15,16])),(13,(ptS [0,1,2,3,4,5,6,7,8,9,10,11,12,13,14,15,16,17,18,19,20,21,22,23,24,25,26,27,28]))]
theorem ordB37:ordB (polF 37) ord37 (bodyOf Tryz.prog 37)=true:=by kernel_rfl
noncomputable def c_ref_View_Holds_L1:Code:=sub (bodyOf Tryz.prog 37) [1,1,1,0,1,0,1,1,1,0,0,1,0,0]
noncomputable def c_ref_View_Holds_L2:Code:=sub (bodyOf Tryz.prog 37) [1,1,1,0,1,0,1,1,1,1,1,1,1,0,1,0,0]
noncomputable def c_ref_View_Holds_L3:Code:=sub (bodyOf Tryz.prog 37) [1,1,1,0,1,0,1,1,1,1,1,1,1,1,1,1,1,1,1,1,1,1,1,1,1,1,1,1,1,0,1,0,0]
noncomputable def c_ref_View_Holds_L4:Code:=sub (bodyOf Tryz.prog 37) [1,1,1,0,1,0,1,1,1,1,1,1,1,1,1,1,1,1,1,1,1,1,1,1,1,1,1,1,1,1,1,0,1,0,0]
theorem ordB_ref_View_Holds_L1:ordB (polF 37) ord37 c_ref_View_Holds_L1=true:=by kernel_rfl
def ref_View_Holds_L1_S (v:fencepostref10_View) (a:Int) (b:Int) (x3:Event) (x4:Event) (sa:Int):St:=mkS 290 [(1,(vI a)),(2,(vI b)),(4,.ptr (.L 4) 0 0),(9,.ptr (.L 9) 0 0),(10,.ptr (.L 10) 0 0),(11,(vI sa))] [(10,(Event.enc x4)),(9,(Event.enc x3)),(4,(fencepostref10_View.enc v))] [] 0
def ref_View_Holds_L1_T0 (v:fencepostref10_View) (a:Int) (b:Int) (x3:Event) (x4:Event) (tt:Unit):St:=mkS 290 [(1,(vI a)),(2,(vI b)),(4,.ptr (.L 4) 0 0),(9,.ptr (.L 9) 0 0),(10,.ptr (.L 10) 0 0)] [(10,(Event.enc x4)),(9,(Event.enc x3)),(4,(fencepostref10_View.enc v))] [] 0
def ref_View_Holds_L1_T1 (v:fencepostref10_View) (a:Int) (b:Int) (x3:Event) (x4:Event) (tt:Unit):St:=mkS 290 [(8,vF)] [] [] 0
def ref_View_Holds_L1_out (v:fencepostref10_View) (a:Int) (b:Int) (x3:Event) (x4:Event) (t0:(Unit⊕Unit)):Ex×St:=match t0 with | .inl tt=>(.ex 1,ref_View_Holds_L1_T0 v a b x3 x4 tt) | .inr tt=>(.ret,ref_View_Holds_L1_T1 v a b x3 x4 tt)
theorem ref_View_Holds_L1_sim (n:Nat) (v:fencepostref10_View) (a:Int) (b:Int) (x3:Event) (x4:Event):∀ sa r,ref_View_Holds_L1 n v a b x3 x4 sa=some r→CodeD Tryz.prog c_ref_View_Holds_L1 (ref_View_Holds_L1_S v a b x3 x4 sa) (rk (ref_View_Holds_L1_S v a b x3 x4) (ref_View_Holds_L1_out v a b x3 x4) r):=by
 intro sa r h
 unfold ref_View_Holds_L1 at h
 rcases iteN h with ⟨ha1,h⟩ | ⟨ha1,h⟩
 ·
  obtain rfl:=soI h
  exact kR ⟨ord37,[rV 9 [(51,vF)]],[],[],[]⟩ [(3,⟨[1,2,4,9,10],[],0,[],[],[]⟩,⟨[],[],[]⟩)] ordB_ref_View_Holds_L1 (rkE rfl neE) (fun z=>(aB ha1 z)) (by kernel_rfl)
 obtain ⟨xa2,gxa2,h⟩:=bindE h
 obtain ⟨ya3,gya3,h⟩:=bindE h
 rcases iteN h with ⟨ha4,h⟩ | ⟨ha4,h⟩
 ·
  obtain rfl:=soI h
  exact kR ⟨ord37,[rV 9 [(51,vT)],(11,⟨[],[],[(57,(Event.enc xa2))],[(60,vF)],[(59,.v (.bool ya3))],[],[],[]⟩)],[],[],[]⟩ [(0,⟨[1,2,4,9,10,11],[],0,[],[],[]⟩,⟨[],[],[]⟩)] ordB_ref_View_Holds_L1 rkN (fun z=>(aB ha1 (aM Event.enc gxa2 (aI (ref_Writes_sim n xa2 ya3 gya3) (aB ha4 z))))) (by kernel_rfl)
 rcases iteE h with ⟨ha5,h⟩ | ⟨ha5,h⟩
 ·
  obtain rfl:=soI h
  exact kR ⟨ord37,[rV 9 [(51,vT)],(11,⟨[],[],[(57,(Event.enc xa2)),(64,(Event.enc xa2))],[(60,vT),(70,vT)],[(59,.v (.bool ya3))],[],[],[]⟩)],[],[],[]⟩ [(1,⟨[8],[10,9,4],0,[],[],[]⟩,⟨[],[],[]⟩)] ordB_ref_View_Holds_L1 (rkE rfl neR) (fun z=>(aB ha1 (aM Event.enc gxa2 (aI (ref_Writes_sim n xa2 ya3 gya3) (aB ha4 (aM Event.enc gxa2 (aB ha5 z))))))) (by kernel_rfl)
 obtain rfl:=soI h
 exact kR ⟨ord37,[rV 9 [(51,vT)],(11,⟨[],[],[(57,(Event.enc xa2)),(64,(Event.enc xa2))],[(60,vT),(70,vF)],[(59,.v (.bool ya3))],[],[],[]⟩)],[],[],[]⟩ [(0,⟨[1,2,4,9,10,11],[],0,[],[],[]⟩,⟨[],[],[]⟩)] ordB_ref_View_Holds_L1 rkN (fun z=>(aB ha1 (aM Event.enc gxa2 (aI (ref_Writes_sim n xa2 ya3 gya3) (aB ha4 (aM Event.enc gxa2 (aB ha5 z))))))) (by kernel_rfl)

theorem ordB_ref_View_Holds_L2:ordB (polF 37) ord37 c_ref_View_Holds_L2=true:=by kernel_rfl
def ref_View_Holds_L2_S (v:fencepostref10_View) (b:Int) (x3:Event) (x4:Event) (sa:Int):St:=mkS 290 [(2,(vI b)),(4,.ptr (.L 4) 0 0),(9,.ptr (.L 9) 0 0),(10,.ptr (.L 10) 0 0),(12,(vI sa))] [(10,(Event.enc x4)),(9,(Event.enc x3)),(4,(fencepostref10_View.enc v))] [] 0
def ref_View_Holds_L2_T0 (v:fencepostref10_View) (b:Int) (x3:Event) (x4:Event) (tt:Unit):St:=mkS 290 [] [] [] 0
def ref_View_Holds_L2_T1 (v:fencepostref10_View) (b:Int) (x3:Event) (x4:Event) (tt:Unit):St:=mkS 290 [(8,vT)] [] [] 0
def ref_View_Holds_L2_out (v:fencepostref10_View) (b:Int) (x3:Event) (x4:Event) (t0:(Unit⊕Unit)):Ex×St:=match t0 with | .inl tt=>(.ex 3,ref_View_Holds_L2_T0 v b x3 x4 tt) | .inr tt=>(.ret,ref_View_Holds_L2_T1 v b x3 x4 tt)
theorem ref_View_Holds_L2_sim (n:Nat) (v:fencepostref10_View) (b:Int) (x3:Event) (x4:Event):∀ sa r,ref_View_Holds_L2 n v b x3 x4 sa=some r→CodeD Tryz.prog c_ref_View_Holds_L2 (ref_View_Holds_L2_S v b x3 x4 sa) (rk (ref_View_Holds_L2_S v b x3 x4) (ref_View_Holds_L2_out v b x3 x4) r):=by
 intro sa r h
 unfold ref_View_Holds_L2 at h
 rcases iteN h with ⟨ha1,h⟩ | ⟨ha1,h⟩
 ·
  obtain rfl:=soI h
  exact kR ⟨ord37,[rV 18 [(129,vF)]],[],[],[]⟩ [(5,⟨[],[10,9,4],0,[],[],[]⟩,⟨[],[],[]⟩)] ordB_ref_View_Holds_L2 (rkE rfl neE) (fun z=>(aB ha1 z)) (by kernel_rfl)
 obtain ⟨xa2,gxa2,h⟩:=bindE h
 rcases iteN h with ⟨ha3,h⟩ | ⟨ha3,h⟩
 ·
  obtain rfl:=soI h
  exact kR ⟨ord37,[rV 18 [(129,vT)],(20,⟨[],[],[(135,(Event.enc xa2))],[],[],[],[],[]⟩),rV 21 [(140,vF)]],[],[],[]⟩ [(0,⟨[2,4,9,10,12],[13],0,[],[],[]⟩,⟨[],[],[]⟩)] ordB_ref_View_Holds_L2 rkN (fun z=>(aB ha1 (aM Event.enc gxa2 (aB ha3 z)))) (by kernel_rfl)
 obtain ⟨ya4,gya4,h⟩:=bindE h
 rcases iteN h with ⟨ha5,h⟩ | ⟨ha5,h⟩
 ·
  obtain rfl:=soI h
  exact kR ⟨ord37,[rV 18 [(129,vT)],(20,⟨[],[],[(135,(Event.enc xa2))],[],[],[],[],[]⟩),rVC 21 [(140,vT),(146,vF)] [(144,.v (.bool ya4))]],[],[],[]⟩ [(0,⟨[2,4,9,10,12],[13],0,[],[],[]⟩,⟨[],[],[]⟩)] ordB_ref_View_Holds_L2 rkN (fun z=>(aB ha1 (aM Event.enc gxa2 (aB ha3 (aI (ref_side_sim n xa2.Pred x3 ya4 gya4) (aB ha5 z)))))) (by kernel_rfl)
 obtain ⟨ya6,gya6,h⟩:=bindE h
 rcases iteN h with ⟨ha7,h⟩ | ⟨ha7,h⟩
 ·
  obtain rfl:=soI h
  exact kR ⟨ord37,[rV 18 [(129,vT)],(20,⟨[],[],[(135,(Event.enc xa2))],[],[],[],[],[]⟩),rVC 21 [(140,vT),(146,vT),(151,vF)] [(144,.v (.bool ya4)),(150,.v (.bool ya6))]],[],[],[]⟩ [(0,⟨[2,4,9,10,12],[13],0,[],[],[]⟩,⟨[],[],[]⟩)] ordB_ref_View_Holds_L2 rkN (fun z=>(aB ha1 (aM Event.enc gxa2 (aB ha3 (aI (ref_side_sim n xa2.Pred x3 ya4 gya4) (aB ha5 (aI (ref_side_sim n xa2.Succ x4 ya6 gya6) (aB ha7 z)))))))) (by kernel_rfl)
 obtain rfl:=soI h
 exact kR ⟨ord37,[rV 18 [(129,vT)],(20,⟨[],[],[(135,(Event.enc xa2))],[],[],[],[],[]⟩),rVC 21 [(140,vT),(146,vT),(151,vT)] [(144,.v (.bool ya4)),(150,.v (.bool ya6))]],[],[],[]⟩ [(1,⟨[8],[13,10,9,4],0,[],[],[]⟩,⟨[],[],[]⟩)] ordB_ref_View_Holds_L2 (rkE rfl neR) (fun z=>(aB ha1 (aM Event.enc gxa2 (aB ha3 (aI (ref_side_sim n xa2.Pred x3 ya4 gya4) (aB ha5 (aI (ref_side_sim n xa2.Succ x4 ya6 gya6) (aB ha7 z)))))))) (by kernel_rfl)

theorem ordB_ref_View_Holds_L3:ordB (polF 37) ord37 c_ref_View_Holds_L3=true:=by kernel_rfl
def ref_View_Holds_L3_S (v:fencepostref10_View) (b:Int) (x3:Event) (x4:Event) (sa:Int):St:=mkS 290 [(2,(vI b)),(4,.ptr (.L 4) 0 0),(9,.ptr (.L 9) 0 0),(10,.ptr (.L 10) 0 0),(14,(vI sa))] [(10,(Event.enc x4)),(9,(Event.enc x3)),(4,(fencepostref10_View.enc v))] [] 0
def ref_View_Holds_L3_T0 (v:fencepostref10_View) (b:Int) (x3:Event) (x4:Event) (tt:Unit):St:=mkS 290 [] [] [] 0
def ref_View_Holds_L3_T1 (v:fencepostref10_View) (b:Int) (x3:Event) (x4:Event) (tt:Unit):St:=mkS 290 [(8,vT)] [] [] 0
def ref_View_Holds_L3_out (v:fencepostref10_View) (b:Int) (x3:Event) (x4:Event) (t0:(Unit⊕Unit)):Ex×St:=match t0 with | .inl tt=>(.ex 5,ref_View_Holds_L3_T0 v b x3 x4 tt) | .inr tt=>(.ret,ref_View_Holds_L3_T1 v b x3 x4 tt)
theorem ref_View_Holds_L3_sim (n:Nat) (v:fencepostref10_View) (b:Int) (x3:Event) (x4:Event):∀ sa r,ref_View_Holds_L3 n v b x3 x4 sa=some r→CodeD Tryz.prog c_ref_View_Holds_L3 (ref_View_Holds_L3_S v b x3 x4 sa) (rk (ref_View_Holds_L3_S v b x3 x4) (ref_View_Holds_L3_out v b x3 x4) r):=by
 intro sa r h
 unfold ref_View_Holds_L3 at h
 rcases iteN h with ⟨ha1,h⟩ | ⟨ha1,h⟩
 ·
  obtain rfl:=soI h
  exact kR ⟨ord37,[rV 39 [(222,vF)]],[],[],[]⟩ [(7,⟨[],[10,9,4],0,[],[],[]⟩,⟨[],[],[]⟩)] ordB_ref_View_Holds_L3 (rkE rfl neE) (fun z=>(aB ha1 z)) (by kernel_rfl)
 obtain ⟨xa2,gxa2,h⟩:=bindE h
 obtain ⟨ya3,gya3,h⟩:=bindE h
 rcases iteN h with ⟨ha4,h⟩ | ⟨ha4,h⟩
 ·
  obtain rfl:=soI h
  exact kR ⟨ord37,[rV 39 [(222,vT)],(41,⟨[],[],[(228,(Event.enc xa2))],[],[],[],[],[]⟩),rVC 42 [(232,vF)] [(231,.v (.bool ya3))]],[],[],[]⟩ [(0,⟨[2,4,9,10,14],[15],0,[],[],[]⟩,⟨[],[],[]⟩)] ordB_ref_View_Holds_L3 rkN (fun z=>(aB ha1 (aM Event.enc gxa2 (aI (ref_Reads_sim n x4 ya3 gya3) (aB ha4 z))))) (by kernel_rfl)
 obtain ⟨xa5,gxa5,h⟩:=bindE h
 rcases iteN h with ⟨ha6,h⟩ | ⟨ha6,h⟩
 ·
  obtain rfl:=soI h
  exact kR ⟨ord37,[rV 39 [(222,vT)],(41,⟨[],[],[(228,(Event.enc xa2))],[],[],[],[],[]⟩),(42,⟨[],[],[(237,[(vI xa5)])],[(232,vT),(242,vF)],[(231,.v (.bool ya3))],[],[],[]⟩)],[],[],[]⟩ [(0,⟨[2,4,9,10,14],[15],0,[],[],[]⟩,⟨[],[],[]⟩)] ordB_ref_View_Holds_L3 rkN (fun z=>(aB ha1 (aM Event.enc gxa2 (aI (ref_Reads_sim n x4 ya3 gya3) (aB ha4 (aM eI gxa5 (aB ha6 z))))))) (by kernel_rfl)
 obtain ⟨ya7,gya7,h⟩:=bindE h
 rcases iteN h with ⟨ha8,h⟩ | ⟨ha8,h⟩
 ·
  obtain rfl:=soI h
  exact kR ⟨ord37,[rV 39 [(222,vT)],(41,⟨[],[],[(228,(Event.enc xa2))],[],[],[],[],[]⟩),(42,⟨[],[],[(237,[(vI xa5)])],[(232,vT),(242,vT),(246,vF)],[(231,.v (.bool ya3)),(244,.v (.bool ya7))],[],[],[]⟩)],[],[],[]⟩ [(0,⟨[2,4,9,10,14],[15],0,[],[],[]⟩,⟨[],[],[]⟩)] ordB_ref_View_Holds_L3 rkN (fun z=>(aB ha1 (aM Event.enc gxa2 (aI (ref_Reads_sim n x4 ya3 gya3) (aB ha4 (aM eI gxa5 (aB ha6 (aI (ref_Writes_sim n xa2 ya7 gya7) (aB ha8 z))))))))) (by kernel_rfl)
 obtain ⟨ya9,gya9,h⟩:=bindE h
 rcases iteE h with ⟨ha10,h⟩ | ⟨ha10,h⟩
 ·
  obtain rfl:=soI h
  exact kR ⟨ord37,[rV 39 [(222,vT)],(41,⟨[],[],[(228,(Event.enc xa2))],[],[],[],[],[]⟩),(42,⟨[],[],[(237,[(vI xa5)])],[(232,vT),(242,vT),(246,vT),(253,vT)],[(231,.v (.bool ya3)),(244,.v (.bool ya7)),(252,.v (.bool ya9))],[],[],[]⟩)],[],[],[]⟩ [(1,⟨[8],[15,10,9,4],0,[],[],[]⟩,⟨[],[],[]⟩)] ordB_ref_View_Holds_L3 (rkE rfl neR) (fun z=>(aB ha1 (aM Event.enc gxa2 (aI (ref_Reads_sim n x4 ya3 gya3) (aB ha4 (aM eI gxa5 (aB ha6 (aI (ref_Writes_sim n xa2 ya7 gya7) (aB ha8 (aI (ref_in_sim n xa2.Deps.Addr x3.At ya9 gya9) (aB ha10 z))))))))))) (by kernel_rfl)
 obtain ⟨ya11,gya11,h⟩:=bindE h
 rcases iteN h with ⟨ha12,h⟩ | ⟨ha12,h⟩
 ·
  obtain rfl:=soI h
  exact kR ⟨ord37,[rV 39 [(222,vT)],(41,⟨[],[],[(228,(Event.enc xa2))],[],[],[],[],[]⟩),(42,⟨[],[],[(237,[(vI xa5)])],[(232,vT),(242,vT),(246,vT),(253,vF),(261,vF)],[(231,.v (.bool ya3)),(244,.v (.bool ya7)),(252,.v (.bool ya9)),(259,.v (.bool ya11))],[],[],[]⟩)],[],[],[]⟩ [(0,⟨[2,4,9,10,14],[15],0,[],[],[]⟩,⟨[],[],[]⟩)] ordB_ref_View_Holds_L3 rkN (fun z=>(aB ha1 (aM Event.enc gxa2 (aI (ref_Reads_sim n x4 ya3 gya3) (aB ha4 (aM eI gxa5 (aB ha6 (aI (ref_Writes_sim n xa2 ya7 gya7) (aB ha8 (aI (ref_in_sim n xa2.Deps.Addr x3.At ya9 gya9) (aB ha10 (aI (ref_in_sim n xa2.Deps.Data x3.At ya11 gya11) (aB ha12 z))))))))))))) (by kernel_rfl)
 obtain rfl:=soI h
 exact kR ⟨ord37,[rV 39 [(222,vT)],(41,⟨[],[],[(228,(Event.enc xa2))],[],[],[],[],[]⟩),(42,⟨[],[],[(237,[(vI xa5)])],[(232,vT),(242,vT),(246,vT),(253,vF),(261,vT)],[(231,.v (.bool ya3)),(244,.v (.bool ya7)),(252,.v (.bool ya9)),(259,.v (.bool ya11))],[],[],[]⟩)],[],[],[]⟩ [(1,⟨[8],[15,10,9,4],0,[],[],[]⟩,⟨[],[],[]⟩)] ordB_ref_View_Holds_L3 (rkE rfl neR) (fun z=>(aB ha1 (aM Event.enc gxa2 (aI (ref_Reads_sim n x4 ya3 gya3) (aB ha4 (aM eI gxa5 (aB ha6 (aI (ref_Writes_sim n xa2 ya7 gya7) (aB ha8 (aI (ref_in_sim n xa2.Deps.Addr x3.At ya9 gya9) (aB ha10 (aI (ref_in_sim n xa2.Deps.Data x3.At ya11 gya11) (aB ha12 z))))))))))))) (by kernel_rfl)

theorem ordB_ref_View_Holds_L4:ordB (polF 37) ord37 c_ref_View_Holds_L4=true:=by kernel_rfl
def ref_View_Holds_L4_S (v:fencepostref10_View) (b:Int) (x3:Event) (x4:Event) (sa:Int):St:=mkS 290 [(2,(vI b)),(4,.ptr (.L 4) 0 0),(9,.ptr (.L 9) 0 0),(10,.ptr (.L 10) 0 0),(16,(vI sa))] [(10,(Event.enc x4)),(9,(Event.enc x3)),(4,(fencepostref10_View.enc v))] [] 0
def ref_View_Holds_L4_T0 (v:fencepostref10_View) (b:Int) (x3:Event) (x4:Event) (tt:Unit):St:=mkS 290 [] [] [] 0
def ref_View_Holds_L4_T1 (v:fencepostref10_View) (b:Int) (x3:Event) (x4:Event) (tt:Unit):St:=mkS 290 [(8,vT)] [] [] 0
def ref_View_Holds_L4_out (v:fencepostref10_View) (b:Int) (x3:Event) (x4:Event) (t0:(Unit⊕Unit)):Ex×St:=match t0 with | .inl tt=>(.ex 7,ref_View_Holds_L4_T0 v b x3 x4 tt) | .inr tt=>(.ret,ref_View_Holds_L4_T1 v b x3 x4 tt)
theorem ref_View_Holds_L4_sim (n:Nat) (v:fencepostref10_View) (b:Int) (x3:Event) (x4:Event):∀ sa r,ref_View_Holds_L4 n v b x3 x4 sa=some r→CodeD Tryz.prog c_ref_View_Holds_L4 (ref_View_Holds_L4_S v b x3 x4 sa) (rk (ref_View_Holds_L4_S v b x3 x4) (ref_View_Holds_L4_out v b x3 x4) r):=by
 intro sa r h
 unfold ref_View_Holds_L4 at h
 rcases iteN h with ⟨ha1,h⟩ | ⟨ha1,h⟩
 ·
  obtain rfl:=soI h
  exact kR ⟨ord37,[rV 46 [(268,vF)]],[],[],[]⟩ [(9,⟨[],[10,9,4],0,[],[],[]⟩,⟨[],[],[]⟩)] ordB_ref_View_Holds_L4 (rkE rfl neE) (fun z=>(aB ha1 z)) (by kernel_rfl)
 obtain ⟨xa2,gxa2,h⟩:=bindE h
 obtain ⟨ya3,gya3,h⟩:=bindE h
 rcases iteN h with ⟨ha4,h⟩ | ⟨ha4,h⟩
 ·
  obtain rfl:=soI h
  exact kR ⟨ord37,[rV 46 [(268,vT)],(48,⟨[],[],[(274,(Event.enc xa2))],[],[],[],[],[]⟩),rVC 49 [(278,vF)] [(277,.v (.bool ya3))]],[],[],[]⟩ [(0,⟨[2,4,9,10,16],[17],0,[],[],[]⟩,⟨[],[],[]⟩)] ordB_ref_View_Holds_L4 rkN (fun z=>(aB ha1 (aM Event.enc gxa2 (aI (ref_Writes_sim n x4 ya3 gya3) (aB ha4 z))))) (by kernel_rfl)
 obtain ⟨ya5,gya5,h⟩:=bindE h
 rcases iteN h with ⟨ha6,h⟩ | ⟨ha6,h⟩
 ·
  obtain rfl:=soI h
  exact kR ⟨ord37,[rV 46 [(268,vT)],(48,⟨[],[],[(274,(Event.enc xa2))],[],[],[],[],[]⟩),rVC 49 [(278,vT),(282,vF)] [(277,.v (.bool ya3)),(280,.v (.bool ya5))]],[],[],[]⟩ [(0,⟨[2,4,9,10,16],[17],0,[],[],[]⟩,⟨[],[],[]⟩)] ordB_ref_View_Holds_L4 rkN (fun z=>(aB ha1 (aM Event.enc gxa2 (aI (ref_Writes_sim n x4 ya3 gya3) (aB ha4 (aI (ref_Memory_sim n xa2 ya5 gya5) (aB ha6 z))))))) (by kernel_rfl)
 obtain ⟨ya7,gya7,h⟩:=bindE h
 rcases iteN h with ⟨ha8,h⟩ | ⟨ha8,h⟩
 ·
  obtain rfl:=soI h
  exact kR ⟨ord37,[rV 46 [(268,vT)],(48,⟨[],[],[(274,(Event.enc xa2))],[],[],[],[],[]⟩),rVC 49 [(278,vT),(282,vT),(289,vF)] [(277,.v (.bool ya3)),(280,.v (.bool ya5)),(288,.v (.bool ya7))]],[],[],[]⟩ [(0,⟨[2,4,9,10,16],[17],0,[],[],[]⟩,⟨[],[],[]⟩)] ordB_ref_View_Holds_L4 rkN (fun z=>(aB ha1 (aM Event.enc gxa2 (aI (ref_Writes_sim n x4 ya3 gya3) (aB ha4 (aI (ref_Memory_sim n xa2 ya5 gya5) (aB ha6 (aI (ref_in_sim n xa2.Deps.Addr x3.At ya7 gya7) (aB ha8 z))))))))) (by kernel_rfl)
 obtain rfl:=soI h
 exact kR ⟨ord37,[rV 46 [(268,vT)],(48,⟨[],[],[(274,(Event.enc xa2))],[],[],[],[],[]⟩),rVC 49 [(278,vT),(282,vT),(289,vT)] [(277,.v (.bool ya3)),(280,.v (.bool ya5)),(288,.v (.bool ya7))]],[],[],[]⟩ [(1,⟨[8],[17,10,9,4],0,[],[],[]⟩,⟨[],[],[]⟩)] ordB_ref_View_Holds_L4 (rkE rfl neR) (fun z=>(aB ha1 (aM Event.enc gxa2 (aI (ref_Writes_sim n x4 ya3 gya3) (aB ha4 (aI (ref_Memory_sim n xa2 ya5 gya5) (aB ha6 (aI (ref_in_sim n xa2.Deps.Addr x3.At ya7 gya7) (aB ha8 z))))))))) (by kernel_rfl)

theorem ref_View_Holds_sim (n:Nat) (v:fencepostref10_View) (a:Int) (b:Int) (rule:Int) (r:Bool) (h:ref_View_Holds n v a b rule=some r):PCall Tryz.prog 37 [(aAgg fencepostref10_View.enc v),(vI a),(vI b),(vI rule)] (eqA (.v (.bool r))):=by
 unfold ref_View_Holds at h
 obtain ⟨y1,gy1,h⟩:=bindE h
 rcases iteE h with ⟨h2,h⟩ | ⟨h2,h⟩
 ·
  obtain rfl:=soI h
  exact kP ⟨ord37,[rVC 1 [(22,vT)] [(21,.v (.bool y1))]],[],[],[]⟩ ordB37 (fun z=>(aI (ref_View_ahead_sim n v a b y1 gy1) (aB h2 z))) (by kernel_rfl)
 obtain ⟨x3,gx3,h⟩:=bindE h
 obtain ⟨x4,gx4,h⟩:=bindE h
 rcases iteE h with ⟨h5,h⟩ | ⟨h5,h⟩
 ·
  obtain ⟨y6,gy6,h⟩:=bindE h
  rcases iteE h with ⟨h7,h⟩ | ⟨h7,h⟩
  ·
   obtain rfl:=soI h
   exact kP ⟨ord37,[rVC 1 [(22,vF)] [(21,.v (.bool y1))],(3,⟨[],[],[(26,(Event.enc x3)),(31,(Event.enc x4))],[],[],[],[],[]⟩),rV 5 [(34,vT)],rVC 6 [(38,vT)] [(37,.v (.bool y6))]],[],[],[]⟩ ordB37 (fun z=>(aI (ref_View_ahead_sim n v a b y1 gy1) (aB h2 (aM Event.enc gx3 (aM Event.enc gx4 (aB h5 (aI (ref_Writes_sim n x4 y6 gy6) (aB h7 z)))))))) (by kernel_rfl)
  obtain rfl:=soI h
  exact kP ⟨ord37,[rVC 1 [(22,vF)] [(21,.v (.bool y1))],(3,⟨[],[],[(26,(Event.enc x3)),(31,(Event.enc x4))],[],[],[],[],[]⟩),rV 5 [(34,vT)],rVC 6 [(38,vF)] [(37,.v (.bool y6))]],[],[],[]⟩ ordB37 (fun z=>(aI (ref_View_ahead_sim n v a b y1 gy1) (aB h2 (aM Event.enc gx3 (aM Event.enc gx4 (aB h5 (aI (ref_Writes_sim n x4 y6 gy6) (aB h7 z)))))))) (by kernel_rfl)
 rcases iteE h with ⟨h6,h⟩ | ⟨h6,h⟩
 ·
  obtain ⟨t7,gt7,h⟩:=bindE h
  rcases t7 with w8 | w8
  ·
   obtain ⟨y9,gy9,h⟩:=bindE h
   rcases iteN h with ⟨h10,h⟩ | ⟨h10,h⟩
   ·
    obtain rfl:=soI h
    exact kP ⟨ord37,[rVC 1 [(22,vF)] [(21,.v (.bool y1))],(3,⟨[],[],[(26,(Event.enc x3)),(31,(Event.enc x4))],[],[],[],[],[]⟩),rV 5 [(34,vF)],rV 7 [(45,vT)],rVC 13 [(73,vF)] [(72,.v (.bool y9))]],[],[(9,(⟨[1,2,4,9,10,11],[],0,[],[],[]⟩,⟨[],[],[]⟩,(.ex 1),ref_View_Holds_L1_T0 v a b x3 x4 w8))],[]⟩ ordB37 (fun z=>(aI (ref_View_ahead_sim n v a b y1 gy1) (aB h2 (aM Event.enc gx3 (aM Event.enc gx4 (aB h5 (aB h6 (aI (okL (pl:=polF 37) (ref_View_Holds_L1_S v a b x3 x4) (ref_View_Holds_L1_out v a b x3 x4) (ref_View_Holds_L1_sim n v a b x3 x4) n _ (.inl w8) gt7) (aI (ref_Reads_sim n x3 y9 gy9) (aB h10 z)))))))))) (by kernel_rfl)
   obtain ⟨y11,gy11,h⟩:=bindE h
   rcases iteN h with ⟨h12,h⟩ | ⟨h12,h⟩
   ·
    obtain rfl:=soI h
    exact kP ⟨ord37,[rVC 1 [(22,vF)] [(21,.v (.bool y1))],(3,⟨[],[],[(26,(Event.enc x3)),(31,(Event.enc x4))],[],[],[],[],[]⟩),rV 5 [(34,vF)],rV 7 [(45,vT)],rVC 13 [(73,vT),(77,vF)] [(72,.v (.bool y9)),(75,.v (.bool y11))]],[],[(9,(⟨[1,2,4,9,10,11],[],0,[],[],[]⟩,⟨[],[],[]⟩,(.ex 1),ref_View_Holds_L1_T0 v a b x3 x4 w8))],[]⟩ ordB37 (fun z=>(aI (ref_View_ahead_sim n v a b y1 gy1) (aB h2 (aM Event.enc gx3 (aM Event.enc gx4 (aB h5 (aB h6 (aI (okL (pl:=polF 37) (ref_View_Holds_L1_S v a b x3 x4) (ref_View_Holds_L1_out v a b x3 x4) (ref_View_Holds_L1_sim n v a b x3 x4) n _ (.inl w8) gt7) (aI (ref_Reads_sim n x3 y9 gy9) (aB h10 (aI (ref_Reads_sim n x4 y11 gy11) (aB h12 z)))))))))))) (by kernel_rfl)
   rcases iteN h with ⟨h13,h⟩ | ⟨h13,h⟩
   ·
    obtain rfl:=soI h
    exact kP ⟨ord37,[rVC 1 [(22,vF)] [(21,.v (.bool y1))],(3,⟨[],[],[(26,(Event.enc x3)),(31,(Event.enc x4))],[],[],[],[],[]⟩),rV 5 [(34,vF)],rV 7 [(45,vT)],rVC 13 [(73,vT),(77,vT),(84,vF)] [(72,.v (.bool y9)),(75,.v (.bool y11))]],[],[(9,(⟨[1,2,4,9,10,11],[],0,[],[],[]⟩,⟨[],[],[]⟩,(.ex 1),ref_View_Holds_L1_T0 v a b x3 x4 w8))],[]⟩ ordB37 (fun z=>(aI (ref_View_ahead_sim n v a b y1 gy1) (aB h2 (aM Event.enc gx3 (aM Event.enc gx4 (aB h5 (aB h6 (aI (okL (pl:=polF 37) (ref_View_Holds_L1_S v a b x3 x4) (ref_View_Holds_L1_out v a b x3 x4) (ref_View_Holds_L1_sim n v a b x3 x4) n _ (.inl w8) gt7) (aI (ref_Reads_sim n x3 y9 gy9) (aB h10 (aI (ref_Reads_sim n x4 y11 gy11) (aB h12 (aB h13 z))))))))))))) (by kernel_rfl)
   obtain ⟨x14,gx14,h⟩:=bindE h
   obtain ⟨x15,gx15,h⟩:=bindE h
   obtain rfl:=soI h
   exact kP ⟨ord37,[rVC 1 [(22,vF)] [(21,.v (.bool y1))],(3,⟨[],[],[(26,(Event.enc x3)),(31,(Event.enc x4))],[],[],[],[],[]⟩),rV 5 [(34,vF)],rV 7 [(45,vT)],(13,⟨[],[],[(89,[(vI x14)]),(95,[(vI x15)])],[(73,vT),(77,vT),(84,vT)],[(72,.v (.bool y9)),(75,.v (.bool y11))],[],[],[]⟩)],[],[(9,(⟨[1,2,4,9,10,11],[],0,[],[],[]⟩,⟨[],[],[]⟩,(.ex 1),ref_View_Holds_L1_T0 v a b x3 x4 w8))],[]⟩ ordB37 (fun z=>(aI (ref_View_ahead_sim n v a b y1 gy1) (aB h2 (aM Event.enc gx3 (aM Event.enc gx4 (aB h5 (aB h6 (aI (okL (pl:=polF 37) (ref_View_Holds_L1_S v a b x3 x4) (ref_View_Holds_L1_out v a b x3 x4) (ref_View_Holds_L1_sim n v a b x3 x4) n _ (.inl w8) gt7) (aI (ref_Reads_sim n x3 y9 gy9) (aB h10 (aI (ref_Reads_sim n x4 y11 gy11) (aB h12 (aB h13 (aM eI gx14 (aM eI gx15 z))))))))))))))) (by kernel_rfl)
  ·
   obtain rfl:=soI h
   exact kP ⟨ord37,[rVC 1 [(22,vF)] [(21,.v (.bool y1))],(3,⟨[],[],[(26,(Event.enc x3)),(31,(Event.enc x4))],[],[],[],[],[]⟩),rV 5 [(34,vF)],rV 7 [(45,vT)]],[],[(9,(⟨[1,2,4,9,10,11],[],0,[],[],[]⟩,⟨[],[],[]⟩,.ret,ref_View_Holds_L1_T1 v a b x3 x4 w8))],[]⟩ ordB37 (fun z=>(aI (ref_View_ahead_sim n v a b y1 gy1) (aB h2 (aM Event.enc gx3 (aM Event.enc gx4 (aB h5 (aB h6 (aI (okL (pl:=polF 37) (ref_View_Holds_L1_S v a b x3 x4) (ref_View_Holds_L1_out v a b x3 x4) (ref_View_Holds_L1_sim n v a b x3 x4) n _ (.inr w8) gt7) z)))))))) (by kernel_rfl)
 rcases iteE h with ⟨h7,h⟩ | ⟨h7,h⟩
 ·
  rcases iteE h with ⟨h8,h⟩ | ⟨h8,h⟩
  ·
   obtain ⟨y9,gy9,h⟩:=bindE h
   rcases iteN h with ⟨h10,h⟩ | ⟨h10,h⟩
   ·
    obtain rfl:=soI h
    exact kP ⟨ord37,[rVC 1 [(22,vF)] [(21,.v (.bool y1))],(3,⟨[],[],[(26,(Event.enc x3)),(31,(Event.enc x4))],[],[],[],[],[]⟩),rV 5 [(34,vF)],rV 7 [(45,vF)],rV 14 [(99,vT)],rVC 15 [(104,vT),(113,vF)] [(111,.v (.bool y9))]],[],[],[]⟩ ordB37 (fun z=>(aI (ref_View_ahead_sim n v a b y1 gy1) (aB h2 (aM Event.enc gx3 (aM Event.enc gx4 (aB h5 (aB h6 (aB h7 (aB h8 (aI (ref_Reads_sim n x4 y9 gy9) (aB h10 z))))))))))) (by kernel_rfl)
   obtain ⟨x11,gx11,h⟩:=bindE h
   obtain rfl:=soI h
   exact kP ⟨ord37,[rVC 1 [(22,vF)] [(21,.v (.bool y1))],(3,⟨[],[],[(26,(Event.enc x3)),(31,(Event.enc x4))],[],[],[],[],[]⟩),rV 5 [(34,vF)],rV 7 [(45,vF)],rV 14 [(99,vT)],(15,⟨[],[],[(118,[(vI x11)])],[(104,vT),(113,vT)],[(111,.v (.bool y9))],[],[],[]⟩)],[],[],[]⟩ ordB37 (fun z=>(aI (ref_View_ahead_sim n v a b y1 gy1) (aB h2 (aM Event.enc gx3 (aM Event.enc gx4 (aB h5 (aB h6 (aB h7 (aB h8 (aI (ref_Reads_sim n x4 y9 gy9) (aB h10 (aM eI gx11 z)))))))))))) (by kernel_rfl)
  rcases iteN h with ⟨h9,h⟩ | ⟨h9,h⟩
  ·
   obtain rfl:=soI h
   exact kP ⟨ord37,[rVC 1 [(22,vF)] [(21,.v (.bool y1))],(3,⟨[],[],[(26,(Event.enc x3)),(31,(Event.enc x4))],[],[],[],[],[]⟩),rV 5 [(34,vF)],rV 7 [(45,vF)],rV 14 [(99,vT)],rV 15 [(104,vF),(109,vF)]],[],[],[]⟩ ordB37 (fun z=>(aI (ref_View_ahead_sim n v a b y1 gy1) (aB h2 (aM Event.enc gx3 (aM Event.enc gx4 (aB h5 (aB h6 (aB h7 (aB h8 (aB h9 z)))))))))) (by kernel_rfl)
  obtain ⟨y10,gy10,h⟩:=bindE h
  rcases iteN h with ⟨h11,h⟩ | ⟨h11,h⟩
  ·
   obtain rfl:=soI h
   exact kP ⟨ord37,[rVC 1 [(22,vF)] [(21,.v (.bool y1))],(3,⟨[],[],[(26,(Event.enc x3)),(31,(Event.enc x4))],[],[],[],[],[]⟩),rV 5 [(34,vF)],rV 7 [(45,vF)],rV 14 [(99,vT)],rVC 15 [(104,vF),(109,vT),(113,vF)] [(111,.v (.bool y10))]],[],[],[]⟩ ordB37 (fun z=>(aI (ref_View_ahead_sim n v a b y1 gy1) (aB h2 (aM Event.enc gx3 (aM Event.enc gx4 (aB h5 (aB h6 (aB h7 (aB h8 (aB h9 (aI (ref_Reads_sim n x4 y10 gy10) (aB h11 z)))))))))))) (by kernel_rfl)
  obtain ⟨x12,gx12,h⟩:=bindE h
  obtain rfl:=soI h
  exact kP ⟨ord37,[rVC 1 [(22,vF)] [(21,.v (.bool y1))],(3,⟨[],[],[(26,(Event.enc x3)),(31,(Event.enc x4))],[],[],[],[],[]⟩),rV 5 [(34,vF)],rV 7 [(45,vF)],rV 14 [(99,vT)],(15,⟨[],[],[(118,[(vI x12)])],[(104,vF),(109,vT),(113,vT)],[(111,.v (.bool y10))],[],[],[]⟩)],[],[],[]⟩ ordB37 (fun z=>(aI (ref_View_ahead_sim n v a b y1 gy1) (aB h2 (aM Event.enc gx3 (aM Event.enc gx4 (aB h5 (aB h6 (aB h7 (aB h8 (aB h9 (aI (ref_Reads_sim n x4 y10 gy10) (aB h11 (aM eI gx12 z))))))))))))) (by kernel_rfl)
 rcases iteE h with ⟨h8,h⟩ | ⟨h8,h⟩
 ·
  obtain ⟨t9,gt9,h⟩:=bindE h
  rcases t9 with w10 | w10
  ·
   obtain rfl:=soI h
   exact kP ⟨ord37,[rVC 1 [(22,vF)] [(21,.v (.bool y1))],(3,⟨[],[],[(26,(Event.enc x3)),(31,(Event.enc x4))],[],[],[],[],[]⟩),rV 5 [(34,vF)],rV 7 [(45,vF)],rV 14 [(99,vF)],rV 16 [(123,vT)]],[],[(18,(⟨[2,4,9,10,12],[],0,[],[],[]⟩,⟨[],[],[]⟩,(.ex 3),ref_View_Holds_L2_T0 v b x3 x4 w10))],[]⟩ ordB37 (fun z=>(aI (ref_View_ahead_sim n v a b y1 gy1) (aB h2 (aM Event.enc gx3 (aM Event.enc gx4 (aB h5 (aB h6 (aB h7 (aB h8 (aI (okL (pl:=polF 37) (ref_View_Holds_L2_S v b x3 x4) (ref_View_Holds_L2_out v b x3 x4) (ref_View_Holds_L2_sim n v b x3 x4) n _ (.inl w10) gt9) z)))))))))) (by kernel_rfl)
  ·
   obtain rfl:=soI h
   exact kP ⟨ord37,[rVC 1 [(22,vF)] [(21,.v (.bool y1))],(3,⟨[],[],[(26,(Event.enc x3)),(31,(Event.enc x4))],[],[],[],[],[]⟩),rV 5 [(34,vF)],rV 7 [(45,vF)],rV 14 [(99,vF)],rV 16 [(123,vT)]],[],[(18,(⟨[2,4,9,10,12],[],0,[],[],[]⟩,⟨[],[],[]⟩,.ret,ref_View_Holds_L2_T1 v b x3 x4 w10))],[]⟩ ordB37 (fun z=>(aI (ref_View_ahead_sim n v a b y1 gy1) (aB h2 (aM Event.enc gx3 (aM Event.enc gx4 (aB h5 (aB h6 (aB h7 (aB h8 (aI (okL (pl:=polF 37) (ref_View_Holds_L2_S v b x3 x4) (ref_View_Holds_L2_out v b x3 x4) (ref_View_Holds_L2_sim n v b x3 x4) n _ (.inr w10) gt9) z)))))))))) (by kernel_rfl)
 rcases iteE h with ⟨h9,h⟩ | ⟨h9,h⟩
 ·
  obtain rfl:=soI h
  exact kP ⟨ord37,[rVC 1 [(22,vF)] [(21,.v (.bool y1))],(3,⟨[],[],[(26,(Event.enc x3)),(31,(Event.enc x4))],[],[],[],[],[]⟩),rV 5 [(34,vF)],rV 7 [(45,vF)],rV 14 [(99,vF)],rV 16 [(123,vF)],rV 23 [(152,vT)]],[],[],[]⟩ ordB37 (fun z=>(aI (ref_View_ahead_sim n v a b y1 gy1) (aB h2 (aM Event.enc gx3 (aM Event.enc gx4 (aB h5 (aB h6 (aB h7 (aB h8 (aB h9 z)))))))))) (by kernel_rfl)
 rcases iteE h with ⟨h10,h⟩ | ⟨h10,h⟩
 ·
  obtain rfl:=soI h
  exact kP ⟨ord37,[rVC 1 [(22,vF)] [(21,.v (.bool y1))],(3,⟨[],[],[(26,(Event.enc x3)),(31,(Event.enc x4))],[],[],[],[],[]⟩),rV 5 [(34,vF)],rV 7 [(45,vF)],rV 14 [(99,vF)],rV 16 [(123,vF)],rV 23 [(152,vF)],rV 25 [(156,vT)]],[],[],[]⟩ ordB37 (fun z=>(aI (ref_View_ahead_sim n v a b y1 gy1) (aB h2 (aM Event.enc gx3 (aM Event.enc gx4 (aB h5 (aB h6 (aB h7 (aB h8 (aB h9 (aB h10 z))))))))))) (by kernel_rfl)
 rcases iteE h with ⟨h11,h⟩ | ⟨h11,h⟩
 ·
  rcases iteE h with ⟨h12,h⟩ | ⟨h12,h⟩
  ·
   rcases iteE h with ⟨h13,h⟩ | ⟨h13,h⟩
   ·
    obtain rfl:=soI h
    exact kP ⟨ord37,[rVC 1 [(22,vF)] [(21,.v (.bool y1))],(3,⟨[],[],[(26,(Event.enc x3)),(31,(Event.enc x4))],[],[],[],[],[]⟩),rV 5 [(34,vF)],rV 7 [(45,vF)],rV 14 [(99,vF)],rV 16 [(123,vF)],rV 23 [(152,vF)],rV 25 [(156,vF)],rV 27 [(160,vT)],rV 28 [(164,vT),(171,vT)]],[],[],[]⟩ ordB37 (fun z=>(aI (ref_View_ahead_sim n v a b y1 gy1) (aB h2 (aM Event.enc gx3 (aM Event.enc gx4 (aB h5 (aB h6 (aB h7 (aB h8 (aB h9 (aB h10 (aB h11 (aB h12 (aB h13 z)))))))))))))) (by kernel_rfl)
   obtain rfl:=soI h
   exact kP ⟨ord37,[rVC 1 [(22,vF)] [(21,.v (.bool y1))],(3,⟨[],[],[(26,(Event.enc x3)),(31,(Event.enc x4))],[],[],[],[],[]⟩),rV 5 [(34,vF)],rV 7 [(45,vF)],rV 14 [(99,vF)],rV 16 [(123,vF)],rV 23 [(152,vF)],rV 25 [(156,vF)],rV 27 [(160,vT)],rV 28 [(164,vT),(171,vF)]],[],[],[]⟩ ordB37 (fun z=>(aI (ref_View_ahead_sim n v a b y1 gy1) (aB h2 (aM Event.enc gx3 (aM Event.enc gx4 (aB h5 (aB h6 (aB h7 (aB h8 (aB h9 (aB h10 (aB h11 (aB h12 (aB h13 z)))))))))))))) (by kernel_rfl)
  rcases iteN h with ⟨h13,h⟩ | ⟨h13,h⟩
  ·
   obtain rfl:=soI h
   exact kP ⟨ord37,[rVC 1 [(22,vF)] [(21,.v (.bool y1))],(3,⟨[],[],[(26,(Event.enc x3)),(31,(Event.enc x4))],[],[],[],[],[]⟩),rV 5 [(34,vF)],rV 7 [(45,vF)],rV 14 [(99,vF)],rV 16 [(123,vF)],rV 23 [(152,vF)],rV 25 [(156,vF)],rV 27 [(160,vT)],rV 28 [(164,vF),(168,vF)]],[],[],[]⟩ ordB37 (fun z=>(aI (ref_View_ahead_sim n v a b y1 gy1) (aB h2 (aM Event.enc gx3 (aM Event.enc gx4 (aB h5 (aB h6 (aB h7 (aB h8 (aB h9 (aB h10 (aB h11 (aB h12 (aB h13 z)))))))))))))) (by kernel_rfl)
  rcases iteE h with ⟨h14,h⟩ | ⟨h14,h⟩
  ·
   obtain rfl:=soI h
   exact kP ⟨ord37,[rVC 1 [(22,vF)] [(21,.v (.bool y1))],(3,⟨[],[],[(26,(Event.enc x3)),(31,(Event.enc x4))],[],[],[],[],[]⟩),rV 5 [(34,vF)],rV 7 [(45,vF)],rV 14 [(99,vF)],rV 16 [(123,vF)],rV 23 [(152,vF)],rV 25 [(156,vF)],rV 27 [(160,vT)],rV 28 [(164,vF),(168,vT),(171,vT)]],[],[],[]⟩ ordB37 (fun z=>(aI (ref_View_ahead_sim n v a b y1 gy1) (aB h2 (aM Event.enc gx3 (aM Event.enc gx4 (aB h5 (aB h6 (aB h7 (aB h8 (aB h9 (aB h10 (aB h11 (aB h12 (aB h13 (aB h14 z))))))))))))))) (by kernel_rfl)
  obtain rfl:=soI h
  exact kP ⟨ord37,[rVC 1 [(22,vF)] [(21,.v (.bool y1))],(3,⟨[],[],[(26,(Event.enc x3)),(31,(Event.enc x4))],[],[],[],[],[]⟩),rV 5 [(34,vF)],rV 7 [(45,vF)],rV 14 [(99,vF)],rV 16 [(123,vF)],rV 23 [(152,vF)],rV 25 [(156,vF)],rV 27 [(160,vT)],rV 28 [(164,vF),(168,vT),(171,vF)]],[],[],[]⟩ ordB37 (fun z=>(aI (ref_View_ahead_sim n v a b y1 gy1) (aB h2 (aM Event.enc gx3 (aM Event.enc gx4 (aB h5 (aB h6 (aB h7 (aB h8 (aB h9 (aB h10 (aB h11 (aB h12 (aB h13 (aB h14 z))))))))))))))) (by kernel_rfl)
 rcases iteE h with ⟨h12,h⟩ | ⟨h12,h⟩
 ·
  rcases iteE h with ⟨h13,h⟩ | ⟨h13,h⟩
  ·
   obtain rfl:=soI h
   exact kP ⟨ord37,[rVC 1 [(22,vF)] [(21,.v (.bool y1))],(3,⟨[],[],[(26,(Event.enc x3)),(31,(Event.enc x4))],[],[],[],[],[]⟩),rV 5 [(34,vF)],rV 7 [(45,vF)],rV 14 [(99,vF)],rV 16 [(123,vF)],rV 23 [(152,vF)],rV 25 [(156,vF)],rV 27 [(160,vF)],rV 29 [(176,vT)],rV 30 [(181,vT)]],[],[],[]⟩ ordB37 (fun z=>(aI (ref_View_ahead_sim n v a b y1 gy1) (aB h2 (aM Event.enc gx3 (aM Event.enc gx4 (aB h5 (aB h6 (aB h7 (aB h8 (aB h9 (aB h10 (aB h11 (aB h12 (aB h13 z)))))))))))))) (by kernel_rfl)
  obtain rfl:=soI h
  exact kP ⟨ord37,[rVC 1 [(22,vF)] [(21,.v (.bool y1))],(3,⟨[],[],[(26,(Event.enc x3)),(31,(Event.enc x4))],[],[],[],[],[]⟩),rV 5 [(34,vF)],rV 7 [(45,vF)],rV 14 [(99,vF)],rV 16 [(123,vF)],rV 23 [(152,vF)],rV 25 [(156,vF)],rV 27 [(160,vF)],rV 29 [(176,vT)],rV 30 [(181,vF)]],[],[],[]⟩ ordB37 (fun z=>(aI (ref_View_ahead_sim n v a b y1 gy1) (aB h2 (aM Event.enc gx3 (aM Event.enc gx4 (aB h5 (aB h6 (aB h7 (aB h8 (aB h9 (aB h10 (aB h11 (aB h12 (aB h13 z)))))))))))))) (by kernel_rfl)
 rcases iteE h with ⟨h13,h⟩ | ⟨h13,h⟩
 ·
  obtain ⟨y14,gy14,h⟩:=bindE h
  obtain rfl:=soI h
  exact kP ⟨ord37,[rVC 1 [(22,vF)] [(21,.v (.bool y1))],(3,⟨[],[],[(26,(Event.enc x3)),(31,(Event.enc x4))],[],[],[],[],[]⟩),rV 5 [(34,vF)],rV 7 [(45,vF)],rV 14 [(99,vF)],rV 16 [(123,vF)],rV 23 [(152,vF)],rV 25 [(156,vF)],rV 27 [(160,vF)],rV 29 [(176,vF)],rV 31 [(188,vT)],rVC 32 [] [(195,.v (.bool y14))]],[],[],[]⟩ ordB37 (fun z=>(aI (ref_View_ahead_sim n v a b y1 gy1) (aB h2 (aM Event.enc gx3 (aM Event.enc gx4 (aB h5 (aB h6 (aB h7 (aB h8 (aB h9 (aB h10 (aB h11 (aB h12 (aB h13 (aI (ref_in_sim n x4.Deps.Addr x3.At y14 gy14) z))))))))))))))) (by kernel_rfl)
 rcases iteE h with ⟨h14,h⟩ | ⟨h14,h⟩
 ·
  obtain ⟨y15,gy15,h⟩:=bindE h
  obtain rfl:=soI h
  exact kP ⟨ord37,[rVC 1 [(22,vF)] [(21,.v (.bool y1))],(3,⟨[],[],[(26,(Event.enc x3)),(31,(Event.enc x4))],[],[],[],[],[]⟩),rV 5 [(34,vF)],rV 7 [(45,vF)],rV 14 [(99,vF)],rV 16 [(123,vF)],rV 23 [(152,vF)],rV 25 [(156,vF)],rV 27 [(160,vF)],rV 29 [(176,vF)],rV 31 [(188,vF)],rV 33 [(196,vT)],rVC 34 [] [(203,.v (.bool y15))]],[],[],[]⟩ ordB37 (fun z=>(aI (ref_View_ahead_sim n v a b y1 gy1) (aB h2 (aM Event.enc gx3 (aM Event.enc gx4 (aB h5 (aB h6 (aB h7 (aB h8 (aB h9 (aB h10 (aB h11 (aB h12 (aB h13 (aB h14 (aI (ref_in_sim n x4.Deps.Data x3.At y15 gy15) z)))))))))))))))) (by kernel_rfl)
 rcases iteE h with ⟨h15,h⟩ | ⟨h15,h⟩
 ·
  obtain ⟨y16,gy16,h⟩:=bindE h
  rcases iteN h with ⟨h17,h⟩ | ⟨h17,h⟩
  ·
   obtain rfl:=soI h
   exact kP ⟨ord37,[rVC 1 [(22,vF)] [(21,.v (.bool y1))],(3,⟨[],[],[(26,(Event.enc x3)),(31,(Event.enc x4))],[],[],[],[],[]⟩),rV 5 [(34,vF)],rV 7 [(45,vF)],rV 14 [(99,vF)],rV 16 [(123,vF)],rV 23 [(152,vF)],rV 25 [(156,vF)],rV 27 [(160,vF)],rV 29 [(176,vF)],rV 31 [(188,vF)],rV 33 [(196,vF)],rV 35 [(204,vT)],rVC 36 [(208,vF)] [(207,.v (.bool y16))]],[],[],[]⟩ ordB37 (fun z=>(aI (ref_View_ahead_sim n v a b y1 gy1) (aB h2 (aM Event.enc gx3 (aM Event.enc gx4 (aB h5 (aB h6 (aB h7 (aB h8 (aB h9 (aB h10 (aB h11 (aB h12 (aB h13 (aB h14 (aB h15 (aI (ref_Writes_sim n x4 y16 gy16) (aB h17 z)))))))))))))))))) (by kernel_rfl)
  obtain ⟨y18,gy18,h⟩:=bindE h
  obtain rfl:=soI h
  exact kP ⟨ord37,[rVC 1 [(22,vF)] [(21,.v (.bool y1))],(3,⟨[],[],[(26,(Event.enc x3)),(31,(Event.enc x4))],[],[],[],[],[]⟩),rV 5 [(34,vF)],rV 7 [(45,vF)],rV 14 [(99,vF)],rV 16 [(123,vF)],rV 23 [(152,vF)],rV 25 [(156,vF)],rV 27 [(160,vF)],rV 29 [(176,vF)],rV 31 [(188,vF)],rV 33 [(196,vF)],rV 35 [(204,vT)],rVC 36 [(208,vT)] [(207,.v (.bool y16)),(214,.v (.bool y18))]],[],[],[]⟩ ordB37 (fun z=>(aI (ref_View_ahead_sim n v a b y1 gy1) (aB h2 (aM Event.enc gx3 (aM Event.enc gx4 (aB h5 (aB h6 (aB h7 (aB h8 (aB h9 (aB h10 (aB h11 (aB h12 (aB h13 (aB h14 (aB h15 (aI (ref_Writes_sim n x4 y16 gy16) (aB h17 (aI (ref_in_sim n x4.Deps.Way x3.At y18 gy18) z))))))))))))))))))) (by kernel_rfl)
 rcases iteE h with ⟨h16,h⟩ | ⟨h16,h⟩
 ·
  obtain ⟨t17,gt17,h⟩:=bindE h
  rcases t17 with w18 | w18
  ·
   obtain rfl:=soI h
   exact kP ⟨ord37,[rVC 1 [(22,vF)] [(21,.v (.bool y1))],(3,⟨[],[],[(26,(Event.enc x3)),(31,(Event.enc x4))],[],[],[],[],[]⟩),rV 5 [(34,vF)],rV 7 [(45,vF)],rV 14 [(99,vF)],rV 16 [(123,vF)],rV 23 [(152,vF)],rV 25 [(156,vF)],rV 27 [(160,vF)],rV 29 [(176,vF)],rV 31 [(188,vF)],rV 33 [(196,vF)],rV 35 [(204,vF)],rV 37 [(216,vT)]],[],[(39,(⟨[2,4,9,10,14],[],0,[],[],[]⟩,⟨[],[],[]⟩,(.ex 5),ref_View_Holds_L3_T0 v b x3 x4 w18))],[]⟩ ordB37 (fun z=>(aI (ref_View_ahead_sim n v a b y1 gy1) (aB h2 (aM Event.enc gx3 (aM Event.enc gx4 (aB h5 (aB h6 (aB h7 (aB h8 (aB h9 (aB h10 (aB h11 (aB h12 (aB h13 (aB h14 (aB h15 (aB h16 (aI (okL (pl:=polF 37) (ref_View_Holds_L3_S v b x3 x4) (ref_View_Holds_L3_out v b x3 x4) (ref_View_Holds_L3_sim n v b x3 x4) n _ (.inl w18) gt17) z)))))))))))))))))) (by kernel_rfl)
  ·
   obtain rfl:=soI h
   exact kP ⟨ord37,[rVC 1 [(22,vF)] [(21,.v (.bool y1))],(3,⟨[],[],[(26,(Event.enc x3)),(31,(Event.enc x4))],[],[],[],[],[]⟩),rV 5 [(34,vF)],rV 7 [(45,vF)],rV 14 [(99,vF)],rV 16 [(123,vF)],rV 23 [(152,vF)],rV 25 [(156,vF)],rV 27 [(160,vF)],rV 29 [(176,vF)],rV 31 [(188,vF)],rV 33 [(196,vF)],rV 35 [(204,vF)],rV 37 [(216,vT)]],[],[(39,(⟨[2,4,9,10,14],[],0,[],[],[]⟩,⟨[],[],[]⟩,.ret,ref_View_Holds_L3_T1 v b x3 x4 w18))],[]⟩ ordB37 (fun z=>(aI (ref_View_ahead_sim n v a b y1 gy1) (aB h2 (aM Event.enc gx3 (aM Event.enc gx4 (aB h5 (aB h6 (aB h7 (aB h8 (aB h9 (aB h10 (aB h11 (aB h12 (aB h13 (aB h14 (aB h15 (aB h16 (aI (okL (pl:=polF 37) (ref_View_Holds_L3_S v b x3 x4) (ref_View_Holds_L3_out v b x3 x4) (ref_View_Holds_L3_sim n v b x3 x4) n _ (.inr w18) gt17) z)))))))))))))))))) (by kernel_rfl)
 rcases iteN h with ⟨h17,h⟩ | ⟨h17,h⟩
 ·
  obtain rfl:=soI h
  exact kP ⟨ord37,[rVC 1 [(22,vF)] [(21,.v (.bool y1))],(3,⟨[],[],[(26,(Event.enc x3)),(31,(Event.enc x4))],[],[],[],[],[]⟩),rV 5 [(34,vF)],rV 7 [(45,vF)],rV 14 [(99,vF)],rV 16 [(123,vF)],rV 23 [(152,vF)],rV 25 [(156,vF)],rV 27 [(160,vF)],rV 29 [(176,vF)],rV 31 [(188,vF)],rV 33 [(196,vF)],rV 35 [(204,vF)],rV 37 [(216,vF)],rV 44 [(262,vF)]],[],[],[]⟩ ordB37 (fun z=>(aI (ref_View_ahead_sim n v a b y1 gy1) (aB h2 (aM Event.enc gx3 (aM Event.enc gx4 (aB h5 (aB h6 (aB h7 (aB h8 (aB h9 (aB h10 (aB h11 (aB h12 (aB h13 (aB h14 (aB h15 (aB h16 (aB h17 z)))))))))))))))))) (by kernel_rfl)
 obtain ⟨t18,gt18,h⟩:=bindE h
 rcases t18 with w19 | w19
 ·
  obtain rfl:=soI h
  exact kP ⟨ord37,[rVC 1 [(22,vF)] [(21,.v (.bool y1))],(3,⟨[],[],[(26,(Event.enc x3)),(31,(Event.enc x4))],[],[],[],[],[]⟩),rV 5 [(34,vF)],rV 7 [(45,vF)],rV 14 [(99,vF)],rV 16 [(123,vF)],rV 23 [(152,vF)],rV 25 [(156,vF)],rV 27 [(160,vF)],rV 29 [(176,vF)],rV 31 [(188,vF)],rV 33 [(196,vF)],rV 35 [(204,vF)],rV 37 [(216,vF)],rV 44 [(262,vT)]],[],[(46,(⟨[2,4,9,10,16],[],0,[],[],[]⟩,⟨[],[],[]⟩,(.ex 7),ref_View_Holds_L4_T0 v b x3 x4 w19))],[]⟩ ordB37 (fun z=>(aI (ref_View_ahead_sim n v a b y1 gy1) (aB h2 (aM Event.enc gx3 (aM Event.enc gx4 (aB h5 (aB h6 (aB h7 (aB h8 (aB h9 (aB h10 (aB h11 (aB h12 (aB h13 (aB h14 (aB h15 (aB h16 (aB h17 (aI (okL (pl:=polF 37) (ref_View_Holds_L4_S v b x3 x4) (ref_View_Holds_L4_out v b x3 x4) (ref_View_Holds_L4_sim n v b x3 x4) n _ (.inl w19) gt18) z))))))))))))))))))) (by kernel_rfl)
 ·
  obtain rfl:=soI h
  exact kP ⟨ord37,[rVC 1 [(22,vF)] [(21,.v (.bool y1))],(3,⟨[],[],[(26,(Event.enc x3)),(31,(Event.enc x4))],[],[],[],[],[]⟩),rV 5 [(34,vF)],rV 7 [(45,vF)],rV 14 [(99,vF)],rV 16 [(123,vF)],rV 23 [(152,vF)],rV 25 [(156,vF)],rV 27 [(160,vF)],rV 29 [(176,vF)],rV 31 [(188,vF)],rV 33 [(196,vF)],rV 35 [(204,vF)],rV 37 [(216,vF)],rV 44 [(262,vT)]],[],[(46,(⟨[2,4,9,10,16],[],0,[],[],[]⟩,⟨[],[],[]⟩,.ret,ref_View_Holds_L4_T1 v b x3 x4 w19))],[]⟩ ordB37 (fun z=>(aI (ref_View_ahead_sim n v a b y1 gy1) (aB h2 (aM Event.enc gx3 (aM Event.enc gx4 (aB h5 (aB h6 (aB h7 (aB h8 (aB h9 (aB h10 (aB h11 (aB h12 (aB h13 (aB h14 (aB h15 (aB h16 (aB h17 (aI (okL (pl:=polF 37) (ref_View_Holds_L4_S v b x3 x4) (ref_View_Holds_L4_out v b x3 x4) (ref_View_Holds_L4_sim n v b x3 x4) n _ (.inr w19) gt18) z))))))))))))))))))) (by kernel_rfl)

def ord34:List (Nat×PT):=[]
theorem ordB34:ordB (polF 34) ord34 (bodyOf Tryz.prog 34)=true:=by kernel_rfl
noncomputable def c_ref_View_Rule_L1:Code:=sub (bodyOf Tryz.prog 34) [1,0,1,0,0]
theorem ordB_ref_View_Rule_L1:ordB (polF 34) ord34 c_ref_View_Rule_L1=true:=by kernel_rfl
def ref_View_Rule_L1_S (v:fencepostref10_View) (a:Int) (b:Int) (sa:Int):St:=mkS 18 [(1,(vI a)),(2,(vI b)),(3,.ptr (.L 3) 0 0),(7,(vI sa))] [(3,(fencepostref10_View.enc v))] [] 0
def ref_View_Rule_L1_T0 (v:fencepostref10_View) (a:Int) (b:Int) (tt:Unit):St:=mkS 18 [] [] [] 0
def ref_View_Rule_L1_T1 (v:fencepostref10_View) (a:Int) (b:Int) (tt:Int):St:=mkS 18 [(6,(vI tt))] [] [] 0
def ref_View_Rule_L1_out (v:fencepostref10_View) (a:Int) (b:Int) (t0:(Unit⊕Int)):Ex×St:=match t0 with | .inl tt=>(.ex 0,ref_View_Rule_L1_T0 v a b tt) | .inr tt=>(.ret,ref_View_Rule_L1_T1 v a b tt)
theorem ref_View_Rule_L1_sim (n:Nat) (v:fencepostref10_View) (a:Int) (b:Int):∀ sa r,ref_View_Rule_L1 n v a b sa=some r→CodeD Tryz.prog c_ref_View_Rule_L1 (ref_View_Rule_L1_S v a b sa) (rk (ref_View_Rule_L1_S v a b) (ref_View_Rule_L1_out v a b) r):=by
 intro sa r h
 unfold ref_View_Rule_L1 at h
 rcases iteN h with ⟨ha1,h⟩ | ⟨ha1,h⟩
 ·
  obtain rfl:=soI h
  exact kR ⟨ord34,[rV 2 [(9,vF)]],[],[],[]⟩ [(2,⟨[],[3],0,[],[],[]⟩,⟨[],[],[]⟩)] ordB_ref_View_Rule_L1 (rkE rfl neE) (fun z=>(aB ha1 z)) (by kernel_rfl)
 obtain ⟨ya2,gya2,h⟩:=bindE h
 rcases iteN h with ⟨ha3,h⟩ | ⟨ha3,h⟩
 ·
  obtain rfl:=soI h
  exact kR ⟨ord34,[rV 2 [(9,vT)],rVC 4 [(16,vF)] [(16,.v (.bool ya2))]],[],[],[]⟩ [(0,⟨[1,2,3,7],[],0,[],[],[]⟩,⟨[],[],[]⟩)] ordB_ref_View_Rule_L1 rkN (fun z=>(aB ha1 (aI (ref_View_Holds_sim n v a b sa ya2 gya2) (aB ha3 z)))) (by kernel_rfl)
 obtain rfl:=soI h
 exact kR ⟨ord34,[rV 2 [(9,vT)],rVC 4 [(16,vT)] [(16,.v (.bool ya2))]],[],[],[]⟩ [(1,⟨[6],[3],0,[],[],[]⟩,⟨[],[],[]⟩)] ordB_ref_View_Rule_L1 (rkE rfl neR) (fun z=>(aB ha1 (aI (ref_View_Holds_sim n v a b sa ya2 gya2) (aB ha3 z)))) (by kernel_rfl)

theorem ref_View_Rule_sim (n:Nat) (v:fencepostref10_View) (a:Int) (b:Int) (r:Int) (h:ref_View_Rule n v a b=some r):PCall Tryz.prog 34 [(aAgg fencepostref10_View.enc v),(vI a),(vI b)] (eqA ((vI r))):=by
 unfold ref_View_Rule at h
 obtain ⟨t1,gt1,h⟩:=bindE h
 rcases t1 with w2 | w2
 ·
  obtain rfl:=soI h
  exact kP ⟨ord34,[],[],[(2,(⟨[1,2,3,7],[],0,[],[],[]⟩,⟨[],[],[]⟩,(.ex 0),ref_View_Rule_L1_T0 v a b w2))],[]⟩ ordB34 (fun z=>(aI (okL (pl:=polF 34) (ref_View_Rule_L1_S v a b) (ref_View_Rule_L1_out v a b) (ref_View_Rule_L1_sim n v a b) n _ (.inl w2) gt1) z)) (by kernel_rfl)
 ·
  obtain rfl:=soI h
  exact kP ⟨ord34,[],[],[(2,(⟨[1,2,3,7],[],0,[],[],[]⟩,⟨[],[],[]⟩,.ret,ref_View_Rule_L1_T1 v a b w2))],[]⟩ ordB34 (fun z=>(aI (okL (pl:=polF 34) (ref_View_Rule_L1_S v a b) (ref_View_Rule_L1_out v a b) (ref_View_Rule_L1_sim n v a b) n _ (.inr w2) gt1) z)) (by kernel_rfl)

def ord10:List (Nat×PT):=[(7,(ptS [0,1,2,3,4,5,6,7,8,9,10,11,12,13,14,15,16,17,18,19]))]
theorem ordB10:ordB (polF 10) ord10 (bodyOf Tryz.prog 10)=true:=by kernel_rfl
noncomputable def c_ref_Pairs_L1:Code:=sub (bodyOf Tryz.prog 10) [1,1,1,0,1,0,0]
noncomputable def c_ref_Pairs_L2:Code:=sub c_ref_Pairs_L1 [1,0,0,1,0,0]
theorem ordB_ref_Pairs_L2:ordB (polF 10) ord10 c_ref_Pairs_L2=true:=by kernel_rfl
def ref_Pairs_L2_S (y1:fencepostref10_View×Bool) (sb:(List (Arr2 Int))×Int×Int):St:=mkS 59 [(3,.ptr (.L 3) 0 0),(4,.v (.bool y1.2)),(5,.mf 0),(6,(vI sb.2.1)),(7,(vI sb.2.2)),(19,.v (.bool y1.2))] [(3,(fencepostref10_View.enc y1.1))] [.arr true 2 (sb.1.map (eArr2 eI))] 0
def ref_Pairs_L2_T0 (y1:fencepostref10_View×Bool) (tt:(List (Arr2 Int))×Int):St:=mkS 59 [(3,.ptr (.L 3) 0 0),(4,.v (.bool y1.2)),(5,.mf 0),(6,(vI tt.2)),(19,.v (.bool y1.2))] [(3,(fencepostref10_View.enc y1.1))] [.arr true 2 (tt.1.map (eArr2 eI))] 0
def ref_Pairs_L2_out (y1:fencepostref10_View×Bool) (tt:((List (Arr2 Int))×Int)):Ex×St:=(.ex 2,ref_Pairs_L2_T0 y1 tt)
theorem ref_Pairs_L2_sim (n:Nat) (y1:fencepostref10_View×Bool):∀ sb r,ref_Pairs_L2 n y1 sb=some r→CodeD Tryz.prog c_ref_Pairs_L2 (ref_Pairs_L2_S y1 sb) (rk (ref_Pairs_L2_S y1) (ref_Pairs_L2_out y1) r):=by
 intro sb r h
 unfold ref_Pairs_L2 at h
 rcases iteN h with ⟨hb1,h⟩ | ⟨hb1,h⟩
 ·
  obtain rfl:=soI h
  exact kR ⟨ord10,[rV 7 [(28,(vI (y1.1.All.length:Int))),(30,vF)]],[],[],[]⟩ [(4,⟨[3,4,5,6,19],[],1,[],[],[]⟩,⟨[],[],[]⟩)] ordB_ref_Pairs_L2 (rkE rfl neE) (fun z=>(aL Event.enc y1.1.All (aB hb1 z))) (by kernel_rfl)
 obtain ⟨xb2,gxb2,h⟩:=bindE h
 obtain ⟨xb3,gxb3,h⟩:=bindE h
 rcases iteN h with ⟨hb4,h⟩ | ⟨hb4,h⟩
 ·
  obtain rfl:=soI h
  exact kR ⟨ord10,[(7,⟨[],[],[(34,(Event.enc xb2)),(40,(Event.enc xb3))],[(28,(vI (y1.1.All.length:Int))),(30,vT),(44,vF)],[],[],[],[]⟩)],[],[],[]⟩ [(4,⟨[3,4,5,6,19],[],1,[],[],[]⟩,⟨[],[],[]⟩)] ordB_ref_Pairs_L2 (rkE rfl neE) (fun z=>(aL Event.enc y1.1.All (aB hb1 (aM Event.enc gxb2 (aM Event.enc gxb3 (aB hb4 z)))))) (by kernel_rfl)
 obtain ⟨yb5,gyb5,h⟩:=bindE h
 rcases iteN h with ⟨hb6,h⟩ | ⟨hb6,h⟩
 ·
  obtain rfl:=soI h
  exact kR ⟨ord10,[(7,⟨[],[],[(34,(Event.enc xb2)),(40,(Event.enc xb3))],[(28,(vI (y1.1.All.length:Int))),(30,vT),(44,vT)],[],[],[],[]⟩),rVC 9 [(51,vF)] [(50,(vI yb5))]],[],[],[]⟩ [(0,⟨[3,4,5,6,7,19],[],1,[],[],[]⟩,⟨[],[],[]⟩)] ordB_ref_Pairs_L2 rkN (fun z=>(aL Event.enc y1.1.All (aB hb1 (aM Event.enc gxb2 (aM Event.enc gxb3 (aB hb4 (aI (ref_View_Rule_sim n y1.1 sb.2.1 sb.2.2 yb5 gyb5) (aB hb6 z)))))))) (by kernel_rfl)
 obtain ⟨hb7,h⟩:=grdE h
 obtain rfl:=soI h
 exact kR ⟨ord10,[(7,⟨[],[],[(34,(Event.enc xb2)),(40,(Event.enc xb3))],[(28,(vI (y1.1.All.length:Int))),(30,vT),(44,vT)],[],[],[],[]⟩),rVC 9 [(51,vT)] [(50,(vI yb5))],(10,⟨[],[57],[],[],[],[],[(57,(0,(sb.1++([(Arr2.mk sb.2.1 sb.2.2)]:List (Arr2 Int))).map (eArr2 eI)))],[]⟩)],[],[],[]⟩ [(0,⟨[3,4,5,6,7,19],[],1,[],[],[]⟩,⟨[],[],[]⟩)] ordB_ref_Pairs_L2 rkN (fun z=>(aL Event.enc y1.1.All (aB hb1 (aM Event.enc gxb2 (aM Event.enc gxb3 (aB hb4 (aI (ref_View_Rule_sim n y1.1 sb.2.1 sb.2.2 yb5 gyb5) (aB hb6 (aI (rfl:szOk 2 [[(vI sb.2.1),(vI sb.2.2)]]=true) (aI (rfl:okRows [[(vI sb.2.1),(vI sb.2.2)]]=true) (aI (ble_maps1 hb7:Nat.ble (((sb.1.map (eArr2 eI)).length + 1) * 16) 140737488355328=true) (aI (app_map (eArr2 eI) sb.1 ([(Arr2.mk sb.2.1 sb.2.2)]:List (Arr2 Int))) z)))))))))))) (by kernel_rfl)

theorem ordB_ref_Pairs_L1:ordB (polF 10) ord10 c_ref_Pairs_L1=true:=by kernel_rfl
def ref_Pairs_L1_S (y1:fencepostref10_View×Bool) (sa:(List (Arr2 Int))×Int):St:=mkS 59 [(3,.ptr (.L 3) 0 0),(4,.v (.bool y1.2)),(5,.mf 0),(6,(vI sa.2))] [(3,(fencepostref10_View.enc y1.1))] [.arr true 2 (sa.1.map (eArr2 eI))] 0
def ref_Pairs_L1_T0 (y1:fencepostref10_View×Bool) (tt:(List (Arr2 Int))):St:=mkS 59 [(5,.mf 0)] [] [.arr true 2 (tt.map (eArr2 eI))] 0
def ref_Pairs_L1_out (y1:fencepostref10_View×Bool) (tt:((List (Arr2 Int)))):Ex×St:=(.ex 0,ref_Pairs_L1_T0 y1 tt)
theorem ref_Pairs_L1_sim (n:Nat) (y1:fencepostref10_View×Bool):∀ sa r,ref_Pairs_L1 n y1 sa=some r→CodeD Tryz.prog c_ref_Pairs_L1 (ref_Pairs_L1_S y1 sa) (rk (ref_Pairs_L1_S y1) (ref_Pairs_L1_out y1) r):=by
 intro sa r h
 unfold ref_Pairs_L1 at h
 rcases iteN h with ⟨ha1,h⟩ | ⟨ha1,h⟩
 ·
  obtain rfl:=soI h
  exact kR ⟨ord10,[rV 4 [(16,(vI (y1.1.All.length:Int))),(18,vF)]],[],[],[]⟩ [(2,⟨[5],[3],1,[],[],[]⟩,⟨[],[],[]⟩)] ordB_ref_Pairs_L1 (rkE rfl neE) (fun z=>(aL Event.enc y1.1.All (aB ha1 z))) (by kernel_rfl)
 rcases iteN h with ⟨ha2,h⟩ | ⟨ha2,h⟩
 ·
  obtain rfl:=soI h
  exact kR ⟨ord10,[rV 4 [(16,(vI (y1.1.All.length:Int))),(18,vT),(20,vF)]],[],[],[]⟩ [(2,⟨[5],[3],1,[],[],[]⟩,⟨[],[],[]⟩)] ordB_ref_Pairs_L1 (rkE rfl neE) (fun z=>(aL Event.enc y1.1.All (aB ha1 (aB ha2 z)))) (by kernel_rfl)
 obtain ⟨ta3,gta3,h⟩:=bindE h
 obtain rfl:=soI h
 exact kR ⟨ord10,[rV 4 [(16,(vI (y1.1.All.length:Int))),(18,vT),(20,vT)]],[],[(7,(⟨[3,4,5,6,7,19],[],1,[],[],[]⟩,⟨[],[],[]⟩,(.ex 2),ref_Pairs_L2_T0 y1 ta3))],[]⟩ [(0,⟨[3,4,5,6],[],1,[],[],[]⟩,⟨[],[],[]⟩)] ordB_ref_Pairs_L1 rkN (fun z=>(aL Event.enc y1.1.All (aB ha1 (aB ha2 (aI (okL (pl:=polF 10) (ref_Pairs_L2_S y1) (ref_Pairs_L2_out y1) (ref_Pairs_L2_sim n y1) n _ ta3 gta3) z))))) (by kernel_rfl)

theorem ref_Pairs_sim (n:Nat) (c:Cand) (r:(List (Arr2 Int))) (h:ref_Pairs n c=some r):PCall Tryz.prog 10 [(aAgg Cand.enc c)] (eqA (.sl (r.map (eArr2 eI)))):=by
 unfold ref_Pairs at h
 obtain ⟨y1,gy1,h⟩:=bindE h
 obtain ⟨t2,gt2,h⟩:=bindE h
 obtain rfl:=soI h
 exact kP ⟨ord10,[rVC 1 [] [(10,.tup [(aAgg fencepostref10_View.enc y1.1),.v (.bool y1.2)])]],[],[(4,(⟨[3,4,5,6],[1],0,[(5,2)],[],[]⟩,⟨[],[],[]⟩,(.ex 0),ref_Pairs_L1_T0 y1 t2))],[]⟩ ordB10 (fun z=>(aI (ref_Of_sim n c y1 gy1) (aI (okL (pl:=polF 10) (ref_Pairs_L1_S y1) (ref_Pairs_L1_out y1) (ref_Pairs_L1_sim n y1) n _ t2 gt2) z))) (by kernel_rfl)

def ord11:List (Nat×PT):=[(6,(ptS [0,1,2,3,4,5,6,7,8]))]
theorem ordB11:ordB (polF 11) ord11 (bodyOf Tryz.prog 11)=true:=by kernel_rfl
noncomputable def c_kit_Same_2_int_L1:Code:=sub (bodyOf Tryz.prog 11) [1,1,0,1,0,0]
theorem ordB_kit_Same_2_int_L1:ordB (polF 11) ord11 c_kit_Same_2_int_L1=true:=by kernel_rfl
def kit_Same_2_int_L1_S (a:(List (Arr2 Int))) (b:(List (Arr2 Int))) (sa:Int):St:=mkS 26 [(0,.sl (a.map (eArr2 eI))),(1,.sl (b.map (eArr2 eI))),(5,(vI sa))] [] [] 0
def kit_Same_2_int_L1_T0 (a:(List (Arr2 Int))) (b:(List (Arr2 Int))) (tt:Unit):St:=mkS 26 [] [] [] 0
def kit_Same_2_int_L1_T1 (a:(List (Arr2 Int))) (b:(List (Arr2 Int))) (tt:Unit):St:=mkS 26 [(4,vF)] [] [] 0
def kit_Same_2_int_L1_out (a:(List (Arr2 Int))) (b:(List (Arr2 Int))) (t0:(Unit⊕Unit)):Ex×St:=match t0 with | .inl tt=>(.ex 0,kit_Same_2_int_L1_T0 a b tt) | .inr tt=>(.ret,kit_Same_2_int_L1_T1 a b tt)
theorem kit_Same_2_int_L1_sim (n:Nat) (a:(List (Arr2 Int))) (b:(List (Arr2 Int))):∀ sa r,kit_Same_2_int_L1 n a b sa=some r→CodeD Tryz.prog c_kit_Same_2_int_L1 (kit_Same_2_int_L1_S a b sa) (rk (kit_Same_2_int_L1_S a b) (kit_Same_2_int_L1_out a b) r):=by
 intro sa r h
 unfold kit_Same_2_int_L1 at h
 rcases iteN h with ⟨ha1,h⟩ | ⟨ha1,h⟩
 ·
  obtain rfl:=soI h
  exact kR ⟨ord11,[rV 4 [(13,(vI (a.length:Int))),(14,vF)]],[],[],[]⟩ [(2,⟨[],[],0,[],[],[]⟩,⟨[],[],[]⟩)] ordB_kit_Same_2_int_L1 (rkE rfl neE) (fun z=>(aL (eArr2 eI) a (aB ha1 z))) (by kernel_rfl)
 obtain ⟨xa2,gxa2,h⟩:=bindE h
 obtain ⟨xa3,gxa3,h⟩:=bindE h
 rcases iteE h with ⟨ha4,h⟩ | ⟨ha4,h⟩
 ·
  obtain rfl:=soI h
  exact kR ⟨ord11,[rV 4 [(13,(vI (a.length:Int))),(14,vT)],(6,⟨[],[25],[(19,[(vI xa2.e0),(vI xa2.e1)]),(23,[(vI xa3.e0),(vI xa3.e1)])],[(25,vT)],[],[],[],[]⟩)],[],[],[]⟩ [(1,⟨[4],[],0,[],[],[]⟩,⟨[],[],[]⟩)] ordB_kit_Same_2_int_L1 (rkE rfl neR) (fun z=>(aL (eArr2 eI) a (aB ha1 (aI (at_map (eArr2 eI) gxa2:at? (a.map (eArr2 eI)) sa=some [(vI xa2.e0),(vI xa2.e1)]) (aI (at_map (eArr2 eI) gxa3:at? (b.map (eArr2 eI)) sa=some [(vI xa3.e0),(vI xa3.e1)]) (aI ((aggEq_arr36_beq_neq xa2 xa3).trans (congrArg (fun b=>some (Value.bool b)) ha4):aggEq Tryz.prog .neq 36 [(.int .i64 xa2.e0),(.int .i64 xa2.e1)] [(.int .i64 xa3.e0),(.int .i64 xa3.e1)]=some (.bool true)) (aI (rfl:AV.v (.bool true)=AV.v (.bool true)) z))))))) (by kernel_rfl)
 obtain rfl:=soI h
 exact kR ⟨ord11,[rV 4 [(13,(vI (a.length:Int))),(14,vT)],(6,⟨[],[25],[(19,[(vI xa2.e0),(vI xa2.e1)]),(23,[(vI xa3.e0),(vI xa3.e1)])],[(25,vF)],[],[],[],[]⟩)],[],[],[]⟩ [(0,⟨[0,1,5],[],0,[],[],[]⟩,⟨[],[],[]⟩)] ordB_kit_Same_2_int_L1 rkN (fun z=>(aL (eArr2 eI) a (aB ha1 (aI (at_map (eArr2 eI) gxa2:at? (a.map (eArr2 eI)) sa=some [(vI xa2.e0),(vI xa2.e1)]) (aI (at_map (eArr2 eI) gxa3:at? (b.map (eArr2 eI)) sa=some [(vI xa3.e0),(vI xa3.e1)]) (aI ((aggEq_arr36_beq_neq xa2 xa3).trans (congrArg (fun b=>some (Value.bool b)) ha4):aggEq Tryz.prog .neq 36 [(.int .i64 xa2.e0),(.int .i64 xa2.e1)] [(.int .i64 xa3.e0),(.int .i64 xa3.e1)]=some (.bool false)) (aI (rfl:AV.v (.bool false)=AV.v (.bool false)) z))))))) (by kernel_rfl)

theorem kit_Same_2_int_sim (n:Nat) (a:(List (Arr2 Int))) (b:(List (Arr2 Int))) (r:Bool) (h:kit_Same_2_int n a b=some r):PCall Tryz.prog 11 [.sl (a.map (eArr2 eI)),.sl (b.map (eArr2 eI))] (eqA (.v (.bool r))):=by
 unfold kit_Same_2_int at h
 rcases iteE h with ⟨h1,h⟩ | ⟨h1,h⟩
 ·
  obtain rfl:=soI h
  exact kP ⟨ord11,[rV 1 [(7,(vI (a.length:Int))),(9,(vI (b.length:Int))),(10,vT)]],[],[],[]⟩ ordB11 (fun z=>(aL (eArr2 eI) a (aL (eArr2 eI) b (aB h1 z)))) (by kernel_rfl)
 obtain ⟨t2,gt2,h⟩:=bindE h
 rcases t2 with w3 | w3
 ·
  obtain rfl:=soI h
  exact kP ⟨ord11,[rV 1 [(7,(vI (a.length:Int))),(9,(vI (b.length:Int))),(10,vF)]],[],[(4,(⟨[0,1,5],[],0,[],[],[]⟩,⟨[],[],[]⟩,(.ex 0),kit_Same_2_int_L1_T0 a b w3))],[]⟩ ordB11 (fun z=>(aL (eArr2 eI) a (aL (eArr2 eI) b (aB h1 (aI (okL (pl:=polF 11) (kit_Same_2_int_L1_S a b) (kit_Same_2_int_L1_out a b) (kit_Same_2_int_L1_sim n a b) n _ (.inl w3) gt2) z))))) (by kernel_rfl)
 ·
  obtain rfl:=soI h
  exact kP ⟨ord11,[rV 1 [(7,(vI (a.length:Int))),(9,(vI (b.length:Int))),(10,vF)]],[],[(4,(⟨[0,1,5],[],0,[],[],[]⟩,⟨[],[],[]⟩,.ret,kit_Same_2_int_L1_T1 a b w3))],[]⟩ ordB11 (fun z=>(aL (eArr2 eI) a (aL (eArr2 eI) b (aB h1 (aI (okL (pl:=polF 11) (kit_Same_2_int_L1_S a b) (kit_Same_2_int_L1_out a b) (kit_Same_2_int_L1_sim n a b) n _ (.inr w3) gt2) z))))) (by kernel_rfl)

def ord13:List (Nat×PT):=[]
theorem ordB13:ordB (polF 13) ord13 (bodyOf Tryz.prog 13)=true:=by kernel_rfl
theorem ref_Rule_sim (n:Nat) (c:Cand) (a:Int) (b:Int) (r:Int) (h:ref_Rule n c a b=some r):PCall Tryz.prog 13 [(aAgg Cand.enc c),(vI a),(vI b)] (eqA ((vI r))):=by
 unfold ref_Rule at h
 obtain ⟨y1,gy1,h⟩:=bindE h
 rcases iteE h with ⟨h2,h⟩ | ⟨h2,h⟩
 ·
  obtain rfl:=soI h
  exact kP ⟨ord13,[rVC 1 [] [(11,.tup [(aAgg fencepostref10_View.enc y1.1),.v (.bool y1.2)])],rV 2 [(15,vT)]],[],[],[]⟩ ordB13 (fun z=>(aI (ref_Of_sim n c y1 gy1) (aB h2 z))) (by kernel_rfl)
 obtain ⟨y3,gy3,h⟩:=bindE h
 obtain rfl:=soI h
 exact kP ⟨ord13,[rVC 1 [] [(11,.tup [(aAgg fencepostref10_View.enc y1.1),.v (.bool y1.2)])],rV 2 [(15,vF)],rVC 4 [] [(19,(vI y3))]],[],[],[]⟩ ordB13 (fun z=>(aI (ref_Of_sim n c y1 gy1) (aB h2 (aI (ref_View_Rule_sim n y1.1 a b y3 gy3) z)))) (by kernel_rfl)

def ord14:List (Nat×PT):=[(4,(ptS [0,1,2,3,4,5,6,7,8,9,10,11,12,13,14,15,16,17,18,19,20]))]
theorem ordB14:ordB (polF 14) ord14 (bodyOf Tryz.prog 14)=true:=by kernel_rfl
theorem ppo_Holds_sim (n:Nat) (c:Cand) (a:Int) (b:Int) (rule:Int) (r:Bool) (h:ppo_Holds n c a b rule=some r):PCall Tryz.prog 14 [(aAgg Cand.enc c),(vI a),(vI b),(vI rule)] (eqA (.v (.bool r))):=by
 unfold ppo_Holds at h
 obtain ⟨y1,gy1,h⟩:=bindE h
 rcases y1 with _ | z2
 ·
  obtain ⟨y2,gy2,h⟩:=bindE h
  rcases iteE h with ⟨h3,h⟩ | ⟨h3,h⟩
  ·
   obtain rfl:=soI h
   exact kP ⟨ord14,[(1,⟨[],[],[],[],[(11,.nilp),(12,.agg [.fn 52 [] [],.fn 54 [] [],.fn 58 [] [],.fn 59 [] [],.fn 61 [] [],.fn 62 [] [],.fn 63 [] [],.fn 64 [] [],.fn 65 [] [],.fn 67 [] [],.fn 68 [] [],.fn 69 [] [],.fn 70 [] []])],[],[],[]⟩),rV 2 [(15,vT)]],[],[],[]⟩ ordB14 (fun z=>(aI (ppo_of_sim n c none gy1) (aI (ppo_rules_sim n y2 gy2) (aB h3 z)))) (by kernel_rfl)
  rcases iteE h with ⟨h4,h⟩ | ⟨h4,h⟩
  ·
   obtain rfl:=soI h
   exact kP ⟨ord14,[(1,⟨[],[],[],[],[(11,.nilp),(12,.agg [.fn 52 [] [],.fn 54 [] [],.fn 58 [] [],.fn 59 [] [],.fn 61 [] [],.fn 62 [] [],.fn 63 [] [],.fn 64 [] [],.fn 65 [] [],.fn 67 [] [],.fn 68 [] [],.fn 69 [] [],.fn 70 [] []])],[],[],[]⟩),rV 2 [(15,vF),(19,vT)]],[],[],[]⟩ ordB14 (fun z=>(aI (ppo_of_sim n c none gy1) (aI (ppo_rules_sim n y2 gy2) (aB h3 (aB h4 z))))) (by kernel_rfl)
  obtain ⟨y5,gy5,h⟩:=bindE h
  rcases iteE h with ⟨h6,h⟩ | ⟨h6,h⟩
  ·
   obtain rfl:=soI h
   exact kP ⟨ord14,[(1,⟨[],[],[],[],[(11,.nilp),(12,.agg [.fn 52 [] [],.fn 54 [] [],.fn 58 [] [],.fn 59 [] [],.fn 61 [] [],.fn 62 [] [],.fn 63 [] [],.fn 64 [] [],.fn 65 [] [],.fn 67 [] [],.fn 68 [] [],.fn 69 [] [],.fn 70 [] []])],[],[],[]⟩),rVC 2 [(15,vF),(19,vF),(25,vT)] [(23,.v (.bool y5))]],[],[],[]⟩ ordB14 (fun z=>(aI (ppo_of_sim n c none gy1) (aI (ppo_rules_sim n y2 gy2) (aB h3 (aB h4 (aI (ppo_view_ahead_sim n a b y5 gy5) (aB h6 z))))))) (by kernel_rfl)
  rcases iteE h with ⟨h7,h⟩ | ⟨h7,h⟩
  ·
   cases h
  rcases iteE h with ⟨h7,h⟩ | ⟨h7,h⟩
  ·
   cases h
  rcases iteE h with ⟨h7,h⟩ | ⟨h7,h⟩
  ·
   cases h
  rcases iteE h with ⟨h7,h⟩ | ⟨h7,h⟩
  ·
   cases h
  rcases iteE h with ⟨h7,h⟩ | ⟨h7,h⟩
  ·
   cases h
  rcases iteE h with ⟨h7,h⟩ | ⟨h7,h⟩
  ·
   cases h
  rcases iteE h with ⟨h7,h⟩ | ⟨h7,h⟩
  ·
   cases h
  rcases iteE h with ⟨h7,h⟩ | ⟨h7,h⟩
  ·
   cases h
  rcases iteE h with ⟨h7,h⟩ | ⟨h7,h⟩
  ·
   cases h
  rcases iteE h with ⟨h7,h⟩ | ⟨h7,h⟩
  ·
   cases h
  rcases iteE h with ⟨h7,h⟩ | ⟨h7,h⟩
  ·
   cases h
  rcases iteE h with ⟨h7,h⟩ | ⟨h7,h⟩
  ·
   cases h
  rcases iteE h with ⟨h7,h⟩ | ⟨h7,h⟩
  ·
   cases h
  cases h
 ·
  obtain ⟨y3,gy3,h⟩:=bindE h
  rcases iteE h with ⟨h4,h⟩ | ⟨h4,h⟩
  ·
   obtain rfl:=soI h
   exact kP ⟨ord14,[(1,⟨[],[],[],[],[(11,.fptr (ppo_view.enc z2) 0),(12,.agg [.fn 52 [] [],.fn 54 [] [],.fn 58 [] [],.fn 59 [] [],.fn 61 [] [],.fn 62 [] [],.fn 63 [] [],.fn 64 [] [],.fn 65 [] [],.fn 67 [] [],.fn 68 [] [],.fn 69 [] [],.fn 70 [] []])],[],[],[]⟩),rV 2 [(15,vT)]],[],[],[]⟩ ordB14 (fun z=>(aI (ppo_of_sim n c (some z2) gy1) (aI (ppo_rules_sim n y3 gy3) (aB h4 z)))) (by kernel_rfl)
  rcases iteE h with ⟨h5,h⟩ | ⟨h5,h⟩
  ·
   obtain rfl:=soI h
   exact kP ⟨ord14,[(1,⟨[],[],[],[],[(11,.fptr (ppo_view.enc z2) 0),(12,.agg [.fn 52 [] [],.fn 54 [] [],.fn 58 [] [],.fn 59 [] [],.fn 61 [] [],.fn 62 [] [],.fn 63 [] [],.fn 64 [] [],.fn 65 [] [],.fn 67 [] [],.fn 68 [] [],.fn 69 [] [],.fn 70 [] []])],[],[],[]⟩),rV 2 [(15,vF),(19,vT)]],[],[],[]⟩ ordB14 (fun z=>(aI (ppo_of_sim n c (some z2) gy1) (aI (ppo_rules_sim n y3 gy3) (aB h4 (aB h5 z))))) (by kernel_rfl)
  obtain ⟨y6,gy6,h⟩:=bindE h
  rcases iteE h with ⟨h7,h⟩ | ⟨h7,h⟩
  ·
   obtain rfl:=soI h
   exact kP ⟨ord14,[(1,⟨[],[],[],[],[(11,.fptr (ppo_view.enc z2) 0),(12,.agg [.fn 52 [] [],.fn 54 [] [],.fn 58 [] [],.fn 59 [] [],.fn 61 [] [],.fn 62 [] [],.fn 63 [] [],.fn 64 [] [],.fn 65 [] [],.fn 67 [] [],.fn 68 [] [],.fn 69 [] [],.fn 70 [] []])],[],[],[]⟩),rVC 2 [(15,vF),(19,vF),(25,vT)] [(23,.v (.bool y6))]],[],[],[]⟩ ordB14 (fun z=>(aI (ppo_of_sim n c (some z2) gy1) (aI (ppo_rules_sim n y3 gy3) (aB h4 (aB h5 (aI (ppo_view_ahead2_sim n z2 a b y6 gy6) (aB h7 z))))))) (by kernel_rfl)
  rcases iteE h with ⟨h8,h⟩ | ⟨h8,h⟩
  ·
   obtain ⟨x9,gx9,h⟩:=bindE h
   obtain ⟨x10,gx10,h⟩:=bindE h
   obtain ⟨y11,gy11,h⟩:=bindE h
   obtain rfl:=soI h
   exact kP ⟨ord14,[(1,⟨[],[],[],[],[(11,.fptr (ppo_view.enc z2) 0),(12,.agg [.fn 52 [] [],.fn 54 [] [],.fn 58 [] [],.fn 59 [] [],.fn 61 [] [],.fn 62 [] [],.fn 63 [] [],.fn 64 [] [],.fn 65 [] [],.fn 67 [] [],.fn 68 [] [],.fn 69 [] [],.fn 70 [] []])],[],[],[]⟩),rVC 2 [(15,vF),(19,vF),(25,vF)] [(23,.v (.bool y6))],(4,⟨[],[],[(38,(Event.enc x9)),(44,(Event.enc x10))],[(27,(vI 0))],[(45,.v (.bool y11))],[],[],[]⟩)],[],[],[]⟩ ordB14 (fun z=>(aI (ppo_of_sim n c (some z2) gy1) (aI (ppo_rules_sim n y3 gy3) (aB h4 (aB h5 (aI (ppo_view_ahead2_sim n z2 a b y6 gy6) (aB h7 (aE .i64 h8 (aM Event.enc gx9 (aM Event.enc gx10 (aI (ppo_rules_1_sim n z2 a b x9 x10 y11 gy11) z))))))))))) (by kernel_rfl)
  rcases iteE h with ⟨h8,h⟩ | ⟨h8,h⟩
  ·
   obtain ⟨x9,gx9,h⟩:=bindE h
   obtain ⟨x10,gx10,h⟩:=bindE h
   obtain ⟨y11,gy11,h⟩:=bindE h
   obtain rfl:=soI h
   exact kP ⟨ord14,[(1,⟨[],[],[],[],[(11,.fptr (ppo_view.enc z2) 0),(12,.agg [.fn 52 [] [],.fn 54 [] [],.fn 58 [] [],.fn 59 [] [],.fn 61 [] [],.fn 62 [] [],.fn 63 [] [],.fn 64 [] [],.fn 65 [] [],.fn 67 [] [],.fn 68 [] [],.fn 69 [] [],.fn 70 [] []])],[],[],[]⟩),rVC 2 [(15,vF),(19,vF),(25,vF)] [(23,.v (.bool y6))],(4,⟨[],[],[(38,(Event.enc x9)),(44,(Event.enc x10))],[(27,(vI 1))],[(45,.v (.bool y11))],[],[],[]⟩)],[],[],[]⟩ ordB14 (fun z=>(aI (ppo_of_sim n c (some z2) gy1) (aI (ppo_rules_sim n y3 gy3) (aB h4 (aB h5 (aI (ppo_view_ahead2_sim n z2 a b y6 gy6) (aB h7 (aE .i64 h8 (aM Event.enc gx9 (aM Event.enc gx10 (aI (ppo_rules_2_sim n z2 a b x9 x10 y11 gy11) z))))))))))) (by kernel_rfl)
  rcases iteE h with ⟨h8,h⟩ | ⟨h8,h⟩
  ·
   obtain ⟨x9,gx9,h⟩:=bindE h
   obtain ⟨x10,gx10,h⟩:=bindE h
   obtain ⟨y11,gy11,h⟩:=bindE h
   obtain rfl:=soI h
   exact kP ⟨ord14,[(1,⟨[],[],[],[],[(11,.fptr (ppo_view.enc z2) 0),(12,.agg [.fn 52 [] [],.fn 54 [] [],.fn 58 [] [],.fn 59 [] [],.fn 61 [] [],.fn 62 [] [],.fn 63 [] [],.fn 64 [] [],.fn 65 [] [],.fn 67 [] [],.fn 68 [] [],.fn 69 [] [],.fn 70 [] []])],[],[],[]⟩),rVC 2 [(15,vF),(19,vF),(25,vF)] [(23,.v (.bool y6))],(4,⟨[],[],[(38,(Event.enc x9)),(44,(Event.enc x10))],[(27,(vI 2))],[(45,.v (.bool y11))],[],[],[]⟩)],[],[],[]⟩ ordB14 (fun z=>(aI (ppo_of_sim n c (some z2) gy1) (aI (ppo_rules_sim n y3 gy3) (aB h4 (aB h5 (aI (ppo_view_ahead2_sim n z2 a b y6 gy6) (aB h7 (aE .i64 h8 (aM Event.enc gx9 (aM Event.enc gx10 (aI (ppo_rules_3_sim n z2 a b x9 x10 y11 gy11) z))))))))))) (by kernel_rfl)
  rcases iteE h with ⟨h8,h⟩ | ⟨h8,h⟩
  ·
   obtain ⟨x9,gx9,h⟩:=bindE h
   obtain ⟨x10,gx10,h⟩:=bindE h
   obtain ⟨y11,gy11,h⟩:=bindE h
   obtain rfl:=soI h
   exact kP ⟨ord14,[(1,⟨[],[],[],[],[(11,.fptr (ppo_view.enc z2) 0),(12,.agg [.fn 52 [] [],.fn 54 [] [],.fn 58 [] [],.fn 59 [] [],.fn 61 [] [],.fn 62 [] [],.fn 63 [] [],.fn 64 [] [],.fn 65 [] [],.fn 67 [] [],.fn 68 [] [],.fn 69 [] [],.fn 70 [] []])],[],[],[]⟩),rVC 2 [(15,vF),(19,vF),(25,vF)] [(23,.v (.bool y6))],(4,⟨[],[],[(38,(Event.enc x9)),(44,(Event.enc x10))],[(27,(vI 3))],[(45,.v (.bool y11))],[],[],[]⟩)],[],[],[]⟩ ordB14 (fun z=>(aI (ppo_of_sim n c (some z2) gy1) (aI (ppo_rules_sim n y3 gy3) (aB h4 (aB h5 (aI (ppo_view_ahead2_sim n z2 a b y6 gy6) (aB h7 (aE .i64 h8 (aM Event.enc gx9 (aM Event.enc gx10 (aI (ppo_rules_4_sim n z2 a b x9 x10 y11 gy11) z))))))))))) (by kernel_rfl)
  rcases iteE h with ⟨h8,h⟩ | ⟨h8,h⟩
  ·
   obtain ⟨x9,gx9,h⟩:=bindE h
   obtain ⟨x10,gx10,h⟩:=bindE h
   obtain ⟨y11,gy11,h⟩:=bindE h
   obtain rfl:=soI h
   exact kP ⟨ord14,[(1,⟨[],[],[],[],[(11,.fptr (ppo_view.enc z2) 0),(12,.agg [.fn 52 [] [],.fn 54 [] [],.fn 58 [] [],.fn 59 [] [],.fn 61 [] [],.fn 62 [] [],.fn 63 [] [],.fn 64 [] [],.fn 65 [] [],.fn 67 [] [],.fn 68 [] [],.fn 69 [] [],.fn 70 [] []])],[],[],[]⟩),rVC 2 [(15,vF),(19,vF),(25,vF)] [(23,.v (.bool y6))],(4,⟨[],[],[(38,(Event.enc x9)),(44,(Event.enc x10))],[(27,(vI 4))],[(45,.v (.bool y11))],[],[],[]⟩)],[],[],[]⟩ ordB14 (fun z=>(aI (ppo_of_sim n c (some z2) gy1) (aI (ppo_rules_sim n y3 gy3) (aB h4 (aB h5 (aI (ppo_view_ahead2_sim n z2 a b y6 gy6) (aB h7 (aE .i64 h8 (aM Event.enc gx9 (aM Event.enc gx10 (aI (ppo_rules_5_sim n z2 a b x9 x10 y11 gy11) z))))))))))) (by kernel_rfl)
  rcases iteE h with ⟨h8,h⟩ | ⟨h8,h⟩
  ·
   obtain ⟨x9,gx9,h⟩:=bindE h
   obtain ⟨x10,gx10,h⟩:=bindE h
   obtain ⟨y11,gy11,h⟩:=bindE h
   obtain rfl:=soI h
   exact kP ⟨ord14,[(1,⟨[],[],[],[],[(11,.fptr (ppo_view.enc z2) 0),(12,.agg [.fn 52 [] [],.fn 54 [] [],.fn 58 [] [],.fn 59 [] [],.fn 61 [] [],.fn 62 [] [],.fn 63 [] [],.fn 64 [] [],.fn 65 [] [],.fn 67 [] [],.fn 68 [] [],.fn 69 [] [],.fn 70 [] []])],[],[],[]⟩),rVC 2 [(15,vF),(19,vF),(25,vF)] [(23,.v (.bool y6))],(4,⟨[],[],[(38,(Event.enc x9)),(44,(Event.enc x10))],[(27,(vI 5))],[(45,.v (.bool y11))],[],[],[]⟩)],[],[],[]⟩ ordB14 (fun z=>(aI (ppo_of_sim n c (some z2) gy1) (aI (ppo_rules_sim n y3 gy3) (aB h4 (aB h5 (aI (ppo_view_ahead2_sim n z2 a b y6 gy6) (aB h7 (aE .i64 h8 (aM Event.enc gx9 (aM Event.enc gx10 (aI (ppo_rules_6_sim n z2 a b x9 x10 y11 gy11) z))))))))))) (by kernel_rfl)
  rcases iteE h with ⟨h8,h⟩ | ⟨h8,h⟩
  ·
   obtain ⟨x9,gx9,h⟩:=bindE h
   obtain ⟨x10,gx10,h⟩:=bindE h
   obtain ⟨y11,gy11,h⟩:=bindE h
   obtain rfl:=soI h
   exact kP ⟨ord14,[(1,⟨[],[],[],[],[(11,.fptr (ppo_view.enc z2) 0),(12,.agg [.fn 52 [] [],.fn 54 [] [],.fn 58 [] [],.fn 59 [] [],.fn 61 [] [],.fn 62 [] [],.fn 63 [] [],.fn 64 [] [],.fn 65 [] [],.fn 67 [] [],.fn 68 [] [],.fn 69 [] [],.fn 70 [] []])],[],[],[]⟩),rVC 2 [(15,vF),(19,vF),(25,vF)] [(23,.v (.bool y6))],(4,⟨[],[],[(38,(Event.enc x9)),(44,(Event.enc x10))],[(27,(vI 6))],[(45,.v (.bool y11))],[],[],[]⟩)],[],[],[]⟩ ordB14 (fun z=>(aI (ppo_of_sim n c (some z2) gy1) (aI (ppo_rules_sim n y3 gy3) (aB h4 (aB h5 (aI (ppo_view_ahead2_sim n z2 a b y6 gy6) (aB h7 (aE .i64 h8 (aM Event.enc gx9 (aM Event.enc gx10 (aI (ppo_rules_7_sim n z2 a b x9 x10 y11 gy11) z))))))))))) (by kernel_rfl)
  rcases iteE h with ⟨h8,h⟩ | ⟨h8,h⟩
  ·
   obtain ⟨x9,gx9,h⟩:=bindE h
   obtain ⟨x10,gx10,h⟩:=bindE h
   obtain ⟨y11,gy11,h⟩:=bindE h
   obtain rfl:=soI h
   exact kP ⟨ord14,[(1,⟨[],[],[],[],[(11,.fptr (ppo_view.enc z2) 0),(12,.agg [.fn 52 [] [],.fn 54 [] [],.fn 58 [] [],.fn 59 [] [],.fn 61 [] [],.fn 62 [] [],.fn 63 [] [],.fn 64 [] [],.fn 65 [] [],.fn 67 [] [],.fn 68 [] [],.fn 69 [] [],.fn 70 [] []])],[],[],[]⟩),rVC 2 [(15,vF),(19,vF),(25,vF)] [(23,.v (.bool y6))],(4,⟨[],[],[(38,(Event.enc x9)),(44,(Event.enc x10))],[(27,(vI 7))],[(45,.v (.bool y11))],[],[],[]⟩)],[],[],[]⟩ ordB14 (fun z=>(aI (ppo_of_sim n c (some z2) gy1) (aI (ppo_rules_sim n y3 gy3) (aB h4 (aB h5 (aI (ppo_view_ahead2_sim n z2 a b y6 gy6) (aB h7 (aE .i64 h8 (aM Event.enc gx9 (aM Event.enc gx10 (aI (ppo_rules_8_sim n z2 a b x9 x10 y11 gy11) z))))))))))) (by kernel_rfl)
  rcases iteE h with ⟨h8,h⟩ | ⟨h8,h⟩
  ·
   obtain ⟨x9,gx9,h⟩:=bindE h
   obtain ⟨x10,gx10,h⟩:=bindE h
   obtain ⟨y11,gy11,h⟩:=bindE h
   obtain rfl:=soI h
   exact kP ⟨ord14,[(1,⟨[],[],[],[],[(11,.fptr (ppo_view.enc z2) 0),(12,.agg [.fn 52 [] [],.fn 54 [] [],.fn 58 [] [],.fn 59 [] [],.fn 61 [] [],.fn 62 [] [],.fn 63 [] [],.fn 64 [] [],.fn 65 [] [],.fn 67 [] [],.fn 68 [] [],.fn 69 [] [],.fn 70 [] []])],[],[],[]⟩),rVC 2 [(15,vF),(19,vF),(25,vF)] [(23,.v (.bool y6))],(4,⟨[],[],[(38,(Event.enc x9)),(44,(Event.enc x10))],[(27,(vI 8))],[(45,.v (.bool y11))],[],[],[]⟩)],[],[],[]⟩ ordB14 (fun z=>(aI (ppo_of_sim n c (some z2) gy1) (aI (ppo_rules_sim n y3 gy3) (aB h4 (aB h5 (aI (ppo_view_ahead2_sim n z2 a b y6 gy6) (aB h7 (aE .i64 h8 (aM Event.enc gx9 (aM Event.enc gx10 (aI (ppo_rules_9_sim n z2 a b x9 x10 y11 gy11) z))))))))))) (by kernel_rfl)
  rcases iteE h with ⟨h8,h⟩ | ⟨h8,h⟩
  ·
   obtain ⟨x9,gx9,h⟩:=bindE h
   obtain ⟨x10,gx10,h⟩:=bindE h
   obtain ⟨y11,gy11,h⟩:=bindE h
   obtain rfl:=soI h
   exact kP ⟨ord14,[(1,⟨[],[],[],[],[(11,.fptr (ppo_view.enc z2) 0),(12,.agg [.fn 52 [] [],.fn 54 [] [],.fn 58 [] [],.fn 59 [] [],.fn 61 [] [],.fn 62 [] [],.fn 63 [] [],.fn 64 [] [],.fn 65 [] [],.fn 67 [] [],.fn 68 [] [],.fn 69 [] [],.fn 70 [] []])],[],[],[]⟩),rVC 2 [(15,vF),(19,vF),(25,vF)] [(23,.v (.bool y6))],(4,⟨[],[],[(38,(Event.enc x9)),(44,(Event.enc x10))],[(27,(vI 9))],[(45,.v (.bool y11))],[],[],[]⟩)],[],[],[]⟩ ordB14 (fun z=>(aI (ppo_of_sim n c (some z2) gy1) (aI (ppo_rules_sim n y3 gy3) (aB h4 (aB h5 (aI (ppo_view_ahead2_sim n z2 a b y6 gy6) (aB h7 (aE .i64 h8 (aM Event.enc gx9 (aM Event.enc gx10 (aI (ppo_rules_10_sim n z2 a b x9 x10 y11 gy11) z))))))))))) (by kernel_rfl)
  rcases iteE h with ⟨h8,h⟩ | ⟨h8,h⟩
  ·
   obtain ⟨x9,gx9,h⟩:=bindE h
   obtain ⟨x10,gx10,h⟩:=bindE h
   obtain ⟨y11,gy11,h⟩:=bindE h
   obtain rfl:=soI h
   exact kP ⟨ord14,[(1,⟨[],[],[],[],[(11,.fptr (ppo_view.enc z2) 0),(12,.agg [.fn 52 [] [],.fn 54 [] [],.fn 58 [] [],.fn 59 [] [],.fn 61 [] [],.fn 62 [] [],.fn 63 [] [],.fn 64 [] [],.fn 65 [] [],.fn 67 [] [],.fn 68 [] [],.fn 69 [] [],.fn 70 [] []])],[],[],[]⟩),rVC 2 [(15,vF),(19,vF),(25,vF)] [(23,.v (.bool y6))],(4,⟨[],[],[(38,(Event.enc x9)),(44,(Event.enc x10))],[(27,(vI 10))],[(45,.v (.bool y11))],[],[],[]⟩)],[],[],[]⟩ ordB14 (fun z=>(aI (ppo_of_sim n c (some z2) gy1) (aI (ppo_rules_sim n y3 gy3) (aB h4 (aB h5 (aI (ppo_view_ahead2_sim n z2 a b y6 gy6) (aB h7 (aE .i64 h8 (aM Event.enc gx9 (aM Event.enc gx10 (aI (ppo_rules_11_sim n z2 a b x9 x10 y11 gy11) z))))))))))) (by kernel_rfl)
  rcases iteE h with ⟨h8,h⟩ | ⟨h8,h⟩
  ·
   obtain ⟨x9,gx9,h⟩:=bindE h
   obtain ⟨x10,gx10,h⟩:=bindE h
   obtain ⟨y11,gy11,h⟩:=bindE h
   obtain rfl:=soI h
   exact kP ⟨ord14,[(1,⟨[],[],[],[],[(11,.fptr (ppo_view.enc z2) 0),(12,.agg [.fn 52 [] [],.fn 54 [] [],.fn 58 [] [],.fn 59 [] [],.fn 61 [] [],.fn 62 [] [],.fn 63 [] [],.fn 64 [] [],.fn 65 [] [],.fn 67 [] [],.fn 68 [] [],.fn 69 [] [],.fn 70 [] []])],[],[],[]⟩),rVC 2 [(15,vF),(19,vF),(25,vF)] [(23,.v (.bool y6))],(4,⟨[],[],[(38,(Event.enc x9)),(44,(Event.enc x10))],[(27,(vI 11))],[(45,.v (.bool y11))],[],[],[]⟩)],[],[],[]⟩ ordB14 (fun z=>(aI (ppo_of_sim n c (some z2) gy1) (aI (ppo_rules_sim n y3 gy3) (aB h4 (aB h5 (aI (ppo_view_ahead2_sim n z2 a b y6 gy6) (aB h7 (aE .i64 h8 (aM Event.enc gx9 (aM Event.enc gx10 (aI (ppo_rules_12_sim n z2 a b x9 x10 y11 gy11) z))))))))))) (by kernel_rfl)
  rcases iteE h with ⟨h8,h⟩ | ⟨h8,h⟩
  ·
   obtain ⟨x9,gx9,h⟩:=bindE h
   obtain ⟨x10,gx10,h⟩:=bindE h
   obtain ⟨y11,gy11,h⟩:=bindE h
   obtain rfl:=soI h
   exact kP ⟨ord14,[(1,⟨[],[],[],[],[(11,.fptr (ppo_view.enc z2) 0),(12,.agg [.fn 52 [] [],.fn 54 [] [],.fn 58 [] [],.fn 59 [] [],.fn 61 [] [],.fn 62 [] [],.fn 63 [] [],.fn 64 [] [],.fn 65 [] [],.fn 67 [] [],.fn 68 [] [],.fn 69 [] [],.fn 70 [] []])],[],[],[]⟩),rVC 2 [(15,vF),(19,vF),(25,vF)] [(23,.v (.bool y6))],(4,⟨[],[],[(38,(Event.enc x9)),(44,(Event.enc x10))],[(27,(vI 12))],[(45,.v (.bool y11))],[],[],[]⟩)],[],[],[]⟩ ordB14 (fun z=>(aI (ppo_of_sim n c (some z2) gy1) (aI (ppo_rules_sim n y3 gy3) (aB h4 (aB h5 (aI (ppo_view_ahead2_sim n z2 a b y6 gy6) (aB h7 (aE .i64 h8 (aM Event.enc gx9 (aM Event.enc gx10 (aI (ppo_rules_13_sim n z2 a b x9 x10 y11 gy11) z))))))))))) (by kernel_rfl)
  cases h

def ord15:List (Nat×PT):=[]
theorem ordB15:ordB (polF 15) ord15 (bodyOf Tryz.prog 15)=true:=by kernel_rfl
theorem ref_Holds_sim (n:Nat) (c:Cand) (a:Int) (b:Int) (rule:Int) (r:Bool) (h:ref_Holds n c a b rule=some r):PCall Tryz.prog 15 [(aAgg Cand.enc c),(vI a),(vI b),(vI rule)] (eqA (.v (.bool r))):=by
 unfold ref_Holds at h
 obtain ⟨y1,gy1,h⟩:=bindE h
 rcases iteN h with ⟨h2,h⟩ | ⟨h2,h⟩
 ·
  obtain rfl:=soI h
  exact kP ⟨ord15,[rVC 1 [] [(13,.tup [(aAgg fencepostref10_View.enc y1.1),.v (.bool y1.2)])],rV 2 [(17,vF)]],[],[],[]⟩ ordB15 (fun z=>(aI (ref_Of_sim n c y1 gy1) (aB h2 z))) (by kernel_rfl)
 obtain ⟨y3,gy3,h⟩:=bindE h
 obtain rfl:=soI h
 exact kP ⟨ord15,[rVC 1 [] [(13,.tup [(aAgg fencepostref10_View.enc y1.1),.v (.bool y1.2)])],rVC 2 [(17,vT)] [(22,.v (.bool y3))]],[],[],[]⟩ ordB15 (fun z=>(aI (ref_Of_sim n c y1 gy1) (aB h2 (aI (ref_View_Holds_sim n y1.1 a b rule y3 gy3) z)))) (by kernel_rfl)

def ord38:List (Nat×PT):=[]
theorem ordB38:ordB (polF 38) ord38 (bodyOf Tryz.prog 38)=true:=by kernel_rfl
theorem ppo_view_leads_sim (n:Nat) (a:Int) (b:Int) (r:Bool) (h:ppo_view_leads n a b=some r):PCall Tryz.prog 38 [.nilp,(vI a),(vI b)] (eqA (.v (.bool r))):=by
 unfold ppo_view_leads at h
 obtain ⟨y1,gy1,h⟩:=bindE h
 rcases iteN h with ⟨h2,h⟩ | ⟨h2,h⟩
 ·
  cases h
 obtain rfl:=soI h
 exact kP ⟨ord38,[rVC 1 [(15,vT)] [(14,.v (.bool y1))]],[],[],[]⟩ ordB38 (fun z=>(aI (ppo_view_ahead_sim n a b y1 gy1) (aB h2 z))) (by kernel_rfl)

def ord74:List (Nat×PT):=[(0,(ptS [0,1,2,3,4,5,6,7,8,9,10]))]
theorem ordB74:ordB (polF 74) ord74 (bodyOf Tryz.prog 74)=true:=by kernel_rfl
def ppo_set_put_S_R (n_:Int) (ob:(List Int)) (y:(List Int)):AV×List Ob:=(.tup [],[.arr true 1 (y.map (eInt .u64))])
theorem ppo_set_put_S_sim (n:Nat) (n_:Int) (ob:(List Int)) (y:(List Int)) (h:ppo_set_put_S n n_ ob=some y):SD Tryz.prog 74 [.mf 0,(vI n_)] [.arr true 1 (ob.map (eInt .u64))] (fun r' o'=>r'=(ppo_set_put_S_R n_ ob y).1∧o'=(ppo_set_put_S_R n_ ob y).2):=by
 unfold ppo_set_put_S at h
 obtain ⟨x1,gx1,h⟩:=bindE h
 obtain ⟨h2,h⟩:=grdE h
 obtain rfl:=soI h
 exact kS ⟨ord74,[(0,⟨[],[11],[(7,[(vU x1)]),(8,[(vU x1)]),(13,[(vU x1)]),(1000013,[(vU x1)])],[],[],[],[(1000013,(0,(ob.set ((quoW .i64 n_ 64)).toNat (orW .u64 x1 (shlW .u64 1 (remW .i64 n_ 64)))).map (eInt .u64)))],[]⟩)],[],[],[]⟩ ordB74 ⟨rfl,rfl⟩ (fun z=>(aM (eInt .u64) gx1 (aN (eInt .u64) gx1 (aI h2 (aM (eInt .u64) gx1 (aN (eInt .u64) gx1 (aI (set_map (eInt .u64) ob (((quoW .i64 n_ 64)).toNat) (orW .u64 x1 (shlW .u64 1 (remW .i64 n_ 64)))) z))))))) (by kernel_rfl)

def ord90:List (Nat×PT):=[]
theorem ordB90:ordB (polF 90) ord90 (bodyOf Tryz.prog 90)=true:=by kernel_rfl
theorem math_bits_OnesCount64_sim (n:Nat) (x:Int) (r:Int) (h:math_bits_OnesCount64 n x=some r):PCall Tryz.prog 90 [(vU x)] (eqA ((vI r))):=by
 unfold math_bits_OnesCount64 at h
 obtain rfl:=soI h
 exact kP ⟨ord90,[],[],[],[]⟩ ordB90 (fun z=>z) (by kernel_rfl)

def ord75:List (Nat×PT):=[]
theorem ordB75:ordB (polF 75) ord75 (bodyOf Tryz.prog 75)=true:=by kernel_rfl
noncomputable def c_ppo_set_count_L1:Code:=sub (bodyOf Tryz.prog 75) [1,0,1,0,0]
theorem ordB_ppo_set_count_L1:ordB (polF 75) ord75 c_ppo_set_count_L1=true:=by kernel_rfl
def ppo_set_count_L1_S (s_:(List Int)) (sa:Int×Int):St:=mkS 17 [(2,(vI sa.1)),(5,.sl (s_.map (eInt .u64))),(6,(vI (s_.length:Int))),(7,(vI sa.2))] [] [] 0
def ppo_set_count_L1_T0 (s_:(List Int)) (tt:Int):St:=mkS 17 [(2,(vI tt))] [] [] 0
def ppo_set_count_L1_out (s_:(List Int)) (tt:Int):Ex×St:=(.ex 0,ppo_set_count_L1_T0 s_ tt)
theorem ppo_set_count_L1_sim (n:Nat) (s_:(List Int)):∀ sa r,ppo_set_count_L1 n s_ sa=some r→CodeD Tryz.prog c_ppo_set_count_L1 (ppo_set_count_L1_S s_ sa) (rk (ppo_set_count_L1_S s_) (ppo_set_count_L1_out s_) r):=by
 intro sa r h
 unfold ppo_set_count_L1 at h
 rcases iteN h with ⟨ha1,h⟩ | ⟨ha1,h⟩
 ·
  obtain rfl:=soI h
  exact kR ⟨ord75,[rV 2 [(8,vF)]],[],[],[]⟩ [(2,⟨[2],[],0,[],[],[]⟩,⟨[],[],[]⟩)] ordB_ppo_set_count_L1 (rkE rfl neE) (fun z=>(aB ha1 z)) (by kernel_rfl)
 obtain ⟨xa2,gxa2,h⟩:=bindE h
 obtain ⟨ya3,gya3,h⟩:=bindE h
 obtain rfl:=soI h
 exact kR ⟨ord75,[rV 2 [(8,vT)],(3,⟨[],[],[(9,[(vU xa2)])],[],[],[],[],[]⟩),rVC 4 [] [(13,(vI ya3))]],[],[],[]⟩ [(0,⟨[2,5,6,7],[],0,[],[],[]⟩,⟨[],[],[]⟩)] ordB_ppo_set_count_L1 rkN (fun z=>(aB ha1 (aM (eInt .u64) gxa2 (aI (math_bits_OnesCount64_sim n xa2 ya3 gya3) z)))) (by kernel_rfl)

theorem ppo_set_count_sim (n:Nat) (s_:(List Int)) (r:Int) (h:ppo_set_count n s_=some r):PCall Tryz.prog 75 [.sl (s_.map (eInt .u64))] (eqA ((vI r))):=by
 unfold ppo_set_count at h
 obtain ⟨t1,gt1,h⟩:=bindE h
 obtain rfl:=soI h
 exact kP ⟨ord75,[rV 1 [(6,(vI (s_.length:Int)))]],[],[(2,(⟨[2,5,6,7],[],0,[],[],[]⟩,⟨[],[],[]⟩,(.ex 0),ppo_set_count_L1_T0 s_ t1))],[]⟩ ordB75 (fun z=>(aL (eInt .u64) s_ (aI (okL (pl:=polF 75) (ppo_set_count_L1_S s_) (ppo_set_count_L1_out s_) (ppo_set_count_L1_sim n s_) n _ t1 gt1) z))) (by kernel_rfl)

def ord76:List (Nat×PT):=[]
theorem ordB76:ordB (polF 76) ord76 (bodyOf Tryz.prog 76)=true:=by kernel_rfl
theorem ppo_set_has_sim (n:Nat) (s_:(List Int)) (n_:Int) (r:Bool) (h:ppo_set_has n s_ n_=some r):PCall Tryz.prog 76 [.sl (s_.map (eInt .u64)),(vI n_)] (eqA (.v (.bool r))):=by
 unfold ppo_set_has at h
 obtain ⟨x1,gx1,h⟩:=bindE h
 obtain ⟨h2,h⟩:=grdE h
 obtain rfl:=soI h
 exact kP ⟨ord76,[(1,⟨[],[12],[(8,[(vU x1)])],[],[],[],[],[]⟩)],[],[],[]⟩ ordB76 (fun z=>(aM (eInt .u64) gx1 (aI h2 z))) (by kernel_rfl)

noncomputable def c_ppo_view_leads2_L1:Code:=sub (bodyOf Tryz.prog 38) [1,1,1,1,0,1,0,0]
noncomputable def c_ppo_view_leads2_L2:Code:=sub c_ppo_view_leads2_L1 [1,0,1,1,0,0]
noncomputable def c_ppo_view_leads2_L3:Code:=sub c_ppo_view_leads2_L2 [1,0,0,1,0,0]
theorem ordB_ppo_view_leads2_L3:ordB (polF 38) ord38 c_ppo_view_leads2_L3=true:=by kernel_rfl
def ppo_view_leads2_L3_S (v:ppo_view) (a:Int) (b:Int) (ya3:Int) (sd:(List Int)×Int×Int):St:=mkS 68 [(0,.fptr (ppo_view.enc v) 0),(1,(vI a)),(2,(vI b)),(7,.mf 0),(8,(vI ya3)),(9,(vI sd.2.2)),(10,(vI sd.2.1))] [] [.arr true 1 (sd.1.map (eInt .u64))] 0
def ppo_view_leads2_L3_T0 (v:ppo_view) (a:Int) (b:Int) (ya3:Int) (tt:(List Int)×Int):St:=mkS 68 [(0,.fptr (ppo_view.enc v) 0),(1,(vI a)),(2,(vI b)),(7,.mf 0),(8,(vI ya3)),(9,(vI tt.2))] [] [.arr true 1 (tt.1.map (eInt .u64))] 0
def ppo_view_leads2_L3_out (v:ppo_view) (a:Int) (b:Int) (ya3:Int) (tt:((List Int)×Int)):Ex×St:=(.ex 4,ppo_view_leads2_L3_T0 v a b ya3 tt)
theorem ppo_view_leads2_L3_sim (n:Nat) (v:ppo_view) (a:Int) (b:Int) (ya3:Int):∀ sd r,ppo_view_leads2_L3 n v a b ya3 sd=some r→CodeD Tryz.prog c_ppo_view_leads2_L3 (ppo_view_leads2_L3_S v a b ya3 sd) (rk (ppo_view_leads2_L3_S v a b ya3) (ppo_view_leads2_L3_out v a b ya3) r):=by
 intro sd r h
 unfold ppo_view_leads2_L3 at h
 rcases iteN h with ⟨hd1,h⟩ | ⟨hd1,h⟩
 ·
  obtain rfl:=soI h
  exact kR ⟨ord38,[rV 12 [(44,vF)]],[],[],[]⟩ [(6,⟨[0,1,2,7,8,9],[],1,[],[],[]⟩,⟨[],[],[]⟩)] ordB_ppo_view_leads2_L3 (rkE rfl neE) (fun z=>(aB hd1 z)) (by kernel_rfl)
 obtain ⟨yd2,gyd2,h⟩:=bindE h
 rcases iteN h with ⟨hd3,h⟩ | ⟨hd3,h⟩
 ·
  obtain rfl:=soI h
  exact kR ⟨ord38,[rVC 12 [(44,vT),(48,vF)] [(47,.v (.bool yd2))]],[],[],[]⟩ [(6,⟨[0,1,2,7,8,9],[],1,[],[],[]⟩,⟨[],[],[]⟩)] ordB_ppo_view_leads2_L3 (rkE rfl neE) (fun z=>(aB hd1 (aI (ppo_set_has_sim n sd.1 sd.2.2 yd2 gyd2) (aB hd3 z)))) (by kernel_rfl)
 obtain ⟨yd4,gyd4,h⟩:=bindE h
 rcases iteN h with ⟨hd5,h⟩ | ⟨hd5,h⟩
 ·
  obtain rfl:=soI h
  exact kR ⟨ord38,[rVC 12 [(44,vT),(48,vT)] [(47,.v (.bool yd2))],rVC 14 [(55,vF)] [(53,.v (.bool yd4))]],[],[],[]⟩ [(0,⟨[0,1,2,7,8,9,10],[],1,[],[],[]⟩,⟨[],[],[]⟩)] ordB_ppo_view_leads2_L3 rkN (fun z=>(aB hd1 (aI (ppo_set_has_sim n sd.1 sd.2.2 yd2 gyd2) (aB hd3 (aI (ppo_set_has_sim n sd.1 sd.2.1 yd4 gyd4) (aB hd5 z)))))) (by kernel_rfl)
 obtain ⟨yd6,gyd6,h⟩:=bindE h
 rcases iteN h with ⟨hd7,h⟩ | ⟨hd7,h⟩
 ·
  obtain rfl:=soI h
  exact kR ⟨ord38,[rVC 12 [(44,vT),(48,vT)] [(47,.v (.bool yd2))],rVC 14 [(55,vT),(61,vF)] [(53,.v (.bool yd4)),(59,(vI yd6))]],[],[],[]⟩ [(0,⟨[0,1,2,7,8,9,10],[],1,[],[],[]⟩,⟨[],[],[]⟩)] ordB_ppo_view_leads2_L3 rkN (fun z=>(aB hd1 (aI (ppo_set_has_sim n sd.1 sd.2.2 yd2 gyd2) (aB hd3 (aI (ppo_set_has_sim n sd.1 sd.2.1 yd4 gyd4) (aB hd5 (aI (ppo_view_rule2_sim n v sd.2.2 sd.2.1 yd6 gyd6) (aB hd7 z)))))))) (by kernel_rfl)
 obtain ⟨yd8,gyd8,h⟩:=bindE h
 obtain rfl:=soI h
 exact kR ⟨ord38,[rVC 12 [(44,vT),(48,vT)] [(47,.v (.bool yd2))],rVC 14 [(55,vT),(61,vT)] [(53,.v (.bool yd4)),(59,(vI yd6))],(15,⟨[],[],[],[],[],[(64,(.tup [],[.arr true 1 (yd8.map (eInt .u64))]))],[],[]⟩)],[],[],[]⟩ [(0,⟨[0,1,2,7,8,9,10],[],1,[],[],[]⟩,⟨[],[],[]⟩)] ordB_ppo_view_leads2_L3 rkN (fun z=>(aB hd1 (aI (ppo_set_has_sim n sd.1 sd.2.2 yd2 gyd2) (aB hd3 (aI (ppo_set_has_sim n sd.1 sd.2.1 yd4 gyd4) (aB hd5 (aI (ppo_view_rule2_sim n v sd.2.2 sd.2.1 yd6 gyd6) (aB hd7 (aI (ppo_set_put_S_sim n sd.2.1 sd.1 yd8 gyd8) z))))))))) (by kernel_rfl)

theorem ordB_ppo_view_leads2_L2:ordB (polF 38) ord38 c_ppo_view_leads2_L2=true:=by kernel_rfl
def ppo_view_leads2_L2_S (v:ppo_view) (a:Int) (b:Int) (ya3:Int) (sb:(List Int)×Int):St:=mkS 68 [(0,.fptr (ppo_view.enc v) 0),(1,(vI a)),(2,(vI b)),(7,.mf 0),(8,(vI ya3)),(9,(vI sb.2))] [] [.arr true 1 (sb.1.map (eInt .u64))] 0
def ppo_view_leads2_L2_T0 (v:ppo_view) (a:Int) (b:Int) (ya3:Int) (tt:(List Int)):St:=mkS 68 [(0,.fptr (ppo_view.enc v) 0),(1,(vI a)),(2,(vI b)),(7,.mf 0),(8,(vI ya3))] [] [.arr true 1 (tt.map (eInt .u64))] 0
def ppo_view_leads2_L2_out (v:ppo_view) (a:Int) (b:Int) (ya3:Int) (tt:((List Int))):Ex×St:=(.ex 2,ppo_view_leads2_L2_T0 v a b ya3 tt)
theorem ppo_view_leads2_L2_sim (n:Nat) (v:ppo_view) (a:Int) (b:Int) (ya3:Int):∀ sb r,ppo_view_leads2_L2 n v a b ya3 sb=some r→CodeD Tryz.prog c_ppo_view_leads2_L2 (ppo_view_leads2_L2_S v a b ya3 sb) (rk (ppo_view_leads2_L2_S v a b ya3) (ppo_view_leads2_L2_out v a b ya3) r):=by
 intro sb r h
 unfold ppo_view_leads2_L2 at h
 rcases iteN h with ⟨hb1,h⟩ | ⟨hb1,h⟩
 ·
  obtain rfl:=soI h
  exact kR ⟨ord38,[rV 9 [(36,vF)]],[],[],[]⟩ [(4,⟨[0,1,2,7,8],[],1,[],[],[]⟩,⟨[],[],[]⟩)] ordB_ppo_view_leads2_L2 (rkE rfl neE) (fun z=>(aB hb1 z)) (by kernel_rfl)
 obtain ⟨tb2,gtb2,h⟩:=bindE h
 obtain rfl:=soI h
 exact kR ⟨ord38,[rV 9 [(36,vT)]],[],[(12,(⟨[0,1,2,7,8,9,10],[],1,[],[],[]⟩,⟨[],[],[]⟩,(.ex 4),ppo_view_leads2_L3_T0 v a b ya3 tb2))],[]⟩ [(0,⟨[0,1,2,7,8,9],[],1,[],[],[]⟩,⟨[],[],[]⟩)] ordB_ppo_view_leads2_L2 rkN (fun z=>(aB hb1 (aI (okL (pl:=polF 38) (ppo_view_leads2_L3_S v a b ya3) (ppo_view_leads2_L3_out v a b ya3) (ppo_view_leads2_L3_sim n v a b ya3) n _ tb2 gtb2) z))) (by kernel_rfl)

theorem ordB_ppo_view_leads2_L1:ordB (polF 38) ord38 c_ppo_view_leads2_L1=true:=by kernel_rfl
def ppo_view_leads2_L1_S (v:ppo_view) (a:Int) (b:Int) (sa:(List Int)×Int):St:=mkS 68 [(0,.fptr (ppo_view.enc v) 0),(1,(vI a)),(2,(vI b)),(7,.mf 0),(8,(vI sa.2))] [] [.arr true 1 (sa.1.map (eInt .u64))] 0
def ppo_view_leads2_L1_T0 (v:ppo_view) (a:Int) (b:Int) (tt:(List Int)):St:=mkS 68 [(2,(vI b)),(7,.mf 0)] [] [.arr true 1 (tt.map (eInt .u64))] 0
def ppo_view_leads2_L1_out (v:ppo_view) (a:Int) (b:Int) (tt:((List Int))):Ex×St:=(.ex 0,ppo_view_leads2_L1_T0 v a b tt)
theorem ppo_view_leads2_L1_sim (n:Nat) (v:ppo_view) (a:Int) (b:Int):∀ sa r,ppo_view_leads2_L1 n v a b sa=some r→CodeD Tryz.prog c_ppo_view_leads2_L1 (ppo_view_leads2_L1_S v a b sa) (rk (ppo_view_leads2_L1_S v a b) (ppo_view_leads2_L1_out v a b) r):=by
 intro sa r h
 unfold ppo_view_leads2_L1 at h
 obtain ⟨ya1,gya1,h⟩:=bindE h
 rcases iteN h with ⟨ha2,h⟩ | ⟨ha2,h⟩
 ·
  obtain rfl:=soI h
  exact kR ⟨ord38,[rVC 6 [(30,vF)] [(29,(vI ya1))]],[],[],[]⟩ [(2,⟨[2,7],[],1,[],[],[]⟩,⟨[],[],[]⟩)] ordB_ppo_view_leads2_L1 (rkE rfl neE) (fun z=>(aI (ppo_set_count_sim n sa.1 ya1 gya1) (aB ha2 z))) (by kernel_rfl)
 obtain ⟨ya3,gya3,h⟩:=bindE h
 obtain ⟨ta4,gta4,h⟩:=bindE h
 obtain rfl:=soI h
 exact kR ⟨ord38,[rVC 6 [(30,vT)] [(29,(vI ya1))],rVC 7 [] [(32,(vI ya3))]],[],[(9,(⟨[0,1,2,7,8,9],[],1,[],[],[]⟩,⟨[],[],[]⟩,(.ex 2),ppo_view_leads2_L2_T0 v a b ya3 ta4))],[]⟩ [(0,⟨[0,1,2,7,8],[],1,[],[],[]⟩,⟨[],[],[]⟩)] ordB_ppo_view_leads2_L1 rkN (fun z=>(aI (ppo_set_count_sim n sa.1 ya1 gya1) (aB ha2 (aI (ppo_set_count_sim n sa.1 ya3 gya3) (aI (okL (pl:=polF 38) (ppo_view_leads2_L2_S v a b ya3) (ppo_view_leads2_L2_out v a b ya3) (ppo_view_leads2_L2_sim n v a b ya3) n _ ta4 gta4) z))))) (by kernel_rfl)

theorem ppo_view_leads2_sim (n:Nat) (v:ppo_view) (a:Int) (b:Int) (r:Bool) (h:ppo_view_leads2 n v a b=some r):PCall Tryz.prog 38 [.fptr (ppo_view.enc v) 0,(vI a),(vI b)] (eqA (.v (.bool r))):=by
 unfold ppo_view_leads2 at h
 obtain ⟨y1,gy1,h⟩:=bindE h
 rcases iteE h with ⟨h2,h⟩ | ⟨h2,h⟩
 ·
  obtain rfl:=soI h
  exact kP ⟨ord38,[rVC 1 [(15,vT)] [(14,.v (.bool y1))]],[],[],[]⟩ ordB38 (fun z=>(aI (ppo_view_ahead2_sim n v a b y1 gy1) (aB h2 z))) (by kernel_rfl)
 obtain ⟨h3,h⟩:=grdE h
 obtain ⟨y4,gy4,h⟩:=bindE h
 obtain ⟨t5,gt5,h⟩:=bindE h
 obtain ⟨y6,gy6,h⟩:=bindE h
 obtain rfl:=soI h
 exact kP ⟨ord38,[rVC 1 [(15,vF)] [(14,.v (.bool y1))],(3,⟨[],[23],[],[(20,(vI (v.all.length:Int)))],[],[],[(23,(0,(List.replicate ((addW .i64 (quoW .i64 (v.all.length:Int) 64) 1)).toNat 0).map (eInt .u64)))],[]⟩),(4,⟨[],[],[],[],[],[(26,(.tup [],[.arr true 1 (y4.map (eInt .u64))]))],[],[]⟩),rVC 16 [] [(67,.v (.bool y6))]],[],[(6,(⟨[0,1,2,7,8],[],1,[],[],[]⟩,⟨[],[],[]⟩,(.ex 0),ppo_view_leads2_L1_T0 v a b t5))],[]⟩ ordB38 (fun z=>(aI (ppo_view_ahead2_sim n v a b y1 gy1) (aB h2 (aL Event.enc v.all (aI h3 (aI (rep_map (eInt .u64) _ 0:List.replicate ((addW .i64 (quoW .i64 (v.all.length:Int) 64) 1)).toNat [(vU 0)]=(List.replicate ((addW .i64 (quoW .i64 (v.all.length:Int) 64) 1)).toNat 0).map (eInt .u64)) (aI (ppo_set_put_S_sim n a (List.replicate ((addW .i64 (quoW .i64 (v.all.length:Int) 64) 1)).toNat 0) y4 gy4) (aI (okL (pl:=polF 38) (ppo_view_leads2_L1_S v a b) (ppo_view_leads2_L1_out v a b) (ppo_view_leads2_L1_sim n v a b) n _ t5 gt5) (aI (ppo_set_has_sim n t5 b y6 gy6) z))))))))) (by kernel_rfl)

def ord16:List (Nat×PT):=[]
theorem ordB16:ordB (polF 16) ord16 (bodyOf Tryz.prog 16)=true:=by kernel_rfl
theorem ppo_Whole_sim (n:Nat) (c:Cand) (a:Int) (b:Int) (r:Bool) (h:ppo_Whole n c a b=some r):PCall Tryz.prog 16 [(aAgg Cand.enc c),(vI a),(vI b)] (eqA (.v (.bool r))):=by
 unfold ppo_Whole at h
 obtain ⟨y1,gy1,h⟩:=bindE h
 rcases y1 with _ | z2
 ·
  obtain ⟨y2,gy2,h⟩:=bindE h
  obtain rfl:=soI h
  exact kP ⟨ord16,[rVC 1 [] [(7,.nilp),(10,.v (.bool y2))]],[],[],[]⟩ ordB16 (fun z=>(aI (ppo_of_sim n c none gy1) (aI (ppo_view_leads_sim n a b y2 gy2) z))) (by kernel_rfl)
 ·
  obtain ⟨y3,gy3,h⟩:=bindE h
  obtain rfl:=soI h
  exact kP ⟨ord16,[rVC 1 [] [(7,.fptr (ppo_view.enc z2) 0),(10,.v (.bool y3))]],[],[],[]⟩ ordB16 (fun z=>(aI (ppo_of_sim n c (some z2) gy1) (aI (ppo_view_leads2_sim n z2 a b y3 gy3) z))) (by kernel_rfl)

def ord39:List (Nat×PT):=[]
theorem ordB39:ordB (polF 39) ord39 (bodyOf Tryz.prog 39)=true:=by kernel_rfl
noncomputable def c_ref_View_whole_L1:Code:=sub (bodyOf Tryz.prog 39) [1,1,1,0,1,0,0]
noncomputable def c_ref_View_whole_L2:Code:=sub c_ref_View_whole_L1 [1,0,0,1,0,0]
theorem ordB_ref_View_whole_L2:ordB (polF 39) ord39 c_ref_View_whole_L2=true:=by kernel_rfl
def ref_View_whole_L2_S (v:fencepostref10_View) (a:Int) (b:Int) (sb:(List (Int×Int))×Int×Int):St:=mkS 54 [(1,(vI a)),(2,(vI b)),(3,.ptr (.L 3) 0 0),(7,.mp 0),(8,(vI sb.2.1)),(9,(vI sb.2.2))] [(3,(fencepostref10_View.enc v))] [.mapo true (sb.1.map (eKV (aInt .i64) (aInt .i64)))] 0
def ref_View_whole_L2_T0 (v:fencepostref10_View) (a:Int) (b:Int) (tt:(List (Int×Int))×Int):St:=mkS 54 [(1,(vI a)),(2,(vI b)),(3,.ptr (.L 3) 0 0),(7,.mp 0),(8,(vI tt.2))] [(3,(fencepostref10_View.enc v))] [.mapo true (tt.1.map (eKV (aInt .i64) (aInt .i64)))] 0
def ref_View_whole_L2_out (v:fencepostref10_View) (a:Int) (b:Int) (tt:((List (Int×Int))×Int)):Ex×St:=(.ex 2,ref_View_whole_L2_T0 v a b tt)
theorem ref_View_whole_L2_sim (n:Nat) (v:fencepostref10_View) (a:Int) (b:Int):∀ sb r,ref_View_whole_L2 n v a b sb=some r→CodeD Tryz.prog c_ref_View_whole_L2 (ref_View_whole_L2_S v a b sb) (rk (ref_View_whole_L2_S v a b) (ref_View_whole_L2_out v a b) r):=by
 intro sb r h
 unfold ref_View_whole_L2 at h
 rcases iteN h with ⟨hb1,h⟩ | ⟨hb1,h⟩
 ·
  obtain rfl:=soI h
  exact kR ⟨ord39,[rV 8 [(29,vF)]],[],[],[]⟩ [(4,⟨[1,2,3,7,8],[],1,[],[],[]⟩,⟨[],[],[]⟩)] ordB_ref_View_whole_L2 (rkE rfl neE) (fun z=>(aB hb1 z)) (by kernel_rfl)
 rcases iteN h with ⟨hb2,h⟩ | ⟨hb2,h⟩
 ·
  obtain rfl:=soI h
  exact kR ⟨ord39,[rVC 8 [(29,vT),(34,vF)] [(32,(vI ((mget beqI sb.1 sb.2.1).getD 0)))]],[],[],[]⟩ [(4,⟨[1,2,3,7,8],[],1,[],[],[]⟩,⟨[],[],[]⟩)] ordB_ref_View_whole_L2 (rkE rfl neE) (fun z=>(aB hb1 (aI (mapGet_92 sb.1 sb.2.1:∀ k':AV→Prop,k' ((vI ((mget beqI sb.1 sb.2.1).getD 0)))→findK Tryz.prog 3 ((vI sb.2.1)) (sb.1.map (eKV (aInt .i64) (aInt .i64))) fun _ r=>foundOk Tryz.prog 3 false (sb.1.map (eKV (aInt .i64) (aInt .i64))) r k') (aB hb2 z)))) (by kernel_rfl)
 rcases iteN h with ⟨hb3,h⟩ | ⟨hb3,h⟩
 ·
  obtain rfl:=soI h
  exact kR ⟨ord39,[rVC 8 [(29,vT),(34,vT)] [(32,(vI ((mget beqI sb.1 sb.2.1).getD 0)))],rVC 10 [(41,vF)] [(39,(vI ((mget beqI sb.1 sb.2.2).getD 0)))]],[],[],[]⟩ [(0,⟨[1,2,3,7,8,9],[],1,[],[],[]⟩,⟨[],[],[]⟩)] ordB_ref_View_whole_L2 rkN (fun z=>(aB hb1 (aI (mapGet_92 sb.1 sb.2.1:∀ k':AV→Prop,k' ((vI ((mget beqI sb.1 sb.2.1).getD 0)))→findK Tryz.prog 3 ((vI sb.2.1)) (sb.1.map (eKV (aInt .i64) (aInt .i64))) fun _ r=>foundOk Tryz.prog 3 false (sb.1.map (eKV (aInt .i64) (aInt .i64))) r k') (aB hb2 (aI (mapGet_92 sb.1 sb.2.2:∀ k':AV→Prop,k' ((vI ((mget beqI sb.1 sb.2.2).getD 0)))→findK Tryz.prog 3 ((vI sb.2.2)) (sb.1.map (eKV (aInt .i64) (aInt .i64))) fun _ r=>foundOk Tryz.prog 3 false (sb.1.map (eKV (aInt .i64) (aInt .i64))) r k') (aB hb3 z)))))) (by kernel_rfl)
 obtain ⟨yb4,gyb4,h⟩:=bindE h
 rcases iteN h with ⟨hb5,h⟩ | ⟨hb5,h⟩
 ·
  obtain rfl:=soI h
  exact kR ⟨ord39,[rVC 8 [(29,vT),(34,vT)] [(32,(vI ((mget beqI sb.1 sb.2.1).getD 0)))],rVC 10 [(41,vT),(47,vF)] [(39,(vI ((mget beqI sb.1 sb.2.2).getD 0))),(45,(vI yb4))]],[],[],[]⟩ [(0,⟨[1,2,3,7,8,9],[],1,[],[],[]⟩,⟨[],[],[]⟩)] ordB_ref_View_whole_L2 rkN (fun z=>(aB hb1 (aI (mapGet_92 sb.1 sb.2.1:∀ k':AV→Prop,k' ((vI ((mget beqI sb.1 sb.2.1).getD 0)))→findK Tryz.prog 3 ((vI sb.2.1)) (sb.1.map (eKV (aInt .i64) (aInt .i64))) fun _ r=>foundOk Tryz.prog 3 false (sb.1.map (eKV (aInt .i64) (aInt .i64))) r k') (aB hb2 (aI (mapGet_92 sb.1 sb.2.2:∀ k':AV→Prop,k' ((vI ((mget beqI sb.1 sb.2.2).getD 0)))→findK Tryz.prog 3 ((vI sb.2.2)) (sb.1.map (eKV (aInt .i64) (aInt .i64))) fun _ r=>foundOk Tryz.prog 3 false (sb.1.map (eKV (aInt .i64) (aInt .i64))) r k') (aB hb3 (aI (ref_View_Rule_sim n v sb.2.2 sb.2.1 yb4 gyb4) (aB hb5 z)))))))) (by kernel_rfl)
 obtain rfl:=soI h
 exact kR ⟨ord39,[rVC 8 [(29,vT),(34,vT)] [(32,(vI ((mget beqI sb.1 sb.2.1).getD 0)))],rVC 10 [(41,vT),(47,vT)] [(39,(vI ((mget beqI sb.1 sb.2.2).getD 0))),(45,(vI yb4))],(11,⟨[],[],[],[],[],[],[],[(1000048,((mput beqI sb.1 sb.2.1 1).map (eKV (aInt .i64) (aInt .i64))))]⟩)],[],[],[]⟩ [(0,⟨[1,2,3,7,8,9],[],1,[],[],[]⟩,⟨[],[],[]⟩)] ordB_ref_View_whole_L2 rkN (fun z=>(aB hb1 (aI (mapGet_92 sb.1 sb.2.1:∀ k':AV→Prop,k' ((vI ((mget beqI sb.1 sb.2.1).getD 0)))→findK Tryz.prog 3 ((vI sb.2.1)) (sb.1.map (eKV (aInt .i64) (aInt .i64))) fun _ r=>foundOk Tryz.prog 3 false (sb.1.map (eKV (aInt .i64) (aInt .i64))) r k') (aB hb2 (aI (mapGet_92 sb.1 sb.2.2:∀ k':AV→Prop,k' ((vI ((mget beqI sb.1 sb.2.2).getD 0)))→findK Tryz.prog 3 ((vI sb.2.2)) (sb.1.map (eKV (aInt .i64) (aInt .i64))) fun _ r=>foundOk Tryz.prog 3 false (sb.1.map (eKV (aInt .i64) (aInt .i64))) r k') (aB hb3 (aI (ref_View_Rule_sim n v sb.2.2 sb.2.1 yb4 gyb4) (aB hb5 (aI (mapPut_92 sb.1 sb.2.1 1:∀ K':List (AV×AV)→Prop,K' ((mput beqI sb.1 sb.2.1 1).map (eKV (aInt .i64) (aInt .i64)))→findK Tryz.prog 3 ((vI sb.2.1)) (sb.1.map (eKV (aInt .i64) (aInt .i64))) fun kv r=>Chk (ckOk Tryz.prog 3 kv) (match r with | some i=>Chk (Instr.sameBits 10000 (((sb.1.map (eKV (aInt .i64) (aInt .i64)))[i]?.bind fun e=>toK e.1).getD (.bool false)) kv) (K' ((sb.1.map (eKV (aInt .i64) (aInt .i64))).set i ((vI sb.2.1),(vI 1)))) | none=>K' ((sb.1.map (eKV (aInt .i64) (aInt .i64)))++[((vI sb.2.1),(vI 1))]))) z))))))))) (by kernel_rfl)

theorem ordB_ref_View_whole_L1:ordB (polF 39) ord39 c_ref_View_whole_L1=true:=by kernel_rfl
def ref_View_whole_L1_S (v:fencepostref10_View) (a:Int) (b:Int) (sa:(List (Int×Int))×Int):St:=mkS 54 [(1,(vI a)),(2,(vI b)),(3,.ptr (.L 3) 0 0),(7,.mp 0),(8,(vI sa.2))] [(3,(fencepostref10_View.enc v))] [.mapo true (sa.1.map (eKV (aInt .i64) (aInt .i64)))] 0
def ref_View_whole_L1_T0 (v:fencepostref10_View) (a:Int) (b:Int) (tt:(List (Int×Int))):St:=mkS 54 [(2,(vI b)),(7,.mp 0)] [] [.mapo true (tt.map (eKV (aInt .i64) (aInt .i64)))] 0
def ref_View_whole_L1_out (v:fencepostref10_View) (a:Int) (b:Int) (tt:((List (Int×Int)))):Ex×St:=(.ex 0,ref_View_whole_L1_T0 v a b tt)
theorem ref_View_whole_L1_sim (n:Nat) (v:fencepostref10_View) (a:Int) (b:Int):∀ sa r,ref_View_whole_L1 n v a b sa=some r→CodeD Tryz.prog c_ref_View_whole_L1 (ref_View_whole_L1_S v a b sa) (rk (ref_View_whole_L1_S v a b) (ref_View_whole_L1_out v a b) r):=by
 intro sa r h
 unfold ref_View_whole_L1 at h
 rcases iteN h with ⟨ha1,h⟩ | ⟨ha1,h⟩
 ·
  obtain rfl:=soI h
  exact kR ⟨ord39,[rV 5 [(22,vF)]],[],[],[]⟩ [(2,⟨[2,7],[3],1,[],[],[]⟩,⟨[],[],[]⟩)] ordB_ref_View_whole_L1 (rkE rfl neE) (fun z=>(aB ha1 z)) (by kernel_rfl)
 obtain ⟨ta2,gta2,h⟩:=bindE h
 obtain rfl:=soI h
 exact kR ⟨ord39,[rV 5 [(22,vT)]],[],[(8,(⟨[1,2,3,7,8,9],[],1,[],[],[]⟩,⟨[],[],[]⟩,(.ex 2),ref_View_whole_L2_T0 v a b ta2))],[]⟩ [(0,⟨[1,2,3,7,8],[],1,[],[],[]⟩,⟨[],[],[]⟩)] ordB_ref_View_whole_L1 rkN (fun z=>(aB ha1 (aI (okL (pl:=polF 39) (ref_View_whole_L2_S v a b) (ref_View_whole_L2_out v a b) (ref_View_whole_L2_sim n v a b) n _ ta2 gta2) z))) (by kernel_rfl)

theorem ref_View_whole_sim (n:Nat) (v:fencepostref10_View) (a:Int) (b:Int) (r:Bool) (h:ref_View_whole n v a b=some r):PCall Tryz.prog 39 [(aAgg fencepostref10_View.enc v),(vI a),(vI b)] (eqA (.v (.bool r))):=by
 unfold ref_View_whole at h
 obtain ⟨y1,gy1,h⟩:=bindE h
 rcases iteE h with ⟨h2,h⟩ | ⟨h2,h⟩
 ·
  obtain rfl:=soI h
  exact kP ⟨ord39,[rVC 1 [(14,vT)] [(13,.v (.bool y1))]],[],[],[]⟩ ordB39 (fun z=>(aI (ref_View_ahead_sim n v a b y1 gy1) (aB h2 z))) (by kernel_rfl)
 obtain ⟨t3,gt3,h⟩:=bindE h
 obtain rfl:=soI h
 exact kP ⟨ord39,[rVC 1 [(14,vF)] [(13,.v (.bool y1))],(3,⟨[],[],[],[],[],[],[],[(1000015,((mput beqI ([]:(List (Int×Int))) a 1).map (eKV (aInt .i64) (aInt .i64))))]⟩),rVC 12 [] [(52,(vI ((mget beqI t3 b).getD 0)))]],[],[(5,(⟨[1,2,3,7,8],[],1,[],[],[]⟩,⟨[],[],[]⟩,(.ex 0),ref_View_whole_L1_T0 v a b t3))],[]⟩ ordB39 (fun z=>(aI (ref_View_ahead_sim n v a b y1 gy1) (aB h2 (aI (mapPut_92 ([]:(List (Int×Int))) a 1:∀ K':List (AV×AV)→Prop,K' ((mput beqI ([]:(List (Int×Int))) a 1).map (eKV (aInt .i64) (aInt .i64)))→findK Tryz.prog 3 ((vI a)) (([]:(List (Int×Int))).map (eKV (aInt .i64) (aInt .i64))) fun kv r=>Chk (ckOk Tryz.prog 3 kv) (match r with | some i=>Chk (Instr.sameBits 10000 (((([]:(List (Int×Int))).map (eKV (aInt .i64) (aInt .i64)))[i]?.bind fun e=>toK e.1).getD (.bool false)) kv) (K' ((([]:(List (Int×Int))).map (eKV (aInt .i64) (aInt .i64))).set i ((vI a),(vI 1)))) | none=>K' ((([]:(List (Int×Int))).map (eKV (aInt .i64) (aInt .i64)))++[((vI a),(vI 1))]))) (aI (okL (pl:=polF 39) (ref_View_whole_L1_S v a b) (ref_View_whole_L1_out v a b) (ref_View_whole_L1_sim n v a b) n _ t3 gt3) (aI (mapGet_92 t3 b:∀ k':AV→Prop,k' ((vI ((mget beqI t3 b).getD 0)))→findK Tryz.prog 3 ((vI b)) (t3.map (eKV (aInt .i64) (aInt .i64))) fun _ r=>foundOk Tryz.prog 3 false (t3.map (eKV (aInt .i64) (aInt .i64))) r k') z)))))) (by kernel_rfl)

def ord17:List (Nat×PT):=[]
theorem ordB17:ordB (polF 17) ord17 (bodyOf Tryz.prog 17)=true:=by kernel_rfl
theorem ref_Whole_sim (n:Nat) (c:Cand) (a:Int) (b:Int) (r:Bool) (h:ref_Whole n c a b=some r):PCall Tryz.prog 17 [(aAgg Cand.enc c),(vI a),(vI b)] (eqA (.v (.bool r))):=by
 unfold ref_Whole at h
 obtain ⟨y1,gy1,h⟩:=bindE h
 rcases iteN h with ⟨h2,h⟩ | ⟨h2,h⟩
 ·
  obtain rfl:=soI h
  exact kP ⟨ord17,[rVC 1 [] [(11,.tup [(aAgg fencepostref10_View.enc y1.1),.v (.bool y1.2)])],rV 2 [(15,vF)]],[],[],[]⟩ ordB17 (fun z=>(aI (ref_Of_sim n c y1 gy1) (aB h2 z))) (by kernel_rfl)
 obtain ⟨y3,gy3,h⟩:=bindE h
 obtain rfl:=soI h
 exact kP ⟨ord17,[rVC 1 [] [(11,.tup [(aAgg fencepostref10_View.enc y1.1),.v (.bool y1.2)])],rVC 2 [(15,vT)] [(19,.v (.bool y3))]],[],[],[]⟩ ordB17 (fun z=>(aI (ref_Of_sim n c y1 gy1) (aB h2 (aI (ref_View_whole_sim n y1.1 a b y3 gy3) z)))) (by kernel_rfl)

def ord18:List (Nat×PT):=[(9,(ptS [0,1,2,3,4,5,6,7,8,9,10,11,12,13,14,15,16,17,18,19,20,21]))]
theorem ordB18:ordB (polF 18) ord18 (bodyOf Tryz.prog 18)=true:=by kernel_rfl
noncomputable def c_ppo_Full_L1:Code:=sub (bodyOf Tryz.prog 18) [1,1,1,1,0,1,0,0]
theorem ordB_ppo_Full_L1:ordB (polF 18) ord18 c_ppo_Full_L1=true:=by kernel_rfl
def ppo_Full_L1_S (z2:ppo_view) (sa:Int×Int):St:=mkS 47 [(3,.fptr (ppo_view.enc z2) 0),(4,(vI sa.2)),(13,.sl (z2.all.map Event.enc)),(14,(vI (z2.all.length:Int))),(15,(vI sa.1))] [] [] 0
def ppo_Full_L1_T0 (z2:ppo_view) (tt:Unit):St:=mkS 47 [] [] [] 0
def ppo_Full_L1_T1 (z2:ppo_view) (tt:Unit):St:=mkS 47 [(2,vF)] [] [] 0
def ppo_Full_L1_out (z2:ppo_view) (t0:(Unit⊕Unit)):Ex×St:=match t0 with | .inl tt=>(.ex 0,ppo_Full_L1_T0 z2 tt) | .inr tt=>(.ret,ppo_Full_L1_T1 z2 tt)
theorem ppo_Full_L1_sim (n:Nat) (z2:ppo_view):∀ sa r,ppo_Full_L1 n z2 sa=some r→CodeD Tryz.prog c_ppo_Full_L1 (ppo_Full_L1_S z2 sa) (rk (ppo_Full_L1_S z2) (ppo_Full_L1_out z2) r):=by
 intro sa r h
 unfold ppo_Full_L1 at h
 rcases iteN h with ⟨ha1,h⟩ | ⟨ha1,h⟩
 ·
  obtain rfl:=soI h
  exact kR ⟨ord18,[rV 6 [(16,vF)]],[],[],[]⟩ [(2,⟨[],[],0,[],[],[]⟩,⟨[],[],[]⟩)] ordB_ppo_Full_L1 (rkE rfl neE) (fun z=>(aB ha1 z)) (by kernel_rfl)
 obtain ⟨xa2,gxa2,h⟩:=bindE h
 obtain ⟨ya3,gya3,h⟩:=bindE h
 rcases iteE h with ⟨ha4,h⟩ | ⟨ha4,h⟩
 ·
  obtain rfl:=soI h
  exact kR ⟨ord18,[rV 6 [(16,vT)],(7,⟨[],[],[(18,(Event.enc xa2))],[],[],[],[],[]⟩),rVC 8 [(22,vT)] [(21,.v (.bool ya3))]],[],[],[]⟩ [(0,⟨[3,4,13,14,15],[6],0,[],[],[]⟩,⟨[],[],[]⟩)] ordB_ppo_Full_L1 rkN (fun z=>(aB ha1 (aM Event.enc gxa2 (aI (event_Memory_sim n xa2 ya3 gya3) (aB ha4 z))))) (by kernel_rfl)
 rcases iteN h with ⟨ha5,h⟩ | ⟨ha5,h⟩
 ·
  obtain rfl:=soI h
  exact kR ⟨ord18,[rV 6 [(16,vT)],(7,⟨[],[],[(18,(Event.enc xa2))],[],[],[],[],[]⟩),rVC 8 [(22,vF)] [(21,.v (.bool ya3))],rV 9 [(25,vF)]],[],[],[]⟩ [(0,⟨[3,4,13,14,15],[6],0,[],[],[]⟩,⟨[],[],[]⟩)] ordB_ppo_Full_L1 rkN (fun z=>(aB ha1 (aM Event.enc gxa2 (aI (event_Memory_sim n xa2 ya3 gya3) (aB ha4 (aB ha5 z)))))) (by kernel_rfl)
 obtain ⟨xa6,gxa6,h⟩:=bindE h
 rcases iteN h with ⟨ha7,h⟩ | ⟨ha7,h⟩
 ·
  obtain rfl:=soI h
  exact kR ⟨ord18,[rV 6 [(16,vT)],(7,⟨[],[],[(18,(Event.enc xa2))],[],[],[],[],[]⟩),rVC 8 [(22,vF)] [(21,.v (.bool ya3))],(9,⟨[],[],[(31,(Event.enc xa6))],[(25,vT),(38,vF)],[],[],[],[]⟩)],[],[],[]⟩ [(0,⟨[3,4,13,14,15],[6],0,[],[],[]⟩,⟨[],[],[]⟩)] ordB_ppo_Full_L1 rkN (fun z=>(aB ha1 (aM Event.enc gxa2 (aI (event_Memory_sim n xa2 ya3 gya3) (aB ha4 (aB ha5 (aM Event.enc gxa6 (aB ha7 z)))))))) (by kernel_rfl)
 obtain ⟨ya8,gya8,h⟩:=bindE h
 rcases iteE h with ⟨ha9,h⟩ | ⟨ha9,h⟩
 ·
  obtain rfl:=soI h
  exact kR ⟨ord18,[rV 6 [(16,vT)],(7,⟨[],[],[(18,(Event.enc xa2))],[],[],[],[],[]⟩),rVC 8 [(22,vF)] [(21,.v (.bool ya3))],(9,⟨[],[],[(31,(Event.enc xa6))],[(25,vT),(38,vT),(44,vT)],[(42,.v (.bool ya8))],[],[],[]⟩)],[],[],[]⟩ [(1,⟨[2],[6],0,[],[],[]⟩,⟨[],[],[]⟩)] ordB_ppo_Full_L1 (rkE rfl neR) (fun z=>(aB ha1 (aM Event.enc gxa2 (aI (event_Memory_sim n xa2 ya3 gya3) (aB ha4 (aB ha5 (aM Event.enc gxa6 (aB ha7 (aI (ppo_view_leads2_sim n z2 sa.2 sa.1 ya8 gya8) (aB ha9 z)))))))))) (by kernel_rfl)
 obtain rfl:=soI h
 exact kR ⟨ord18,[rV 6 [(16,vT)],(7,⟨[],[],[(18,(Event.enc xa2))],[],[],[],[],[]⟩),rVC 8 [(22,vF)] [(21,.v (.bool ya3))],(9,⟨[],[],[(31,(Event.enc xa6))],[(25,vT),(38,vT),(44,vF)],[(42,.v (.bool ya8))],[],[],[]⟩)],[],[],[]⟩ [(0,⟨[3,4,13,14,15],[6],0,[],[],[]⟩,⟨[],[],[]⟩)] ordB_ppo_Full_L1 rkN (fun z=>(aB ha1 (aM Event.enc gxa2 (aI (event_Memory_sim n xa2 ya3 gya3) (aB ha4 (aB ha5 (aM Event.enc gxa6 (aB ha7 (aI (ppo_view_leads2_sim n z2 sa.2 sa.1 ya8 gya8) (aB ha9 z)))))))))) (by kernel_rfl)

theorem ppo_Full_sim (n:Nat) (c:Cand) (r:Bool) (h:ppo_Full n c=some r):PCall Tryz.prog 18 [(aAgg Cand.enc c)] (eqA (.v (.bool r))):=by
 unfold ppo_Full at h
 obtain ⟨y1,gy1,h⟩:=bindE h
 rcases y1 with _ | z2
 ·
  obtain rfl:=soI h
  exact kP ⟨ord18,[rVC 1 [] [(7,.nilp)]],[],[],[]⟩ ordB18 (fun z=>(aI (ppo_of_sim n c none gy1) z)) (by kernel_rfl)
 ·
  obtain ⟨t3,gt3,h⟩:=bindE h
  rcases t3 with w4 | w4
  ·
   obtain rfl:=soI h
   exact kP ⟨ord18,[rVC 1 [] [(7,.fptr (ppo_view.enc z2) 0)],rV 5 [(14,(vI (z2.all.length:Int)))]],[],[(6,(⟨[3,4,13,14,15],[],0,[],[],[]⟩,⟨[],[],[]⟩,(.ex 0),ppo_Full_L1_T0 z2 w4))],[]⟩ ordB18 (fun z=>(aI (ppo_of_sim n c (some z2) gy1) (aL Event.enc z2.all (aI (okL (pl:=polF 18) (ppo_Full_L1_S z2) (ppo_Full_L1_out z2) (ppo_Full_L1_sim n z2) n _ (.inl w4) gt3) z)))) (by kernel_rfl)
  ·
   obtain rfl:=soI h
   exact kP ⟨ord18,[rVC 1 [] [(7,.fptr (ppo_view.enc z2) 0)],rV 5 [(14,(vI (z2.all.length:Int)))]],[],[(6,(⟨[3,4,13,14,15],[],0,[],[],[]⟩,⟨[],[],[]⟩,.ret,ppo_Full_L1_T1 z2 w4))],[]⟩ ordB18 (fun z=>(aI (ppo_of_sim n c (some z2) gy1) (aL Event.enc z2.all (aI (okL (pl:=polF 18) (ppo_Full_L1_S z2) (ppo_Full_L1_out z2) (ppo_Full_L1_sim n z2) n _ (.inr w4) gt3) z)))) (by kernel_rfl)

def ord19:List (Nat×PT):=[(7,(ptS [0,1,2,3,4,5,6,7,8,9,10,11,12,13,14,15,16,17,18,19,20,21,22,23]))]
theorem ordB19:ordB (polF 19) ord19 (bodyOf Tryz.prog 19)=true:=by kernel_rfl
noncomputable def c_ref_Full_L1:Code:=sub (bodyOf Tryz.prog 19) [1,1,1,0,1,0,0]
theorem ordB_ref_Full_L1:ordB (polF 19) ord19 c_ref_Full_L1=true:=by kernel_rfl
def ref_Full_L1_S (y1:fencepostref10_View×Bool) (sa:Int×Int):St:=mkS 55 [(3,.ptr (.L 3) 0 0),(4,.v (.bool y1.2)),(5,(vI sa.1)),(6,(vI sa.2))] [(3,(fencepostref10_View.enc y1.1))] [] 0
def ref_Full_L1_T0 (y1:fencepostref10_View×Bool) (tt:Unit):St:=mkS 55 [(4,.v (.bool y1.2))] [] [] 0
def ref_Full_L1_T1 (y1:fencepostref10_View×Bool) (tt:Unit):St:=mkS 55 [(2,vF)] [] [] 0
def ref_Full_L1_out (y1:fencepostref10_View×Bool) (t0:(Unit⊕Unit)):Ex×St:=match t0 with | .inl tt=>(.ex 0,ref_Full_L1_T0 y1 tt) | .inr tt=>(.ret,ref_Full_L1_T1 y1 tt)
theorem ref_Full_L1_sim (n:Nat) (y1:fencepostref10_View×Bool):∀ sa r,ref_Full_L1 n y1 sa=some r→CodeD Tryz.prog c_ref_Full_L1 (ref_Full_L1_S y1 sa) (rk (ref_Full_L1_S y1) (ref_Full_L1_out y1) r):=by
 intro sa r h
 unfold ref_Full_L1 at h
 rcases iteN h with ⟨ha1,h⟩ | ⟨ha1,h⟩
 ·
  obtain rfl:=soI h
  exact kR ⟨ord19,[rV 4 [(15,(vI (y1.1.All.length:Int))),(17,vF)]],[],[],[]⟩ [(2,⟨[4],[3],0,[],[],[]⟩,⟨[],[],[]⟩)] ordB_ref_Full_L1 (rkE rfl neE) (fun z=>(aL Event.enc y1.1.All (aB ha1 z))) (by kernel_rfl)
 rcases iteN h with ⟨ha2,h⟩ | ⟨ha2,h⟩
 ·
  obtain rfl:=soI h
  exact kR ⟨ord19,[rV 4 [(15,(vI (y1.1.All.length:Int))),(17,vT),(19,vF)]],[],[],[]⟩ [(2,⟨[4],[3],0,[],[],[]⟩,⟨[],[],[]⟩)] ordB_ref_Full_L1 (rkE rfl neE) (fun z=>(aL Event.enc y1.1.All (aB ha1 (aB ha2 z)))) (by kernel_rfl)
 obtain ⟨xa3,gxa3,h⟩:=bindE h
 obtain ⟨ya4,gya4,h⟩:=bindE h
 rcases iteE h with ⟨ha5,h⟩ | ⟨ha5,h⟩
 ·
  obtain rfl:=soI h
  exact kR ⟨ord19,[rV 4 [(15,(vI (y1.1.All.length:Int))),(17,vT),(19,vT)],(6,⟨[],[],[(25,(Event.enc xa3))],[(28,vT)],[(27,.v (.bool ya4))],[],[],[]⟩)],[],[],[]⟩ [(0,⟨[3,4,5,6],[],0,[],[],[]⟩,⟨[],[],[]⟩)] ordB_ref_Full_L1 rkN (fun z=>(aL Event.enc y1.1.All (aB ha1 (aB ha2 (aM Event.enc gxa3 (aI (ref_Memory_sim n xa3 ya4 gya4) (aB ha5 z))))))) (by kernel_rfl)
 rcases iteN h with ⟨ha6,h⟩ | ⟨ha6,h⟩
 ·
  obtain rfl:=soI h
  exact kR ⟨ord19,[rV 4 [(15,(vI (y1.1.All.length:Int))),(17,vT),(19,vT)],(6,⟨[],[],[(25,(Event.enc xa3))],[(28,vF)],[(27,.v (.bool ya4))],[],[],[]⟩),rV 7 [(31,vF)]],[],[],[]⟩ [(0,⟨[3,4,5,6],[],0,[],[],[]⟩,⟨[],[],[]⟩)] ordB_ref_Full_L1 rkN (fun z=>(aL Event.enc y1.1.All (aB ha1 (aB ha2 (aM Event.enc gxa3 (aI (ref_Memory_sim n xa3 ya4 gya4) (aB ha5 (aB ha6 z)))))))) (by kernel_rfl)
 obtain ⟨xa7,gxa7,h⟩:=bindE h
 rcases iteN h with ⟨ha8,h⟩ | ⟨ha8,h⟩
 ·
  obtain rfl:=soI h
  exact kR ⟨ord19,[rV 4 [(15,(vI (y1.1.All.length:Int))),(17,vT),(19,vT)],(6,⟨[],[],[(25,(Event.enc xa3))],[(28,vF)],[(27,.v (.bool ya4))],[],[],[]⟩),(7,⟨[],[],[(35,(Event.enc xa7)),(41,(Event.enc xa3))],[(31,vT),(46,vF)],[],[],[],[]⟩)],[],[],[]⟩ [(0,⟨[3,4,5,6],[],0,[],[],[]⟩,⟨[],[],[]⟩)] ordB_ref_Full_L1 rkN (fun z=>(aL Event.enc y1.1.All (aB ha1 (aB ha2 (aM Event.enc gxa3 (aI (ref_Memory_sim n xa3 ya4 gya4) (aB ha5 (aB ha6 (aM Event.enc gxa7 (aM Event.enc gxa3 (aB ha8 z))))))))))) (by kernel_rfl)
 obtain ⟨ya9,gya9,h⟩:=bindE h
 rcases iteN h with ⟨ha10,h⟩ | ⟨ha10,h⟩
 ·
  obtain rfl:=soI h
  exact kR ⟨ord19,[rV 4 [(15,(vI (y1.1.All.length:Int))),(17,vT),(19,vT)],(6,⟨[],[],[(25,(Event.enc xa3))],[(28,vF)],[(27,.v (.bool ya4))],[],[],[]⟩),(7,⟨[],[],[(35,(Event.enc xa7)),(41,(Event.enc xa3))],[(31,vT),(46,vT),(52,vF)],[(50,.v (.bool ya9))],[],[],[]⟩)],[],[],[]⟩ [(0,⟨[3,4,5,6],[],0,[],[],[]⟩,⟨[],[],[]⟩)] ordB_ref_Full_L1 rkN (fun z=>(aL Event.enc y1.1.All (aB ha1 (aB ha2 (aM Event.enc gxa3 (aI (ref_Memory_sim n xa3 ya4 gya4) (aB ha5 (aB ha6 (aM Event.enc gxa7 (aM Event.enc gxa3 (aB ha8 (aI (ref_View_whole_sim n y1.1 sa.1 sa.2 ya9 gya9) (aB ha10 z))))))))))))) (by kernel_rfl)
 obtain rfl:=soI h
 exact kR ⟨ord19,[rV 4 [(15,(vI (y1.1.All.length:Int))),(17,vT),(19,vT)],(6,⟨[],[],[(25,(Event.enc xa3))],[(28,vF)],[(27,.v (.bool ya4))],[],[],[]⟩),(7,⟨[],[],[(35,(Event.enc xa7)),(41,(Event.enc xa3))],[(31,vT),(46,vT),(52,vT)],[(50,.v (.bool ya9))],[],[],[]⟩)],[],[],[]⟩ [(1,⟨[2],[3],0,[],[],[]⟩,⟨[],[],[]⟩)] ordB_ref_Full_L1 (rkE rfl neR) (fun z=>(aL Event.enc y1.1.All (aB ha1 (aB ha2 (aM Event.enc gxa3 (aI (ref_Memory_sim n xa3 ya4 gya4) (aB ha5 (aB ha6 (aM Event.enc gxa7 (aM Event.enc gxa3 (aB ha8 (aI (ref_View_whole_sim n y1.1 sa.1 sa.2 ya9 gya9) (aB ha10 z))))))))))))) (by kernel_rfl)

theorem ref_Full_sim (n:Nat) (c:Cand) (r:Bool) (h:ref_Full n c=some r):PCall Tryz.prog 19 [(aAgg Cand.enc c)] (eqA (.v (.bool r))):=by
 unfold ref_Full at h
 obtain ⟨y1,gy1,h⟩:=bindE h
 obtain ⟨t2,gt2,h⟩:=bindE h
 rcases t2 with w3 | w3
 ·
  obtain rfl:=soI h
  exact kP ⟨ord19,[rVC 1 [] [(9,.tup [(aAgg fencepostref10_View.enc y1.1),.v (.bool y1.2)])]],[],[(4,(⟨[3,4,5,6],[1],0,[],[],[]⟩,⟨[],[],[]⟩,(.ex 0),ref_Full_L1_T0 y1 w3))],[]⟩ ordB19 (fun z=>(aI (ref_Of_sim n c y1 gy1) (aI (okL (pl:=polF 19) (ref_Full_L1_S y1) (ref_Full_L1_out y1) (ref_Full_L1_sim n y1) n _ (.inl w3) gt2) z))) (by kernel_rfl)
 ·
  obtain rfl:=soI h
  exact kP ⟨ord19,[rVC 1 [] [(9,.tup [(aAgg fencepostref10_View.enc y1.1),.v (.bool y1.2)])]],[],[(4,(⟨[3,4,5,6],[1],0,[],[],[]⟩,⟨[],[],[]⟩,.ret,ref_Full_L1_T1 y1 w3))],[]⟩ ordB19 (fun z=>(aI (ref_Of_sim n c y1 gy1) (aI (okL (pl:=polF 19) (ref_Full_L1_S y1) (ref_Full_L1_out y1) (ref_Full_L1_sim n y1) n _ (.inr w3) gt2) z))) (by kernel_rfl)

end
end Go.Proofs.YtigcbjbaibcgfaaGreat
