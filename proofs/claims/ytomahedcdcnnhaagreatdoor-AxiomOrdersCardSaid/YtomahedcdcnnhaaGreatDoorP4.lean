/- What the functions compute, they compute: printed by a program, path by path. No conditions. -/
import Derived.Test.YtomahedcdcnnhaaGreatDoorP3
import Derived.KernelRfl
namespace Go.Proofs.YtomahedcdcnnhaaGreatDoor
open Go A
set_option linter.unusedVariables false
set_option maxRecDepth 100000
set_option maxHeartbeats 0
section
variable (pc:Nat→List AV→(AV→Prop)→Prop) (sc:Nat→List AV→List Ob→(AV→List Ob→Prop)→Prop) (lp:bz→Code→St→(Ex→St→Prop)→Prop) (cd:yb)

def tG:List (Nat×PT):=[(3,(ei [0,1,2,3,4,5,6,7,8,9,10,11,12,13]))]
theorem ql:ax (al 71) tG (aj Tryz.prog 71)=true:=by kernel_rfl
theorem sn (n:Nat) (v:ac) (a:Int) (b:Int) (r:Bool) (h:bX n v a b=some r):aw Tryz.prog 71 [(bq ac.enc v),(vI a),(vI b)] (ew (.v (.bool r))):=by
 unfold bX at h
 rcases ao h with ⟨h1,h⟩ | ⟨h1,h⟩
 ·
  obtain rfl:=aF h
  exact kP (nA tG [rV 1 [(11,vT)]]) ql (fun z=>(aB h1 z))
 rcases ao h with ⟨h2,h⟩ | ⟨h2,h⟩
 ·
  obtain rfl:=aF h
  exact kP (nA tG [rV 1 [(11,vF),(15,vT)]]) ql (fun z=>(aB h1 (aB h2 z)))
 have c285_:=fun (R:Prop) (z:R)=>(aB h1 (aB h2 (aL Event.enc v.All z)))
 rcases ao h with ⟨h3,h⟩ | ⟨h3,h⟩
 ·
  obtain rfl:=aF h
  exact kP (nA tG [rV 1 [(11,vF),(15,vF),(19,(vI (v.All.length:Int))),(22,vT)]]) ql (fun z=>(c285_ _ (aB h3 z)))
 have c286_:=fun (R:Prop) (z:R)=>c285_ _ (aB h3 (aL Event.enc v.All z))
 rcases ao h with ⟨h4,h⟩ | ⟨h4,h⟩
 ·
  obtain rfl:=aF h
  exact kP (nA tG [rV 1 [(11,vF),(15,vF),(19,(vI (v.All.length:Int))),(22,vF),(26,(vI (v.All.length:Int))),(28,vT)]]) ql (fun z=>(c286_ _ (aB h4 z)))
 obtain ⟨x5,gx5,h⟩:=ab h
 obtain ⟨x6,gx6,h⟩:=ab h
 have c287_:=fun (R:Prop) (z:R)=>c286_ _ (aB h4 (aM Event.enc gx5 (aM Event.enc gx6 z)))
 let e288_:LR:=[rV 1 [(11,vF),(15,vF),(19,(vI (v.All.length:Int))),(22,vF),(26,(vI (v.All.length:Int))),(28,vF)],rR 3 [(32,(Event.enc x5)),(37,(Event.enc x6))]]
 rcases aA h with ⟨h7,h⟩ | ⟨h7,h⟩
 ·
  obtain rfl:=aF h
  exact kP (nA tG (e288_++[rV 4 [(44,vF)]])) ql (fun z=>(c287_ _ (aB h7 z)))
 rcases aA h with ⟨h8,h⟩ | ⟨h8,h⟩
 ·
  obtain rfl:=aF h
  exact kP (nA tG (e288_++[rV 4 [(44,vT),(51,vF)]])) ql (fun z=>(c287_ _ (aB h7 (aB h8 z))))
 obtain ⟨y9,gy9,h⟩:=ab h
 have c289_:=fun (R:Prop) (z:R)=>c287_ _ (aB h7 (aB h8 (aI (fM n x5 y9 gy9) z)))
 rcases aA h with ⟨h10,h⟩ | ⟨h10,h⟩
 ·
  obtain rfl:=aF h
  exact kP (nA tG (e288_++[aZ 4 [(44,vT),(51,vT),(55,vF)] [(53,.v (.bool y9))]])) ql (fun z=>(c289_ _ (aB h10 z)))
 obtain ⟨y11,gy11,h⟩:=ab h
 obtain rfl:=aF h
 exact kP (nA tG (e288_++[aZ 4 [(44,vT),(51,vT),(55,vT)] [(53,.v (.bool y9)),(57,.v (.bool y11))]])) ql (fun z=>(c289_ _ (aB h10 (aI (fM n x6 y11 gy11) z))))

def AC:List (Nat×PT):=[]
theorem yD:ax (al 72) AC (aj Tryz.prog 72)=true:=by kernel_rfl
theorem tH (n:Nat) (part:Int) (e:Event) (r:Bool) (h:nu n part e=some r):aw Tryz.prog 72 [(vI part),(bq Event.enc e)] (ew (.v (.bool r))):=by
 unfold nu at h
 rcases aA h with ⟨h1,h⟩ | ⟨h1,h⟩
 ·
  rcases aA h with ⟨h2,h⟩ | ⟨h2,h⟩
  ·
   obtain rfl:=aF h
   exact kP (nA AC [rV 1 [(9,vF),(18,vF)]]) yD (fun z=>(aB h1 (aB h2 z)))
  obtain ⟨y3,gy3,h⟩:=ab h
  obtain rfl:=aF h
  exact kP (nA AC [aZ 1 [(9,vF),(18,vT)] [(20,.v (.bool y3))]]) yD (fun z=>(aB h1 (aB h2 (aI (bH n e y3 gy3) z))))
 obtain ⟨y2,gy2,h⟩:=ab h
 have c290_:=fun (R:Prop) (z:R)=>(aB h1 (aI (dq n e y2 gy2) z))
 rcases ao h with ⟨h3,h⟩ | ⟨h3,h⟩
 ·
  obtain rfl:=aF h
  exact kP (nA AC [aZ 1 [(9,vT),(13,vT)] [(11,.v (.bool y2))]]) yD (fun z=>(c290_ _ (aB h3 z)))
 rcases aA h with ⟨h4,h⟩ | ⟨h4,h⟩
 ·
  obtain rfl:=aF h
  exact kP (nA AC [aZ 1 [(9,vT),(13,vF),(18,vF)] [(11,.v (.bool y2))]]) yD (fun z=>(c290_ _ (aB h3 (aB h4 z))))
 obtain ⟨y5,gy5,h⟩:=ab h
 obtain rfl:=aF h
 exact kP (nA AC [aZ 1 [(9,vT),(13,vF),(18,vT)] [(11,.v (.bool y2)),(20,.v (.bool y5))]]) yD (fun z=>(c290_ _ (aB h3 (aB h4 (aI (bH n e y5 gy5) z)))))

def yE:List (Nat×PT):=[]
theorem I_:ax (al 73) yE (aj Tryz.prog 73)=true:=by kernel_rfl
noncomputable def Q7:Code:=sub (aj Tryz.prog 73) [1,0,1,0,0]
theorem NQ:ax (al 73) yE Q7=true:=by kernel_rfl
def KZ (l:(List Int)) (n_:Int) (sa:Int):St:=ba 18 [(0,.sl (l.map eI)),(1,(vI n_)),(5,(vI sa))] [] [] 0
def Q8 (l:(List Int)) (n_:Int) (tt:Unit):St:=ba 18 [] [] [] 0
def Q9 (l:(List Int)) (n_:Int) (tt:Unit):St:=ba 18 [(4,vT)] [] [] 0
def NR (l:(List Int)) (n_:Int) (t0:(Unit⊕Unit)):Ex×St:=match t0 with | .inl tt=>(.ex 0,Q8 l n_ tt) | .inr tt=>(.ret,Q9 l n_ tt)
theorem Q_ (n:Nat) (l:(List Int)) (n_:Int):∀ sa r,qv n l n_ sa=some r→aQ Tryz.prog Q7 (KZ l n_ sa) (rk (KZ l n_) (NR l n_) r):=by
 intro sa r h
 unfold qv at h
 rcases aA h with ⟨ha1,h⟩ | ⟨ha1,h⟩
 ·
  exact kQ h (nA yE [rV 2 [(8,(vI (l.length:Int))),(9,vF)]]) [wK 2 [] [] 0] NQ (cn rfl i3) (fun z=>(aL eI l (aB ha1 z)))
 obtain ⟨xa2,gxa2,h⟩:=ab h
 have c291_:=fun (R:Prop) (z:R)=>(aL eI l (aB ha1 (aM eI gxa2 z)))
 rcases aA h with ⟨ha3,h⟩ | ⟨ha3,h⟩
 ·
  exact kQ h (nA yE [rV 2 [(8,(vI (l.length:Int))),(9,vT)],(4,⟨[],[],[(14,[(vI xa2)])],[(17,vF)],[],[],[],[],[]⟩)]) [wK 0 [0,1,5] [] 0] NQ cR (fun z=>(c291_ _ (aB ha3 z)))
 exact kQ h (nA yE [rV 2 [(8,(vI (l.length:Int))),(9,vT)],(4,⟨[],[],[(14,[(vI xa2)])],[(17,vT)],[],[],[],[],[]⟩)]) [wK 1 [4] [] 0] NQ (cn rfl gF) (fun z=>(c291_ _ (aB ha3 z)))

theorem kj (n:Nat) (l:(List Int)) (n_:Int) (r:Bool) (h:mZ n l n_=some r):aw Tryz.prog 73 [.sl (l.map eI),(vI n_)] (ew (.v (.bool r))):=by
 unfold mZ at h
 obtain ⟨t1,gt1,h⟩:=ab h
 rcases t1 with w2 | w2
 ·
  obtain rfl:=aF h
  exact kP ⟨yE,[],[],[(2,(⟨[0,1,5],[],0,[],[],[]⟩,l0,(.ex 0),Q8 l n_ w2))],[]⟩ I_ (fun z=>(aI (eo (pl:=al 73) (KZ l n_) (NR l n_) (Q_ n l n_) n _ (.inl w2) gt1) z))
 ·
  obtain rfl:=aF h
  exact kP ⟨yE,[],[],[(2,(⟨[0,1,5],[],0,[],[],[]⟩,l0,.ret,Q9 l n_ w2))],[]⟩ I_ (fun z=>(aI (eo (pl:=al 73) (KZ l n_) (NR l n_) (Q_ n l n_) n _ (.inr w2) gt1) z))

def br:List (Nat×PT):=[(3,(ei [0,1,2,3,4,5,6,7,8,9,10,11,12,13])),(11,(ei [0,1,2,3,4,5,6,7,8,9,10,11,12,13,14,15,16])),(13,(ei [0,1,2,3,4,5,6,7,8,9,10,11,12,13,14,15,16,17,18,19,20,21,22,23,24,25,26,27,28]))]
theorem co:ax (al 57) br (aj Tryz.prog 57)=true:=by kernel_rfl
noncomputable def Ra:Code:=sub (aj Tryz.prog 57) [1,1,1,0,1,0,1,1,1,0,0,1,0,0]
noncomputable def Rb:Code:=sub (aj Tryz.prog 57) [1,1,1,0,1,0,1,1,1,1,1,1,1,0,1,0,0]
noncomputable def Rc:Code:=sub (aj Tryz.prog 57) [1,1,1,0,1,0,1,1,1,1,1,1,1,1,1,1,1,1,1,1,1,1,1,1,1,1,1,1,1,0,1,0,0]
noncomputable def Re:Code:=sub (aj Tryz.prog 57) [1,1,1,0,1,0,1,1,1,1,1,1,1,1,1,1,1,1,1,1,1,1,1,1,1,1,1,1,1,1,1,0,1,0,0]
theorem K0:ax (al 57) br Ra=true:=by kernel_rfl
def K3 (v:ac) (a:Int) (b:Int) (x3:Event) (x4:Event) (sa:Int):St:=ba 290 [(1,(vI a)),(2,(vI b)),(4,.ptr (.L 4) 0 0),(9,.ptr (.L 9) 0 0),(10,.ptr (.L 10) 0 0),(11,(vI sa))] [(10,(Event.enc x4)),(9,(Event.enc x3)),(4,(ac.enc v))] [] 0
def Ja (v:ac) (a:Int) (b:Int) (x3:Event) (x4:Event) (tt:Unit):St:=ba 290 [(1,(vI a)),(2,(vI b)),(4,.ptr (.L 4) 0 0),(9,.ptr (.L 9) 0 0),(10,.ptr (.L 10) 0 0)] [(10,(Event.enc x4)),(9,(Event.enc x3)),(4,(ac.enc v))] [] 0
def Rf (v:ac) (a:Int) (b:Int) (x3:Event) (x4:Event) (tt:Unit):St:=ba 290 [(8,vF)] [] [] 0
def NS (v:ac) (a:Int) (b:Int) (x3:Event) (x4:Event) (t0:(Unit⊕Unit)):Ex×St:=match t0 with | .inl tt=>(.ex 1,Ja v a b x3 x4 tt) | .inr tt=>(.ret,Rf v a b x3 x4 tt)
theorem Rh (n:Nat) (v:ac) (a:Int) (b:Int) (x3:Event) (x4:Event):∀ sa r,fe n v a b x3 x4 sa=some r→aQ Tryz.prog Ra (K3 v a b x3 x4 sa) (rk (K3 v a b x3 x4) (NS v a b x3 x4) r):=by
 intro sa r h
 unfold fe at h
 rcases aA h with ⟨ha1,h⟩ | ⟨ha1,h⟩
 ·
  exact kQ h (nA br [rV 9 [(51,vF)]]) [wK 3 [1,2,4,9,10] [] 0] K0 (cn rfl i3) (fun z=>(aB ha1 z))
 obtain ⟨xa2,gxa2,h⟩:=ab h
 obtain ⟨ya3,gya3,h⟩:=ab h
 have c292_:=fun (R:Prop) (z:R)=>(aB ha1 (aM Event.enc gxa2 (aI (bH n xa2 ya3 gya3) z)))
 let e293_:LR:=[rV 9 [(51,vT)]]
 rcases aA h with ⟨ha4,h⟩ | ⟨ha4,h⟩
 ·
  exact kQ h (nA br (e293_++[(11,⟨[],[],[(57,(Event.enc xa2))],[(60,vF)],[(59,.v (.bool ya3))],[],[],[],[]⟩)])) [wK 0 [1,2,4,9,10,11] [] 0] K0 cR (fun z=>(c292_ _ (aB ha4 z)))
 have c294_:=fun (R:Prop) (z:R)=>c292_ _ (aB ha4 (aM Event.enc gxa2 z))
 rcases ao h with ⟨ha5,h⟩ | ⟨ha5,h⟩
 ·
  exact kQ h (nA br (e293_++[(11,⟨[],[],[(57,(Event.enc xa2)),(64,(Event.enc xa2))],[(60,vT),(70,vT)],[(59,.v (.bool ya3))],[],[],[],[]⟩)])) [wK 1 [8] [10,9,4] 0] K0 (cn rfl gF) (fun z=>(c294_ _ (aB ha5 z)))
 exact kQ h (nA br (e293_++[(11,⟨[],[],[(57,(Event.enc xa2)),(64,(Event.enc xa2))],[(60,vT),(70,vF)],[(59,.v (.bool ya3))],[],[],[],[]⟩)])) [wK 0 [1,2,4,9,10,11] [] 0] K0 cR (fun z=>(c294_ _ (aB ha5 z)))

theorem Jb:ax (al 57) br Rb=true:=by kernel_rfl
def K4 (v:ac) (b:Int) (x3:Event) (x4:Event) (sa:Int):St:=ba 290 [(2,(vI b)),(4,.ptr (.L 4) 0 0),(9,.ptr (.L 9) 0 0),(10,.ptr (.L 10) 0 0),(12,(vI sa))] [(10,(Event.enc x4)),(9,(Event.enc x3)),(4,(ac.enc v))] [] 0
def Ri (v:ac) (b:Int) (x3:Event) (x4:Event) (tt:Unit):St:=ba 290 [] [] [] 0
def Rj (v:ac) (b:Int) (x3:Event) (x4:Event) (tt:Unit):St:=ba 290 [(8,vT)] [] [] 0
def NT (v:ac) (b:Int) (x3:Event) (x4:Event) (t0:(Unit⊕Unit)):Ex×St:=match t0 with | .inl tt=>(.ex 3,Ri v b x3 x4 tt) | .inr tt=>(.ret,Rj v b x3 x4 tt)
theorem Rk (n:Nat) (v:ac) (b:Int) (x3:Event) (x4:Event):∀ sa r,ff n v b x3 x4 sa=some r→aQ Tryz.prog Rb (K4 v b x3 x4 sa) (rk (K4 v b x3 x4) (NT v b x3 x4) r):=by
 intro sa r h
 unfold ff at h
 rcases aA h with ⟨ha1,h⟩ | ⟨ha1,h⟩
 ·
  exact kQ h (nA br [rV 18 [(129,vF)]]) [wK 5 [] [10,9,4] 0] Jb (cn rfl i3) (fun z=>(aB ha1 z))
 obtain ⟨xa2,gxa2,h⟩:=ab h
 have c295_:=fun (R:Prop) (z:R)=>(aB ha1 (aM Event.enc gxa2 z))
 let e296_:LR:=[rV 18 [(129,vT)],rR 20 [(135,(Event.enc xa2))]]
 rcases aA h with ⟨ha3,h⟩ | ⟨ha3,h⟩
 ·
  exact kQ h (nA br (e296_++[rV 21 [(140,vF)]])) [wK 0 [2,4,9,10,12] [13] 0] Jb cR (fun z=>(c295_ _ (aB ha3 z)))
 obtain ⟨ya4,gya4,h⟩:=ab h
 have c297_:=fun (R:Prop) (z:R)=>c295_ _ (aB ha3 (aI (tH n xa2.Pred x3 ya4 gya4) z))
 rcases aA h with ⟨ha5,h⟩ | ⟨ha5,h⟩
 ·
  exact kQ h (nA br (e296_++[aZ 21 [(140,vT),(146,vF)] [(144,.v (.bool ya4))]])) [wK 0 [2,4,9,10,12] [13] 0] Jb cR (fun z=>(c297_ _ (aB ha5 z)))
 obtain ⟨ya6,gya6,h⟩:=ab h
 have c298_:=fun (R:Prop) (z:R)=>c297_ _ (aB ha5 (aI (tH n xa2.Succ x4 ya6 gya6) z))
 rcases aA h with ⟨ha7,h⟩ | ⟨ha7,h⟩
 ·
  exact kQ h (nA br (e296_++[aZ 21 [(140,vT),(146,vT),(151,vF)] [(144,.v (.bool ya4)),(150,.v (.bool ya6))]])) [wK 0 [2,4,9,10,12] [13] 0] Jb cR (fun z=>(c298_ _ (aB ha7 z)))
 exact kQ h (nA br (e296_++[aZ 21 [(140,vT),(146,vT),(151,vT)] [(144,.v (.bool ya4)),(150,.v (.bool ya6))]])) [wK 1 [8] [13,10,9,4] 0] Jb (cn rfl gF) (fun z=>(c298_ _ (aB ha7 z)))

theorem EL:ax (al 57) br Rc=true:=by kernel_rfl
def K5 (v:ac) (b:Int) (x3:Event) (x4:Event) (sa:Int):St:=ba 290 [(2,(vI b)),(4,.ptr (.L 4) 0 0),(9,.ptr (.L 9) 0 0),(10,.ptr (.L 10) 0 0),(14,(vI sa))] [(10,(Event.enc x4)),(9,(Event.enc x3)),(4,(ac.enc v))] [] 0
def Rm (v:ac) (b:Int) (x3:Event) (x4:Event) (tt:Unit):St:=ba 290 [] [] [] 0
def Rn (v:ac) (b:Int) (x3:Event) (x4:Event) (tt:Unit):St:=ba 290 [(8,vT)] [] [] 0
def NU (v:ac) (b:Int) (x3:Event) (x4:Event) (t0:(Unit⊕Unit)):Ex×St:=match t0 with | .inl tt=>(.ex 5,Rm v b x3 x4 tt) | .inr tt=>(.ret,Rn v b x3 x4 tt)
theorem Ro (n:Nat) (v:ac) (b:Int) (x3:Event) (x4:Event):∀ sa r,fg n v b x3 x4 sa=some r→aQ Tryz.prog Rc (K5 v b x3 x4 sa) (rk (K5 v b x3 x4) (NU v b x3 x4) r):=by
 intro sa r h
 unfold fg at h
 rcases aA h with ⟨ha1,h⟩ | ⟨ha1,h⟩
 ·
  exact kQ h (nA br [rV 39 [(222,vF)]]) [wK 7 [] [10,9,4] 0] EL (cn rfl i3) (fun z=>(aB ha1 z))
 obtain ⟨xa2,gxa2,h⟩:=ab h
 obtain ⟨ya3,gya3,h⟩:=ab h
 have c299_:=fun (R:Prop) (z:R)=>(aB ha1 (aM Event.enc gxa2 (aI (dq n x4 ya3 gya3) z)))
 let e300_:LR:=[rV 39 [(222,vT)],rR 41 [(228,(Event.enc xa2))]]
 rcases aA h with ⟨ha4,h⟩ | ⟨ha4,h⟩
 ·
  exact kQ h (nA br (e300_++[aZ 42 [(232,vF)] [(231,.v (.bool ya3))]])) [wK 0 [2,4,9,10,14] [15] 0] EL cR (fun z=>(c299_ _ (aB ha4 z)))
 obtain ⟨xa5,gxa5,h⟩:=ab h
 have c301_:=fun (R:Prop) (z:R)=>c299_ _ (aB ha4 (aM eI gxa5 z))
 rcases aA h with ⟨ha6,h⟩ | ⟨ha6,h⟩
 ·
  exact kQ h (nA br (e300_++[(42,⟨[],[],[(237,[(vI xa5)])],[(232,vT),(242,vF)],[(231,.v (.bool ya3))],[],[],[],[]⟩)])) [wK 0 [2,4,9,10,14] [15] 0] EL cR (fun z=>(c301_ _ (aB ha6 z)))
 obtain ⟨ya7,gya7,h⟩:=ab h
 have c302_:=fun (R:Prop) (z:R)=>c301_ _ (aB ha6 (aI (bH n xa2 ya7 gya7) z))
 rcases aA h with ⟨ha8,h⟩ | ⟨ha8,h⟩
 ·
  exact kQ h (nA br (e300_++[(42,⟨[],[],[(237,[(vI xa5)])],[(232,vT),(242,vT),(246,vF)],[(231,.v (.bool ya3)),(244,.v (.bool ya7))],[],[],[],[]⟩)])) [wK 0 [2,4,9,10,14] [15] 0] EL cR (fun z=>(c302_ _ (aB ha8 z)))
 obtain ⟨ya9,gya9,h⟩:=ab h
 have c303_:=fun (R:Prop) (z:R)=>c302_ _ (aB ha8 (aI (kj n xa2.dg.Addr x3.At ya9 gya9) z))
 rcases ao h with ⟨ha10,h⟩ | ⟨ha10,h⟩
 ·
  exact kQ h (nA br (e300_++[(42,⟨[],[],[(237,[(vI xa5)])],[(232,vT),(242,vT),(246,vT),(253,vT)],[(231,.v (.bool ya3)),(244,.v (.bool ya7)),(252,.v (.bool ya9))],[],[],[],[]⟩)])) [wK 1 [8] [15,10,9,4] 0] EL (cn rfl gF) (fun z=>(c303_ _ (aB ha10 z)))
 obtain ⟨ya11,gya11,h⟩:=ab h
 have c304_:=fun (R:Prop) (z:R)=>c303_ _ (aB ha10 (aI (kj n xa2.dg.Data x3.At ya11 gya11) z))
 rcases aA h with ⟨ha12,h⟩ | ⟨ha12,h⟩
 ·
  exact kQ h (nA br (e300_++[(42,⟨[],[],[(237,[(vI xa5)])],[(232,vT),(242,vT),(246,vT),(253,vF),(261,vF)],[(231,.v (.bool ya3)),(244,.v (.bool ya7)),(252,.v (.bool ya9)),(259,.v (.bool ya11))],[],[],[],[]⟩)])) [wK 0 [2,4,9,10,14] [15] 0] EL cR (fun z=>(c304_ _ (aB ha12 z)))
 exact kQ h (nA br (e300_++[(42,⟨[],[],[(237,[(vI xa5)])],[(232,vT),(242,vT),(246,vT),(253,vF),(261,vT)],[(231,.v (.bool ya3)),(244,.v (.bool ya7)),(252,.v (.bool ya9)),(259,.v (.bool ya11))],[],[],[],[]⟩)])) [wK 1 [8] [15,10,9,4] 0] EL (cn rfl gF) (fun z=>(c304_ _ (aB ha12 z)))

theorem Jc:ax (al 57) br Re=true:=by kernel_rfl
def K6 (v:ac) (b:Int) (x3:Event) (x4:Event) (sa:Int):St:=ba 290 [(2,(vI b)),(4,.ptr (.L 4) 0 0),(9,.ptr (.L 9) 0 0),(10,.ptr (.L 10) 0 0),(16,(vI sa))] [(10,(Event.enc x4)),(9,(Event.enc x3)),(4,(ac.enc v))] [] 0
def Rp (v:ac) (b:Int) (x3:Event) (x4:Event) (tt:Unit):St:=ba 290 [] [] [] 0
def Rq (v:ac) (b:Int) (x3:Event) (x4:Event) (tt:Unit):St:=ba 290 [(8,vT)] [] [] 0
def NV (v:ac) (b:Int) (x3:Event) (x4:Event) (t0:(Unit⊕Unit)):Ex×St:=match t0 with | .inl tt=>(.ex 7,Rp v b x3 x4 tt) | .inr tt=>(.ret,Rq v b x3 x4 tt)
theorem Rr (n:Nat) (v:ac) (b:Int) (x3:Event) (x4:Event):∀ sa r,fh n v b x3 x4 sa=some r→aQ Tryz.prog Re (K6 v b x3 x4 sa) (rk (K6 v b x3 x4) (NV v b x3 x4) r):=by
 intro sa r h
 unfold fh at h
 rcases aA h with ⟨ha1,h⟩ | ⟨ha1,h⟩
 ·
  exact kQ h (nA br [rV 46 [(268,vF)]]) [wK 9 [] [10,9,4] 0] Jc (cn rfl i3) (fun z=>(aB ha1 z))
 obtain ⟨xa2,gxa2,h⟩:=ab h
 obtain ⟨ya3,gya3,h⟩:=ab h
 have c305_:=fun (R:Prop) (z:R)=>(aB ha1 (aM Event.enc gxa2 (aI (bH n x4 ya3 gya3) z)))
 let e306_:LR:=[rV 46 [(268,vT)],rR 48 [(274,(Event.enc xa2))]]
 rcases aA h with ⟨ha4,h⟩ | ⟨ha4,h⟩
 ·
  exact kQ h (nA br (e306_++[aZ 49 [(278,vF)] [(277,.v (.bool ya3))]])) [wK 0 [2,4,9,10,16] [17] 0] Jc cR (fun z=>(c305_ _ (aB ha4 z)))
 obtain ⟨ya5,gya5,h⟩:=ab h
 have c307_:=fun (R:Prop) (z:R)=>c305_ _ (aB ha4 (aI (fM n xa2 ya5 gya5) z))
 rcases aA h with ⟨ha6,h⟩ | ⟨ha6,h⟩
 ·
  exact kQ h (nA br (e306_++[aZ 49 [(278,vT),(282,vF)] [(277,.v (.bool ya3)),(280,.v (.bool ya5))]])) [wK 0 [2,4,9,10,16] [17] 0] Jc cR (fun z=>(c307_ _ (aB ha6 z)))
 obtain ⟨ya7,gya7,h⟩:=ab h
 have c308_:=fun (R:Prop) (z:R)=>c307_ _ (aB ha6 (aI (kj n xa2.dg.Addr x3.At ya7 gya7) z))
 rcases aA h with ⟨ha8,h⟩ | ⟨ha8,h⟩
 ·
  exact kQ h (nA br (e306_++[aZ 49 [(278,vT),(282,vT),(289,vF)] [(277,.v (.bool ya3)),(280,.v (.bool ya5)),(288,.v (.bool ya7))]])) [wK 0 [2,4,9,10,16] [17] 0] Jc cR (fun z=>(c308_ _ (aB ha8 z)))
 exact kQ h (nA br (e306_++[aZ 49 [(278,vT),(282,vT),(289,vT)] [(277,.v (.bool ya3)),(280,.v (.bool ya5)),(288,.v (.bool ya7))]])) [wK 1 [8] [17,10,9,4] 0] Jc (cn rfl gF) (fun z=>(c308_ _ (aB ha8 z)))

theorem sq (n:Nat) (v:ac) (a:Int) (b:Int) (rule:Int) (r:Bool) (h:du n v a b rule=some r):aw Tryz.prog 57 [(bq ac.enc v),(vI a),(vI b),(vI rule)] (ew (.v (.bool r))):=by
 unfold du at h
 obtain ⟨y1,gy1,h⟩:=ab h
 have c309_:=fun (R:Prop) (z:R)=>(aI (sn n v a b y1 gy1) z)
 rcases ao h with ⟨h2,h⟩ | ⟨h2,h⟩
 ·
  obtain rfl:=aF h
  exact kP (nA br [aZ 1 [(22,vT)] [(21,.v (.bool y1))]]) co (fun z=>(c309_ _ (aB h2 z)))
 obtain ⟨x3,gx3,h⟩:=ab h
 obtain ⟨x4,gx4,h⟩:=ab h
 have c310_:=fun (R:Prop) (z:R)=>c309_ _ (aB h2 (aM Event.enc gx3 (aM Event.enc gx4 z)))
 let e311_:LR:=[aZ 1 [(22,vF)] [(21,.v (.bool y1))],rR 3 [(26,(Event.enc x3)),(31,(Event.enc x4))]]
 rcases ao h with ⟨h5,h⟩ | ⟨h5,h⟩
 ·
  obtain ⟨y6,gy6,h⟩:=ab h
  have c312_:=fun (R:Prop) (z:R)=>c310_ _ (aB h5 (aI (bH n x4 y6 gy6) z))
  rcases ao h with ⟨h7,h⟩ | ⟨h7,h⟩
  ·
   obtain rfl:=aF h
   exact kP (nA br (e311_++[rV 5 [(34,vT)],aZ 6 [(38,vT)] [(37,.v (.bool y6))]])) co (fun z=>(c312_ _ (aB h7 z)))
  obtain rfl:=aF h
  exact kP (nA br (e311_++[rV 5 [(34,vT)],aZ 6 [(38,vF)] [(37,.v (.bool y6))]])) co (fun z=>(c312_ _ (aB h7 z)))
 let e313_:LR:=e311_++[rV 5 [(34,vF)]]
 rcases ao h with ⟨h6,h⟩ | ⟨h6,h⟩
 ·
  obtain ⟨t7,gt7,h⟩:=ab h
  have c314_:=fun (R:Prop) (z:R)=>c310_ _ (aB h5 (aB h6 z))
  let e315_:LR:=[rV 7 [(45,vT)]]
  rcases t7 with w8 | w8
  ·
   obtain ⟨y9,gy9,h⟩:=ab h
   have c316_:=fun (R:Prop) (z:R)=>c314_ _ (aI (eo (pl:=al 57) (K3 v a b x3 x4) (NS v a b x3 x4) (Rh n v a b x3 x4) n _ (.inl w8) gt7) (aI (dq n x3 y9 gy9) z))
   rcases aA h with ⟨h10,h⟩ | ⟨h10,h⟩
   ·
    obtain rfl:=aF h
    exact kP ⟨br,(e311_++(e313_++(e315_++[aZ 13 [(73,vF)] [(72,.v (.bool y9))]]))),[],[(9,(⟨[1,2,4,9,10,11],[],0,[],[],[]⟩,l0,(.ex 1),Ja v a b x3 x4 w8))],[]⟩ co (fun z=>(c316_ _ (aB h10 z)))
   obtain ⟨y11,gy11,h⟩:=ab h
   have c317_:=fun (R:Prop) (z:R)=>c316_ _ (aB h10 (aI (dq n x4 y11 gy11) z))
   rcases aA h with ⟨h12,h⟩ | ⟨h12,h⟩
   ·
    obtain rfl:=aF h
    exact kP ⟨br,(e311_++(e313_++(e315_++[aZ 13 [(73,vT),(77,vF)] [(72,.v (.bool y9)),(75,.v (.bool y11))]]))),[],[(9,(⟨[1,2,4,9,10,11],[],0,[],[],[]⟩,l0,(.ex 1),Ja v a b x3 x4 w8))],[]⟩ co (fun z=>(c317_ _ (aB h12 z)))
   rcases aA h with ⟨h13,h⟩ | ⟨h13,h⟩
   ·
    obtain rfl:=aF h
    exact kP ⟨br,(e311_++(e313_++(e315_++[aZ 13 [(73,vT),(77,vT),(84,vF)] [(72,.v (.bool y9)),(75,.v (.bool y11))]]))),[],[(9,(⟨[1,2,4,9,10,11],[],0,[],[],[]⟩,l0,(.ex 1),Ja v a b x3 x4 w8))],[]⟩ co (fun z=>(c317_ _ (aB h12 (aB h13 z))))
   obtain ⟨x14,gx14,h⟩:=ab h
   obtain ⟨x15,gx15,h⟩:=ab h
   obtain rfl:=aF h
   exact kP ⟨br,(e311_++(e313_++(e315_++[(13,⟨[],[],[(89,[(vI x14)]),(95,[(vI x15)])],[(73,vT),(77,vT),(84,vT)],[(72,.v (.bool y9)),(75,.v (.bool y11))],[],[],[],[]⟩)]))),[],[(9,(⟨[1,2,4,9,10,11],[],0,[],[],[]⟩,l0,(.ex 1),Ja v a b x3 x4 w8))],[]⟩ co (fun z=>(c317_ _ (aB h12 (aB h13 (aM eI gx14 (aM eI gx15 z))))))
  ·
   obtain rfl:=aF h
   exact kP ⟨br,(e311_++(e313_++(e315_++[]))),[],[(9,(⟨[1,2,4,9,10,11],[],0,[],[],[]⟩,l0,.ret,Rf v a b x3 x4 w8))],[]⟩ co (fun z=>(c314_ _ (aI (eo (pl:=al 57) (K3 v a b x3 x4) (NS v a b x3 x4) (Rh n v a b x3 x4) n _ (.inr w8) gt7) z)))
 have c318_:=fun (R:Prop) (z:R)=>c310_ _ (aB h5 (aB h6 z))
 let e319_:LR:=e313_++[rV 7 [(45,vF)]]
 rcases ao h with ⟨h7,h⟩ | ⟨h7,h⟩
 ·
  let e320_:LR:=e319_++[rV 14 [(99,vT)]]
  rcases ao h with ⟨h8,h⟩ | ⟨h8,h⟩
  ·
   obtain ⟨y9,gy9,h⟩:=ab h
   have c321_:=fun (R:Prop) (z:R)=>c318_ _ (aB h7 (aB h8 (aI (dq n x4 y9 gy9) z)))
   rcases aA h with ⟨h10,h⟩ | ⟨h10,h⟩
   ·
    obtain rfl:=aF h
    exact kP (nA br (e320_++[aZ 15 [(104,vT),(113,vF)] [(111,.v (.bool y9))]])) co (fun z=>(c321_ _ (aB h10 z)))
   obtain ⟨x11,gx11,h⟩:=ab h
   obtain rfl:=aF h
   exact kP (nA br (e320_++[(15,⟨[],[],[(118,[(vI x11)])],[(104,vT),(113,vT)],[(111,.v (.bool y9))],[],[],[],[]⟩)])) co (fun z=>(c321_ _ (aB h10 (aM eI gx11 z))))
  have c322_:=fun (R:Prop) (z:R)=>c318_ _ (aB h7 (aB h8 z))
  rcases aA h with ⟨h9,h⟩ | ⟨h9,h⟩
  ·
   obtain rfl:=aF h
   exact kP (nA br (e320_++[rV 15 [(104,vF),(109,vF)]])) co (fun z=>(c322_ _ (aB h9 z)))
  obtain ⟨y10,gy10,h⟩:=ab h
  have c323_:=fun (R:Prop) (z:R)=>c322_ _ (aB h9 (aI (dq n x4 y10 gy10) z))
  rcases aA h with ⟨h11,h⟩ | ⟨h11,h⟩
  ·
   obtain rfl:=aF h
   exact kP (nA br (e320_++[aZ 15 [(104,vF),(109,vT),(113,vF)] [(111,.v (.bool y10))]])) co (fun z=>(c323_ _ (aB h11 z)))
  obtain ⟨x12,gx12,h⟩:=ab h
  obtain rfl:=aF h
  exact kP (nA br (e320_++[(15,⟨[],[],[(118,[(vI x12)])],[(104,vF),(109,vT),(113,vT)],[(111,.v (.bool y10))],[],[],[],[]⟩)])) co (fun z=>(c323_ _ (aB h11 (aM eI gx12 z))))
 let e324_:LR:=e319_++[rV 14 [(99,vF)]]
 rcases ao h with ⟨h8,h⟩ | ⟨h8,h⟩
 ·
  obtain ⟨t9,gt9,h⟩:=ab h
  have c325_:=fun (R:Prop) (z:R)=>c318_ _ (aB h7 (aB h8 z))
  rcases t9 with w10 | w10
  ·
   obtain rfl:=aF h
   exact kP ⟨br,(e311_++(e313_++(e319_++(e324_++[rV 16 [(123,vT)]])))),[],[(18,(⟨[2,4,9,10,12],[],0,[],[],[]⟩,l0,(.ex 3),Ri v b x3 x4 w10))],[]⟩ co (fun z=>(c325_ _ (aI (eo (pl:=al 57) (K4 v b x3 x4) (NT v b x3 x4) (Rk n v b x3 x4) n _ (.inl w10) gt9) z)))
  ·
   obtain rfl:=aF h
   exact kP ⟨br,(e311_++(e313_++(e319_++(e324_++[rV 16 [(123,vT)]])))),[],[(18,(⟨[2,4,9,10,12],[],0,[],[],[]⟩,l0,.ret,Rj v b x3 x4 w10))],[]⟩ co (fun z=>(c325_ _ (aI (eo (pl:=al 57) (K4 v b x3 x4) (NT v b x3 x4) (Rk n v b x3 x4) n _ (.inr w10) gt9) z)))
 have c326_:=fun (R:Prop) (z:R)=>c318_ _ (aB h7 (aB h8 z))
 let e327_:LR:=e324_++[rV 16 [(123,vF)]]
 rcases ao h with ⟨h9,h⟩ | ⟨h9,h⟩
 ·
  obtain rfl:=aF h
  exact kP (nA br (e327_++[rV 23 [(152,vT)]])) co (fun z=>(c326_ _ (aB h9 z)))
 let e328_:LR:=e327_++[rV 23 [(152,vF)]]
 rcases ao h with ⟨h10,h⟩ | ⟨h10,h⟩
 ·
  obtain rfl:=aF h
  exact kP (nA br (e328_++[rV 25 [(156,vT)]])) co (fun z=>(c326_ _ (aB h9 (aB h10 z))))
 have c329_:=fun (R:Prop) (z:R)=>c326_ _ (aB h9 (aB h10 z))
 let e330_:LR:=e328_++[rV 25 [(156,vF)]]
 rcases ao h with ⟨h11,h⟩ | ⟨h11,h⟩
 ·
  let e331_:LR:=e330_++[rV 27 [(160,vT)]]
  rcases ao h with ⟨h12,h⟩ | ⟨h12,h⟩
  ·
   have c332_:=fun (R:Prop) (z:R)=>c329_ _ (aB h11 (aB h12 z))
   rcases ao h with ⟨h13,h⟩ | ⟨h13,h⟩
   ·
    obtain rfl:=aF h
    exact kP (nA br (e331_++[rV 28 [(164,vT),(171,vT)]])) co (fun z=>(c332_ _ (aB h13 z)))
   obtain rfl:=aF h
   exact kP (nA br (e331_++[rV 28 [(164,vT),(171,vF)]])) co (fun z=>(c332_ _ (aB h13 z)))
  have c333_:=fun (R:Prop) (z:R)=>c329_ _ (aB h11 (aB h12 z))
  rcases aA h with ⟨h13,h⟩ | ⟨h13,h⟩
  ·
   obtain rfl:=aF h
   exact kP (nA br (e331_++[rV 28 [(164,vF),(168,vF)]])) co (fun z=>(c333_ _ (aB h13 z)))
  rcases ao h with ⟨h14,h⟩ | ⟨h14,h⟩
  ·
   obtain rfl:=aF h
   exact kP (nA br (e331_++[rV 28 [(164,vF),(168,vT),(171,vT)]])) co (fun z=>(c333_ _ (aB h13 (aB h14 z))))
  obtain rfl:=aF h
  exact kP (nA br (e331_++[rV 28 [(164,vF),(168,vT),(171,vF)]])) co (fun z=>(c333_ _ (aB h13 (aB h14 z))))
 let e334_:LR:=e330_++[rV 27 [(160,vF)]]
 rcases ao h with ⟨h12,h⟩ | ⟨h12,h⟩
 ·
  have c335_:=fun (R:Prop) (z:R)=>c329_ _ (aB h11 (aB h12 z))
  rcases ao h with ⟨h13,h⟩ | ⟨h13,h⟩
  ·
   obtain rfl:=aF h
   exact kP (nA br (e334_++[rV 29 [(176,vT)],rV 30 [(181,vT)]])) co (fun z=>(c335_ _ (aB h13 z)))
  obtain rfl:=aF h
  exact kP (nA br (e334_++[rV 29 [(176,vT)],rV 30 [(181,vF)]])) co (fun z=>(c335_ _ (aB h13 z)))
 have c336_:=fun (R:Prop) (z:R)=>c329_ _ (aB h11 (aB h12 z))
 let e337_:LR:=e334_++[rV 29 [(176,vF)]]
 rcases ao h with ⟨h13,h⟩ | ⟨h13,h⟩
 ·
  obtain ⟨y14,gy14,h⟩:=ab h
  obtain rfl:=aF h
  exact kP (nA br (e337_++[rV 31 [(188,vT)],aZ 32 [] [(195,.v (.bool y14))]])) co (fun z=>(c336_ _ (aB h13 (aI (kj n x4.dg.Addr x3.At y14 gy14) z))))
 let e338_:LR:=e337_++[rV 31 [(188,vF)]]
 rcases ao h with ⟨h14,h⟩ | ⟨h14,h⟩
 ·
  obtain ⟨y15,gy15,h⟩:=ab h
  obtain rfl:=aF h
  exact kP (nA br (e338_++[rV 33 [(196,vT)],aZ 34 [] [(203,.v (.bool y15))]])) co (fun z=>(c336_ _ (aB h13 (aB h14 (aI (kj n x4.dg.Data x3.At y15 gy15) z)))))
 have c339_:=fun (R:Prop) (z:R)=>c336_ _ (aB h13 (aB h14 z))
 let e340_:LR:=e338_++[rV 33 [(196,vF)]]
 rcases ao h with ⟨h15,h⟩ | ⟨h15,h⟩
 ·
  obtain ⟨y16,gy16,h⟩:=ab h
  have c341_:=fun (R:Prop) (z:R)=>c339_ _ (aB h15 (aI (bH n x4 y16 gy16) z))
  rcases aA h with ⟨h17,h⟩ | ⟨h17,h⟩
  ·
   obtain rfl:=aF h
   exact kP (nA br (e340_++[rV 35 [(204,vT)],aZ 36 [(208,vF)] [(207,.v (.bool y16))]])) co (fun z=>(c341_ _ (aB h17 z)))
  obtain ⟨y18,gy18,h⟩:=ab h
  obtain rfl:=aF h
  exact kP (nA br (e340_++[rV 35 [(204,vT)],aZ 36 [(208,vT)] [(207,.v (.bool y16)),(214,.v (.bool y18))]])) co (fun z=>(c341_ _ (aB h17 (aI (kj n x4.dg.Way x3.At y18 gy18) z))))
 let e342_:LR:=e340_++[rV 35 [(204,vF)]]
 rcases ao h with ⟨h16,h⟩ | ⟨h16,h⟩
 ·
  obtain ⟨t17,gt17,h⟩:=ab h
  have c343_:=fun (R:Prop) (z:R)=>c339_ _ (aB h15 (aB h16 z))
  rcases t17 with w18 | w18
  ·
   obtain rfl:=aF h
   exact kP ⟨br,(e311_++(e313_++(e319_++(e324_++(e327_++(e328_++(e330_++(e334_++(e337_++(e338_++(e340_++(e342_++[rV 37 [(216,vT)]])))))))))))),[],[(39,(⟨[2,4,9,10,14],[],0,[],[],[]⟩,l0,(.ex 5),Rm v b x3 x4 w18))],[]⟩ co (fun z=>(c343_ _ (aI (eo (pl:=al 57) (K5 v b x3 x4) (NU v b x3 x4) (Ro n v b x3 x4) n _ (.inl w18) gt17) z)))
  ·
   obtain rfl:=aF h
   exact kP ⟨br,(e311_++(e313_++(e319_++(e324_++(e327_++(e328_++(e330_++(e334_++(e337_++(e338_++(e340_++(e342_++[rV 37 [(216,vT)]])))))))))))),[],[(39,(⟨[2,4,9,10,14],[],0,[],[],[]⟩,l0,.ret,Rn v b x3 x4 w18))],[]⟩ co (fun z=>(c343_ _ (aI (eo (pl:=al 57) (K5 v b x3 x4) (NU v b x3 x4) (Ro n v b x3 x4) n _ (.inr w18) gt17) z)))
 have c344_:=fun (R:Prop) (z:R)=>c339_ _ (aB h15 (aB h16 z))
 let e345_:LR:=e342_++[rV 37 [(216,vF)]]
 rcases aA h with ⟨h17,h⟩ | ⟨h17,h⟩
 ·
  obtain rfl:=aF h
  exact kP (nA br (e345_++[rV 44 [(262,vF)]])) co (fun z=>(c344_ _ (aB h17 z)))
 obtain ⟨t18,gt18,h⟩:=ab h
 rcases t18 with w19 | w19
 ·
  obtain rfl:=aF h
  exact kP ⟨br,(e311_++(e313_++(e319_++(e324_++(e327_++(e328_++(e330_++(e334_++(e337_++(e338_++(e340_++(e342_++(e345_++[rV 44 [(262,vT)]]))))))))))))),[],[(46,(⟨[2,4,9,10,16],[],0,[],[],[]⟩,l0,(.ex 7),Rp v b x3 x4 w19))],[]⟩ co (fun z=>(c344_ _ (aB h17 (aI (eo (pl:=al 57) (K6 v b x3 x4) (NV v b x3 x4) (Rr n v b x3 x4) n _ (.inl w19) gt18) z))))
 ·
  obtain rfl:=aF h
  exact kP ⟨br,(e311_++(e313_++(e319_++(e324_++(e327_++(e328_++(e330_++(e334_++(e337_++(e338_++(e340_++(e342_++(e345_++[rV 44 [(262,vT)]]))))))))))))),[],[(46,(⟨[2,4,9,10,16],[],0,[],[],[]⟩,l0,.ret,Rq v b x3 x4 w19))],[]⟩ co (fun z=>(c344_ _ (aB h17 (aI (eo (pl:=al 57) (K6 v b x3 x4) (NV v b x3 x4) (Rr n v b x3 x4) n _ (.inr w19) gt18) z))))

def yF:List (Nat×PT):=[]
theorem Jd:ax (al 32) yF (aj Tryz.prog 32)=true:=by kernel_rfl
noncomputable def Rs:Code:=sub (aj Tryz.prog 32) [1,0,1,0,0]
theorem NW:ax (al 32) yF Rs=true:=by kernel_rfl
def K7 (v:ac) (a:Int) (b:Int) (sa:Int):St:=ba 18 [(1,(vI a)),(2,(vI b)),(3,.ptr (.L 3) 0 0),(7,(vI sa))] [(3,(ac.enc v))] [] 0
def Rt (v:ac) (a:Int) (b:Int) (tt:Unit):St:=ba 18 [] [] [] 0
def Ru (v:ac) (a:Int) (b:Int) (tt:Int):St:=ba 18 [(6,(vI tt))] [] [] 0
def NX (v:ac) (a:Int) (b:Int) (t0:(Unit⊕Int)):Ex×St:=match t0 with | .inl tt=>(.ex 0,Rt v a b tt) | .inr tt=>(.ret,Ru v a b tt)
theorem Rv (n:Nat) (v:ac) (a:Int) (b:Int):∀ sa r,fI n v a b sa=some r→aQ Tryz.prog Rs (K7 v a b sa) (rk (K7 v a b) (NX v a b) r):=by
 intro sa r h
 unfold fI at h
 rcases aA h with ⟨ha1,h⟩ | ⟨ha1,h⟩
 ·
  exact kQ h (nA yF [rV 2 [(9,vF)]]) [wK 2 [] [3] 0] NW (cn rfl i3) (fun z=>(aB ha1 z))
 obtain ⟨ya2,gya2,h⟩:=ab h
 have c346_:=fun (R:Prop) (z:R)=>(aB ha1 (aI (sq n v a b sa ya2 gya2) z))
 rcases aA h with ⟨ha3,h⟩ | ⟨ha3,h⟩
 ·
  exact kQ h (nA yF [rV 2 [(9,vT)],aZ 4 [(16,vF)] [(16,.v (.bool ya2))]]) [wK 0 [1,2,3,7] [] 0] NW cR (fun z=>(c346_ _ (aB ha3 z)))
 exact kQ h (nA yF [rV 2 [(9,vT)],aZ 4 [(16,vT)] [(16,.v (.bool ya2))]]) [wK 1 [6] [3] 0] NW (cn rfl gF) (fun z=>(c346_ _ (aB ha3 z)))

theorem mV (n:Nat) (v:ac) (a:Int) (b:Int) (r:Int) (h:bL n v a b=some r):aw Tryz.prog 32 [(bq ac.enc v),(vI a),(vI b)] (ew ((vI r))):=by
 unfold bL at h
 obtain ⟨t1,gt1,h⟩:=ab h
 rcases t1 with w2 | w2
 ·
  obtain rfl:=aF h
  exact kP ⟨yF,[],[],[(2,(⟨[1,2,3,7],[],0,[],[],[]⟩,l0,(.ex 0),Rt v a b w2))],[]⟩ Jd (fun z=>(aI (eo (pl:=al 32) (K7 v a b) (NX v a b) (Rv n v a b) n _ (.inl w2) gt1) z))
 ·
  obtain rfl:=aF h
  exact kP ⟨yF,[],[],[(2,(⟨[1,2,3,7],[],0,[],[],[]⟩,l0,.ret,Ru v a b w2))],[]⟩ Jd (fun z=>(aI (eo (pl:=al 32) (K7 v a b) (NX v a b) (Rv n v a b) n _ (.inr w2) gt1) z))

def qm:List (Nat×PT):=[(7,(ei [0,1,2,3,4,5,6,7,8,9,10,11,12,13,14,15,16,17,18,19]))]
theorem NY:ax (al 11) qm (aj Tryz.prog 11)=true:=by kernel_rfl
noncomputable def NZ:Code:=sub (aj Tryz.prog 11) [1,1,1,0,1,0,0]
noncomputable def Rw:Code:=sub NZ [1,0,0,1,0,0]
theorem K8:ax (al 11) qm Rw=true:=by kernel_rfl
def N0 (y1:ac×Bool) (sb:(List (b_ Int))×Int×Int):St:=ba 59 [(3,.ptr (.L 3) 0 0),(4,.v (.bool y1.2)),(5,.mf 0),(6,(vI sb.2.1)),(7,(vI sb.2.2)),(19,.v (.bool y1.2))] [(3,(ac.enc y1.1))] [.arr true 2 (sb.1.map (ft eI))] 0
def Rx (y1:ac×Bool) (tt:(List (b_ Int))×Int):St:=ba 59 [(3,.ptr (.L 3) 0 0),(4,.v (.bool y1.2)),(5,.mf 0),(6,(vI tt.2)),(19,.v (.bool y1.2))] [(3,(ac.enc y1.1))] [.arr true 2 (tt.1.map (ft eI))] 0
def Ry (y1:ac×Bool) (tt:((List (b_ Int))×Int)):Ex×St:=(.ex 2,Rx y1 tt)
theorem Tz (n:Nat) (y1:ac×Bool):∀ sb r,lv n y1 sb=some r→aQ Tryz.prog Rw (N0 y1 sb) (rk (N0 y1) (Ry y1) r):=by
 intro sb r h
 unfold lv at h
 rcases aA h with ⟨hb1,h⟩ | ⟨hb1,h⟩
 ·
  exact kQ h (nA qm [rV 7 [(28,(vI (y1.1.All.length:Int))),(30,vF)]]) [wK 4 [3,4,5,6,19] [] 1] K8 (cn rfl i3) (fun z=>(aL Event.enc y1.1.All (aB hb1 z)))
 obtain ⟨xb2,gxb2,h⟩:=ab h
 obtain ⟨xb3,gxb3,h⟩:=ab h
 have c347_:=fun (R:Prop) (z:R)=>(aL Event.enc y1.1.All (aB hb1 (aM Event.enc gxb2 (aM Event.enc gxb3 z))))
 rcases aA h with ⟨hb4,h⟩ | ⟨hb4,h⟩
 ·
  exact kQ h (nA qm [(7,⟨[],[],[(34,(Event.enc xb2)),(40,(Event.enc xb3))],[(28,(vI (y1.1.All.length:Int))),(30,vT),(44,vF)],[],[],[],[],[]⟩)]) [wK 4 [3,4,5,6,19] [] 1] K8 (cn rfl i3) (fun z=>(c347_ _ (aB hb4 z)))
 obtain ⟨yb5,gyb5,h⟩:=ab h
 have c348_:=fun (R:Prop) (z:R)=>c347_ _ (aB hb4 (aI (mV n y1.1 sb.2.1 sb.2.2 yb5 gyb5) z))
 rcases aA h with ⟨hb6,h⟩ | ⟨hb6,h⟩
 ·
  exact kQ h (nA qm [(7,⟨[],[],[(34,(Event.enc xb2)),(40,(Event.enc xb3))],[(28,(vI (y1.1.All.length:Int))),(30,vT),(44,vT)],[],[],[],[],[]⟩),aZ 9 [(51,vF)] [(50,(vI yb5))]]) [wK 0 [3,4,5,6,7,19] [] 1] K8 cR (fun z=>(c348_ _ (aB hb6 z)))
 obtain ⟨hb7,h⟩:=ey h
 exact kQ h (nA qm [(7,⟨[],[],[(34,(Event.enc xb2)),(40,(Event.enc xb3))],[(28,(vI (y1.1.All.length:Int))),(30,vT),(44,vT)],[],[],[],[],[]⟩),aZ 9 [(51,vT)] [(50,(vI yb5))],(10,⟨[],[57],[],[],[],[],[(57,(0,(sb.1++([(b_.mk sb.2.1 sb.2.2)]:List (b_ Int))).map (ft eI)))],[],[]⟩)]) [wK 0 [3,4,5,6,7,19] [] 1] K8 cR (fun z=>(c348_ _ (aB hb6 (aI (rfl:cH 2 [[(vI sb.2.1),(vI sb.2.2)]]=true) (aI (rfl:aT [[(vI sb.2.1),(vI sb.2.2)]]=true) (aI (iZ hb7:Nat.ble (((sb.1.map (ft eI)).length + 1) * 16) 140737488355328=true) (aI (lz (ft eI) sb.1 ([(b_.mk sb.2.1 sb.2.2)]:List (b_ Int))) z)))))))

theorem N1:ax (al 11) qm NZ=true:=by kernel_rfl
def N2 (y1:ac×Bool) (sa:(List (b_ Int))×Int):St:=ba 59 [(3,.ptr (.L 3) 0 0),(4,.v (.bool y1.2)),(5,.mf 0),(6,(vI sa.2))] [(3,(ac.enc y1.1))] [.arr true 2 (sa.1.map (ft eI))] 0
def Rz (y1:ac×Bool) (tt:(List (b_ Int))):St:=ba 59 [(5,.mf 0)] [] [.arr true 2 (tt.map (ft eI))] 0
def RA (y1:ac×Bool) (tt:((List (b_ Int)))):Ex×St:=(.ex 0,Rz y1 tt)
theorem TA (n:Nat) (y1:ac×Bool):∀ sa r,je n y1 sa=some r→aQ Tryz.prog NZ (N2 y1 sa) (rk (N2 y1) (RA y1) r):=by
 intro sa r h
 unfold je at h
 rcases aA h with ⟨ha1,h⟩ | ⟨ha1,h⟩
 ·
  exact kQ h (nA qm [rV 4 [(16,(vI (y1.1.All.length:Int))),(18,vF)]]) [wK 2 [5] [3] 1] N1 (cn rfl i3) (fun z=>(aL Event.enc y1.1.All (aB ha1 z)))
 have c349_:=fun (R:Prop) (z:R)=>(aL Event.enc y1.1.All (aB ha1 z))
 rcases aA h with ⟨ha2,h⟩ | ⟨ha2,h⟩
 ·
  exact kQ h (nA qm [rV 4 [(16,(vI (y1.1.All.length:Int))),(18,vT),(20,vF)]]) [wK 2 [5] [3] 1] N1 (cn rfl i3) (fun z=>(c349_ _ (aB ha2 z)))
 obtain ⟨ta3,gta3,h⟩:=ab h
 exact kQ h ⟨qm,[rV 4 [(16,(vI (y1.1.All.length:Int))),(18,vT),(20,vT)]],[],[(7,(⟨[3,4,5,6,7,19],[],1,[],[],[]⟩,l0,(.ex 2),Rx y1 ta3))],[]⟩ [wK 0 [3,4,5,6] [] 1] N1 cR (fun z=>(c349_ _ (aB ha2 (aI (eo (pl:=al 11) (N0 y1) (Ry y1) (Tz n y1) n _ ta3 gta3) z))))

theorem zB (n:Nat) (c:af) (r:(List (b_ Int))) (h:nv n c=some r):aw Tryz.prog 11 [(bq af.enc c)] (ew (.sl (r.map (ft eI)))):=by
 unfold nv at h
 obtain ⟨y1,gy1,h⟩:=ab h
 obtain ⟨t2,gt2,h⟩:=ab h
 obtain rfl:=aF h
 exact kP ⟨qm,[aZ 1 [] [(10,.tup [(bq ac.enc y1.1),.v (.bool y1.2)])]],[],[(4,(⟨[3,4,5,6],[1],0,[(5,2)],[],[]⟩,l0,(.ex 0),Rz y1 t2))],[]⟩ NY (fun z=>(aI (sk n c y1 gy1) (aI (eo (pl:=al 11) (N2 y1) (RA y1) (TA n y1) n _ t2 gt2) z)))

def FX:List (Nat×PT):=[]
theorem EM:ax (al 12) FX (aj Tryz.prog 12)=true:=by kernel_rfl
theorem tI (n:Nat) (n_:Int) (m:Int) (r:Int) (h:nw n n_ m=some r):aw Tryz.prog 12 [(vI n_),(vI m)] (ew ((vI r))):=by
 unfold nw at h
 rcases ao h with ⟨h1,h⟩ | ⟨h1,h⟩
 ·
  obtain rfl:=aF h
  exact kP (nA FX [rV 1 [(7,vT)]]) EM (fun z=>(aB h1 z))
 obtain ⟨h2,h⟩:=ey h
 rcases ao h with ⟨h3,h⟩ | ⟨h3,h⟩
 ·
  obtain rfl:=aF h
  exact kP (nA FX [rV 1 [(7,vF)],(3,⟨[],[10],[],[],[],[],[],[],[]⟩),rV 4 [(12,vT)]]) EM (fun z=>(aB h1 (aI h2 (aB h3 z))))
 obtain rfl:=aF h
 exact kP (nA FX [rV 1 [(7,vF)],(3,⟨[],[10],[],[],[],[],[],[],[]⟩),rV 4 [(12,vF)]]) EM (fun z=>(aB h1 (aI h2 (aB h3 z))))

def LV:List (Nat×PT):=[]
theorem N3:ax (al 33) LV (aj Tryz.prog 33)=true:=by kernel_rfl
theorem uY (n:Nat) (l:(List Cell)) (r:(List Cell)) (h:jf n l=some r):aw Tryz.prog 33 [.sl (l.map Cell.enc)] (ew (.sl (r.map Cell.enc))):=by
 unfold jf at h
 obtain ⟨h1,h⟩:=ey h
 obtain rfl:=aF h
 exact kP (nA LV [(1,⟨[],[5],[],[],[],[],[],[],[]⟩)]) N3 (fun z=>(aI (Hf:cH 2 (l.map Cell.enc)=true) (aI (FG:aT (l.map Cell.enc)=true) (aI (mS h1:Nat.ble ((l.map Cell.enc).length * 16) 140737488355328=true) z))))

def FY:List (Nat×PT):=[]
theorem EN:ax (al 34) FY (aj Tryz.prog 34)=true:=by kernel_rfl
def o9 (l:(List Int)) (y:Unit):AV×List Ob:=(.mf 0,[.arr true 1 (l.map eI)])
theorem mW (n:Nat) (l:(List Int)) (y:Unit) (h:gy n l=some y):SD Tryz.prog 34 [.sl (l.map eI)] [] (fun r' o'=>r'=(o9 l y).1∧o'=(o9 l y).2):=by
 unfold gy at h
 obtain ⟨h1,h⟩:=ey h
 obtain rfl:=aF h
 exact kS (nA FY [(1,⟨[],[5],[],[],[],[],[],[],[]⟩)]) EN ⟨rfl,rfl⟩ (fun z=>(aI (Hf:cH 1 (l.map eI)=true) (aI (FG:aT (l.map eI)=true) (aI (mS h1:Nat.ble ((l.map eI).length * 8) 140737488355328=true) z))))

def nR (l:(List Int)) (oA:(List Int)) (y:Unit):AV×List Ob:=(.mf 1,[.arr true 1 (oA.map eI),.arr true 1 (l.map eI)])
theorem mq (n:Nat) (l:(List Int)) (oA:(List Int)) (y:Unit) (h:fJ n l oA=some y):SD Tryz.prog 34 [.sl (l.map eI)] [.arr true 1 (oA.map eI)] (fun r' o'=>r'=(nR l oA y).1∧o'=(nR l oA y).2):=by
 unfold fJ at h
 obtain ⟨h1,h⟩:=ey h
 obtain rfl:=aF h
 exact kS (nA FY [(1,⟨[],[5],[],[],[],[],[],[],[]⟩)]) EN ⟨rfl,rfl⟩ (fun z=>(aI (Hf:cH 1 (l.map eI)=true) (aI (FG:aT (l.map eI)=true) (aI (mS h1:Nat.ble ((l.map eI).length * 8) 140737488355328=true) z))))

def nS (l:(List Int)) (oA:(List Int)) (oB:(List Int)) (y:Unit):AV×List Ob:=(.mf 2,[.arr true 1 (oA.map eI),.arr true 1 (oB.map eI),.arr true 1 (l.map eI)])
theorem sr (n:Nat) (l:(List Int)) (oA:(List Int)) (oB:(List Int)) (y:Unit) (h:jg n l oA oB=some y):SD Tryz.prog 34 [.sl (l.map eI)] [.arr true 1 (oA.map eI),.arr true 1 (oB.map eI)] (fun r' o'=>r'=(nS l oA oB y).1∧o'=(nS l oA oB y).2):=by
 unfold jg at h
 obtain ⟨h1,h⟩:=ey h
 obtain rfl:=aF h
 exact kS (nA FY [(1,⟨[],[5],[],[],[],[],[],[],[]⟩)]) EN ⟨rfl,rfl⟩ (fun z=>(aI (Hf:cH 1 (l.map eI)=true) (aI (FG:aT (l.map eI)=true) (aI (mS h1:Nat.ble ((l.map eI).length * 8) 140737488355328=true) z))))

def LW:List (Nat×PT):=[(1,(ei [0,1,2,3,4,5,6,7,8,9,10]))]
theorem N4:ax (al 74) LW (aj Tryz.prog 74)=true:=by kernel_rfl
theorem wh (n:Nat) (d:dg) (r:dg) (h:kE n d=some r):aw Tryz.prog 74 [(bq dg.enc d)] (ew ((bq dg.enc r))):=by
 unfold kE at h
 obtain ⟨y1,gy1,h⟩:=ab h
 obtain ⟨y2,gy2,h⟩:=ab h
 obtain ⟨y3,gy3,h⟩:=ab h
 obtain rfl:=aF h
 exact kP (nA LW [(1,⟨[],[],[],[],[],[(5,(.mf 0,[.arr true 1 (d.Addr.map eI)])),(8,(.mf 1,[.arr true 1 (d.Addr.map eI),.arr true 1 (d.Data.map eI)])),(11,(.mf 2,[.arr true 1 (d.Addr.map eI),.arr true 1 (d.Data.map eI),.arr true 1 (d.Way.map eI)]))],[],[],[]⟩)]) N4 (fun z=>(aI (mW n d.Addr y1 gy1) (aI (mq n d.Data d.Addr y2 gy2) (aI (sr n d.Way d.Addr d.Data y3 gy3) z))))

def LX:List (Nat×PT):=[]
theorem N5:ax (al 58) LX (aj Tryz.prog 58)=true:=by kernel_rfl
theorem uZ (n:Nat) (e:Event) (r:Event) (h:jh n e=some r):aw Tryz.prog 58 [(bq Event.enc e)] (ew ((bq Event.enc r))):=by
 unfold jh at h
 obtain ⟨y1,gy1,h⟩:=ab h
 obtain rfl:=aF h
 exact kP (nA LX [aZ 1 [] [(5,(bq dg.enc y1))]]) N5 (fun z=>(aI (wh n e.dg y1 gy1) z))

def Dk:List (Nat×PT):=[]
theorem N6:ax (al 35) Dk (aj Tryz.prog 35)=true:=by kernel_rfl
noncomputable def RB:Code:=sub (aj Tryz.prog 35) [1,1,0,1,0,0]
theorem RD:ax (al 35) Dk RB=true:=by kernel_rfl
def N7 (l:(List Event)) (sa:(List Event)×Int):St:=ba 20 [(0,.sl (l.map Event.enc)),(3,.mf 0),(4,(vI sa.2))] [] [.arr true 14 (sa.1.map Event.enc)] 0
def RE (l:(List Event)) (tt:(List Event)):St:=ba 20 [(3,.mf 0)] [] [.arr true 14 (tt.map Event.enc)] 0
def RF (l:(List Event)) (tt:((List Event))):Ex×St:=(.ex 0,RE l tt)
theorem TB (n:Nat) (l:(List Event)):∀ sa r,gU n l sa=some r→aQ Tryz.prog RB (N7 l sa) (rk (N7 l) (RF l) r):=by
 intro sa r h
 unfold gU at h
 rcases aA h with ⟨ha1,h⟩ | ⟨ha1,h⟩
 ·
  exact kQ h (nA Dk [rV 3 [(7,(vI (l.length:Int))),(8,vF)]]) [wK 2 [3] [] 1] RD (cn rfl i3) (fun z=>(aL Event.enc l (aB ha1 z)))
 obtain ⟨xa2,gxa2,h⟩:=ab h
 obtain ⟨ya3,gya3,h⟩:=ab h
 obtain ⟨ha4,h⟩:=ey h
 exact kQ h (nA Dk [rV 3 [(7,(vI (l.length:Int))),(8,vT)],(5,⟨[],[18],[(14,(Event.enc xa2))],[],[(16,(bq Event.enc ya3))],[],[(18,(0,(sa.1++([ya3]:List Event)).map Event.enc))],[],[]⟩)]) [wK 0 [0,3,4] [] 1] RD cR (fun z=>(aL Event.enc l (aB ha1 (aM Event.enc gxa2 (aI (uZ n xa2 ya3 gya3) (aI (rfl:cH 14 [(Event.enc ya3)]=true) (aI (rfl:aT [(Event.enc ya3)]=true) (aI (iZ ha4:Nat.ble (((sa.1.map Event.enc).length + 1) * 152) 140737488355328=true) (aI (lz Event.enc sa.1 ([ya3]:List Event)) z)))))))))

theorem tJ (n:Nat) (l:(List Event)) (r:(List Event)) (h:fx n l=some r):aw Tryz.prog 35 [.sl (l.map Event.enc)] (ew (.sl (r.map Event.enc))):=by
 unfold fx at h
 obtain ⟨t1,gt1,h⟩:=ab h
 obtain rfl:=aF h
 exact kP ⟨Dk,[],[],[(3,(⟨[0,3,4],[],0,[(3,14)],[],[]⟩,l0,(.ex 0),RE l t1))],[]⟩ N6 (fun z=>(aI (eo (pl:=al 35) (N7 l) (RF l) (TB n l) n _ t1 gt1) z))

def Dl:List (Nat×PT):=[(1,(ei [0,1,2,3,4,5,6,7,8,9,10,11])),(5,(ei [0,1,2,3,4,5,6,7,8,9,10,11]))]
theorem N8:ax (al 13) Dl (aj Tryz.prog 13)=true:=by kernel_rfl
noncomputable def RG:Code:=sub (aj Tryz.prog 13) [1,1,0,1,0,0]
theorem RH:ax (al 13) Dl RG=true:=by kernel_rfl
def N9 (c:af) (y1:(List Cell)) (sa:(List (List Event))×Int):St:=ba 34 [(1,.ptr (.L 1) 0 0),(2,.ptr (.L 2) 0 0),(3,.ptr (.L 3) 0 0),(4,(vI sa.2))] [(3,[.sl (y1.map Cell.enc),.mf 2,.mf 0,.mf 1]),(2,[.nilsl,.nilsl,.nilsl,.nilsl]),(1,(af.enc c))] [.arr true 1 (c.la.map eI),.arr true 1 (c.bt.map eI),.arr true 1 (sa.1.map (dA Event.enc))] 0
def RI (c:af) (y1:(List Cell)) (tt:(List (List Event))):St:=ba 34 [(2,.ptr (.L 2) 0 0),(3,.ptr (.L 3) 0 0)] [(3,[.sl (y1.map Cell.enc),.mf 2,.mf 0,.mf 1]),(2,[.nilsl,.nilsl,.nilsl,.nilsl])] [.arr true 1 (c.la.map eI),.arr true 1 (c.bt.map eI),.arr true 1 (tt.map (dA Event.enc))] 0
def RJ (c:af) (y1:(List Cell)) (tt:((List (List Event)))):Ex×St:=(.ex 0,RI c y1 tt)
theorem TC (n:Nat) (c:af) (y1:(List Cell)):∀ sa r,gV n c y1 sa=some r→aQ Tryz.prog RG (N9 c y1 sa) (rk (N9 c y1) (RJ c y1) r):=by
 intro sa r h
 unfold gV at h
 rcases aA h with ⟨ha1,h⟩ | ⟨ha1,h⟩
 ·
  exact kQ h (nA Dl [rV 3 [(18,(vI (c.am.length:Int))),(19,vF)]]) [wK 2 [2,3] [1] 3] RH (cn rfl i3) (fun z=>(aL (dA Event.enc) c.am (aB ha1 z)))
 obtain ⟨xa2,gxa2,h⟩:=ab h
 obtain ⟨ya3,gya3,h⟩:=ab h
 obtain ⟨ha4,h⟩:=ey h
 exact kQ h (nA Dl [rV 3 [(18,(vI (c.am.length:Int))),(19,vT)],(5,⟨[],[31],[(27,[.sl (xa2.map Event.enc)])],[],[(29,.sl (ya3.map Event.enc))],[],[(31,(2,(sa.1++([ya3]:List (List Event))).map (dA Event.enc)))],[],[]⟩)]) [wK 0 [1,2,3,4] [] 3] RH cR (fun z=>(aL (dA Event.enc) c.am (aB ha1 (aM (dA Event.enc) gxa2 (aI (tJ n xa2 ya3 gya3) (aI (rfl:cH 1 [[.sl (ya3.map Event.enc)]]=true) (aI (rfl:aT [[.sl (ya3.map Event.enc)]]=true) (aI (iZ ha4:Nat.ble (((sa.1.map (dA Event.enc)).length + 1) * 24) 140737488355328=true) (aI (lz (dA Event.enc) sa.1 ([ya3]:List (List Event))) z)))))))))

def o_ (c:af) (y:((List Cell)×(List Int)×(List Int)×(List (List Event)))):AV×List Ob:=(.agg [.sl (y.1.map Cell.enc),.mf 2,.mf 0,.mf 1],[.arr true 1 (y.2.1.map eI),.arr true 1 (y.2.2.1.map eI),.arr true 1 (y.2.2.2.map (dA Event.enc))])
theorem tK (n:Nat) (c:af) (y:((List Cell)×(List Int)×(List Int)×(List (List Event)))) (h:io n c=some y):SD Tryz.prog 13 [(bq af.enc c)] [] (fun r' o'=>r'=(o_ c y).1∧o'=(o_ c y).2):=by
 unfold io at h
 obtain ⟨y1,gy1,h⟩:=ab h
 obtain ⟨y2,gy2,h⟩:=ab h
 obtain ⟨y3,gy3,h⟩:=ab h
 obtain ⟨t4,gt4,h⟩:=ab h
 obtain rfl:=aF h
 exact kS ⟨Dl,[(1,⟨[],[],[],[],[(7,.sl (y1.map Cell.enc))],[(10,(.mf 0,[.arr true 1 (c.la.map eI)])),(13,(.mf 1,[.arr true 1 (c.la.map eI),.arr true 1 (c.bt.map eI)]))],[],[],[]⟩)],[],[(3,(⟨[1,2,3,4],[],2,[],[(3,1,1)],[]⟩,l0,(.ex 0),RI c y1 t4))],[]⟩ N8 ⟨rfl,rfl⟩ (fun z=>(aI (uY n c.gc y1 gy1) (aI (mW n c.la y2 gy2) (aI (mq n c.bt c.la y3 gy3) (aI (eo (pl:=al 13) (N9 c y1) (RJ c y1) (TC n c y1) n _ t4 gt4) z)))))

def Je:List (Nat×PT):=[]
theorem Jf:ax (al 14) Je (aj Tryz.prog 14)=true:=by kernel_rfl
theorem BO (n:Nat) (c:af) (a:Int) (b:Int) (r:Int) (h:pq n c a b=some r):aw Tryz.prog 14 [(bq af.enc c),(vI a),(vI b)] (ew ((vI r))):=by
 unfold pq at h
 obtain ⟨y1,gy1,h⟩:=ab h
 rcases ao h with ⟨h2,h⟩ | ⟨h2,h⟩
 ·
  obtain rfl:=aF h
  exact kP (nA Je [aZ 1 [] [(11,.tup [(bq ac.enc y1.1),.v (.bool y1.2)])],rV 2 [(15,vT)]]) Jf (fun z=>(aI (sk n c y1 gy1) (aB h2 z)))
 obtain ⟨y3,gy3,h⟩:=ab h
 obtain rfl:=aF h
 exact kP (nA Je [aZ 1 [] [(11,.tup [(bq ac.enc y1.1),.v (.bool y1.2)])],rV 2 [(15,vF)],aZ 4 [] [(19,(vI y3))]]) Jf (fun z=>(aI (sk n c y1 gy1) (aB h2 (aI (mV n y1.1 a b y3 gy3) z))))

def wi:List (Nat×PT):=[(10,(ei [0,1,2,3,4,5,6,7,8,9,10,11,12,13,14,15,16])),(12,(ei [0,1,2,3,4,5,6,7,8,9,10,11])),(13,(ei [0,1,2,3,4,5,6,7,8,9,10,11,12,13,14,15])),(15,(ei [0,1,2,3,4,5,6,7,8,9,10,11,12,13,14,15]))]
theorem yG:ax (al 3) wi (aj Tryz.prog 3)=true:=by kernel_rfl
noncomputable def RL:Code:=sub (aj Tryz.prog 3) [1,1,1,1,1,0,1,0,0]
theorem N_:ax (al 3) wi RL=true:=by kernel_rfl
def K9 (c:af) (i:Int) (k:Int) (y8:(List Int)) (y9:(List (b_ Int))) (sa:Int):St:=ba 106 [(1,(vI i)),(2,(vI k)),(3,.ptr (.L 3) 0 0),(7,.sl (y8.map eI)),(8,.sl (y9.map (ft eI))),(9,(vI sa))] [(3,(af.enc c))] [] 0
def Oa (c:af) (i:Int) (k:Int) (y8:(List Int)) (y9:(List (b_ Int))) (tt:Unit):St:=ba 106 [(1,(vI i)),(2,(vI k)),(3,.ptr (.L 3) 0 0)] [(3,(af.enc c))] [] 0
def RN (c:af) (i:Int) (k:Int) (y8:(List Int)) (y9:(List (b_ Int))) (tt:Unit):St:=ba 106 [(6,vF)] [] [] 0
def Oc (c:af) (i:Int) (k:Int) (y8:(List Int)) (y9:(List (b_ Int))) (t0:(Unit⊕Unit)):Ex×St:=match t0 with | .inl tt=>(.ex 0,Oa c i k y8 y9 tt) | .inr tt=>(.ret,RN c i k y8 y9 tt)
theorem RO (n:Nat) (c:af) (i:Int) (k:Int) (y8:(List Int)) (y9:(List (b_ Int))):∀ sa r,fZ n c i k y8 y9 sa=some r→aQ Tryz.prog RL (K9 c i k y8 y9 sa) (rk (K9 c i k y8 y9) (Oc c i k y8 y9) r):=by
 intro sa r h
 unfold fZ at h
 rcases aA h with ⟨ha1,h⟩ | ⟨ha1,h⟩
 ·
  exact kQ h (nA wi [rV 8 [(35,(vI (y9.length:Int))),(36,vF)]]) [wK 2 [1,2,3] [] 0] N_ (cn rfl i3) (fun z=>(aL (ft eI) y9 (aB ha1 z)))
 obtain ⟨xa2,gxa2,h⟩:=ab h
 obtain ⟨xa3,gxa3,h⟩:=ab h
 obtain ⟨xa4,gxa4,h⟩:=ab h
 have d0_:DC (y9.map (ft eI)) sa=some [(vI xa2.e0),(vI xa2.e1)]:=nf (ft eI) gxa2
 have c350_:=fun (R:Prop) (z:R)=>(aL (ft eI) y9 (aB ha1 (aI d0_ (aM eI gxa3 (aI d0_ (aM eI gxa4 z))))))
 rcases ao h with ⟨ha5,h⟩ | ⟨ha5,h⟩
 ·
  exact kQ h (nA wi [rV 8 [(35,(vI (y9.length:Int))),(36,vT)],(10,⟨[],[],[(42,[(vI xa2.e0),(vI xa2.e1)]),(45,[(vI xa3)]),(50,[(vI xa2.e0),(vI xa2.e1)]),(53,[(vI xa4)])],[(55,vT)],[],[],[],[],[]⟩)]) [wK 1 [6] [3] 0] N_ (cn rfl gF) (fun z=>(c350_ _ (aB ha5 z)))
 exact kQ h (nA wi [rV 8 [(35,(vI (y9.length:Int))),(36,vT)],(10,⟨[],[],[(42,[(vI xa2.e0),(vI xa2.e1)]),(45,[(vI xa3)]),(50,[(vI xa2.e0),(vI xa2.e1)]),(53,[(vI xa4)])],[(55,vF)],[],[],[],[],[]⟩)]) [wK 0 [1,2,3,7,8,9] [] 0] N_ cR (fun z=>(c350_ _ (aB ha5 z)))

theorem qR (n:Nat) (c:af) (i:Int) (k:Int) (r:Bool) (h:gq n c i k=some r):aw Tryz.prog 3 [(bq af.enc c),(vI i),(vI k)] (ew (.v (.bool r))):=by
 unfold gq at h
 obtain ⟨y1,gy1,h⟩:=ab h
 rcases ao h with ⟨h2,h⟩ | ⟨h2,h⟩
 ·
  obtain rfl:=aF h
  exact kP (nA wi [aZ 1 [(14,vT)] [(13,.v (.bool y1))]]) yG (fun z=>(aI (rh n y1 gy1) (aB h2 z)))
 obtain ⟨y3,gy3,h⟩:=ab h
 have c351_:=fun (R:Prop) (z:R)=>(aI (rh n y1 gy1) (aB h2 (aI (tz n c 30 y3 gy3) z)))
 let e352_:LR:=[aZ 1 [(14,vF)] [(13,.v (.bool y1))]]
 rcases ao h with ⟨h4,h⟩ | ⟨h4,h⟩
 ·
  obtain rfl:=aF h
  exact kP (nA wi (e352_++[aZ 3 [(18,vT)] [(16,.v (.bool y3))]])) yG (fun z=>(c351_ _ (aB h4 z)))
 obtain ⟨y5,gy5,h⟩:=ab h
 have c353_:=fun (R:Prop) (z:R)=>c351_ _ (aB h4 (aI (tA n c y5 gy5) z))
 rcases ao h with ⟨h6,h⟩ | ⟨h6,h⟩
 ·
  obtain rfl:=aF h
  exact kP (nA wi (e352_++[aZ 3 [(18,vF),(23,vT)] [(16,.v (.bool y3)),(20,.v (.bool y5))]])) yG (fun z=>(c353_ _ (aB h6 z)))
 have c354_:=fun (R:Prop) (z:R)=>c353_ _ (aB h6 (aL eI c.bt z))
 rcases ao h with ⟨h7,h⟩ | ⟨h7,h⟩
 ·
  obtain rfl:=aF h
  exact kP (nA wi (e352_++[aZ 3 [(18,vF),(23,vF),(26,(vI (c.bt.length:Int))),(28,vT)] [(16,.v (.bool y3)),(20,.v (.bool y5))]])) yG (fun z=>(c354_ _ (aB h7 z)))
 obtain ⟨y8,gy8,h⟩:=ab h
 obtain ⟨y9,gy9,h⟩:=ab h
 obtain ⟨t10,gt10,h⟩:=ab h
 have c355_:=fun (R:Prop) (z:R)=>c354_ _ (aB h7 (aI (yC n c y8 gy8) (aI (zB n c y9 gy9) z)))
 let e356_:LR:=[aZ 3 [(18,vF),(23,vF),(26,(vI (c.bt.length:Int))),(28,vF)] [(16,.v (.bool y3)),(20,.v (.bool y5))],aZ 5 [] [(30,.sl (y8.map eI))],aZ 6 [] [(32,.sl (y9.map (ft eI)))]]
 rcases t10 with w11 | w11
 ·
  obtain ⟨y12,gy12,h⟩:=ab h
  obtain ⟨y13,gy13,h⟩:=ab h
  obtain ⟨x14,gx14,h⟩:=ab h
  obtain ⟨x15,gx15,h⟩:=ab h
  obtain ⟨y16,gy16,h⟩:=ab h
  obtain ⟨x17,gx17,h⟩:=ab h
  obtain ⟨x18,gx18,h⟩:=ab h
  obtain ⟨y19,gy19,h⟩:=ab h
  have d0_:AV.v (.int .i64 (((c.bt.map eI).length:Nat):Int))=AV.v (.int .i64 (c.bt.length:Int)):=tf _ _
  have c357_:=fun (R:Prop) (z:R)=>c355_ _ (aI (eo (pl:=al 3) (K9 c i k y8 y9) (Oc c i k y8 y9) (RO n c i k y8 y9) n _ (.inl w11) gt10) (aI d0_ (aI (tI n i (c.bt.length:Int) y12 gy12) (aI d0_ (aI (tI n k (c.bt.length:Int) y13 gy13) (aM eI gx14 (aM eI gx15 (aI (tK n c y16 gy16) (aM eI gx17 (aN eI gx17 (aI (fq eI y16.2.2.1 (((lk y12 y13)).toNat) x15) (aM eI gx18 (aN eI gx18 (aI (fq eI (y16.2.2.1.set ((lk y12 y13)).toNat x15) (((wI y12 y13)).toNat) x14) (aI (BO n c x14 x15 y19 gy19) z)))))))))))))))
  rcases ao h with ⟨h20,h⟩ | ⟨h20,h⟩
  ·
   obtain rfl:=aF h
   exact kP ⟨wi,(e352_++(e356_++[aZ 12 [(59,(vI (c.bt.length:Int))),(64,(vI (c.bt.length:Int)))] [(60,(vI y12)),(65,(vI y13))],rR 13 [(71,[(vI x14)]),(78,[(vI x15)])],(14,⟨[],[],[],[],[],[(81,(.agg [.sl (y16.1.map Cell.enc),.mf 2,.mf 0,.mf 1],[.arr true 1 (y16.2.1.map eI),.arr true 1 (y16.2.2.1.map eI),.arr true 1 (y16.2.2.2.map (dA Event.enc))]))],[],[],[]⟩),(15,⟨[],[],[(94,[(vI x17)]),(95,[(vI x18)]),(1000094,[(vI x17)]),(1000095,[(vI x18)])],[],[],[],[(1000094,(1,(y16.2.2.1.set ((lk y12 y13)).toNat x15).map eI)),(1000095,(1,((y16.2.2.1.set ((lk y12 y13)).toNat x15).set ((wI y12 y13)).toNat x14).map eI))],[],[]⟩),aZ 16 [(101,vT)] [(99,(vI y19))]])),[],[(8,(⟨[1,2,3,7,8,9],[],0,[],[],[]⟩,l0,(.ex 0),Oa c i k y8 y9 w11))],[]⟩ yG (fun z=>(c357_ _ (aB h20 z)))
  obtain ⟨y21,gy21,h⟩:=ab h
  obtain rfl:=aF h
  exact kP ⟨wi,(e352_++(e356_++[aZ 12 [(59,(vI (c.bt.length:Int))),(64,(vI (c.bt.length:Int)))] [(60,(vI y12)),(65,(vI y13))],rR 13 [(71,[(vI x14)]),(78,[(vI x15)])],(14,⟨[],[],[],[],[],[(81,(.agg [.sl (y16.1.map Cell.enc),.mf 2,.mf 0,.mf 1],[.arr true 1 (y16.2.1.map eI),.arr true 1 (y16.2.2.1.map eI),.arr true 1 (y16.2.2.2.map (dA Event.enc))]))],[],[],[]⟩),(15,⟨[],[],[(94,[(vI x17)]),(95,[(vI x18)]),(1000094,[(vI x17)]),(1000095,[(vI x18)])],[],[],[],[(1000094,(1,(y16.2.2.1.set ((lk y12 y13)).toNat x15).map eI)),(1000095,(1,((y16.2.2.1.set ((lk y12 y13)).toNat x15).set ((wI y12 y13)).toNat x14).map eI))],[],[]⟩),aZ 16 [(101,vF)] [(99,(vI y19)),(103,.v (.bool y21))]])),[],[(8,(⟨[1,2,3,7,8,9],[],0,[],[],[]⟩,l0,(.ex 0),Oa c i k y8 y9 w11))],[]⟩ yG (fun z=>(c357_ _ (aB h20 (aI (tA n (af.mk y16.1 y16.2.2.2 y16.2.1 ((y16.2.2.1.set ((lk y12 y13)).toNat x15).set ((wI y12 y13)).toNat x14)) y21 gy21) z))))
 ·
  obtain rfl:=aF h
  exact kP ⟨wi,(e352_++(e356_++[])),[],[(8,(⟨[1,2,3,7,8,9],[],0,[],[],[]⟩,l0,.ret,RN c i k y8 y9 w11))],[]⟩ yG (fun z=>(c355_ _ (aI (eo (pl:=al 3) (K9 c i k y8 y9) (Oc c i k y8 y9) (RO n c i k y8 y9) n _ (.inr w11) gt10) z)))

end
end Go.Proofs.YtomahedcdcnnhaaGreatDoor
