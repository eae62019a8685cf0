/- What the functions compute, as functions on lists and numbers. Printed by a program from the code; nothing is claimed here. -/
import Derived.Test.YtaiokpalfdbnnaaM0
namespace Go.Proofs.Ytaiokpalfdbnnaa
open Go A
set_option linter.unusedVariables false

structure dk (α:Type) where
  mk ::
  e0:α
  e1:α
structure ab where
  mk ::
  Op:Int
  A_:Int
  B:Int
  C_:Int
  D:Int
  Imm:Int
  Bin:Int
  To:Int
  Shared:Bool
structure aO where
  mk ::
  Regs:Int
  Steps:(List ab)
structure ad where
  mk ::
  at_:Int
  open_:Bool
def ab.beq (x y:ab):Bool:=((x.Op==y.Op)&&((x.A_==y.A_)&&((x.B==y.B)&&((x.C_==y.C_)&&((x.D==y.D)&&((x.Imm==y.Imm)&&((x.Bin==y.Bin)&&((x.To==y.To)&&(x.Shared==y.Shared)))))))))
theorem ab.beq_eq {x y:ab} (h:ab.beq x y=true):x=y:=by
  obtain ⟨a1,a2,a3,a4,a5,a6,a7,a8,a9⟩:=x
  obtain ⟨b10,b11,b12,b13,b14,b15,b16,b17,b18⟩:=y
  unfold ab.beq at h
  simp only [Bool.and_eq_true,beq_iff_eq] at h
  simp_all
theorem ab.beq_refl (x:ab):ab.beq x x=true:=by
  unfold ab.beq
  simp
def ab.wf (x:ab):Prop:=(CB .i64 x.Op)∧(CB .i64 x.A_)∧(CB .i64 x.B)∧(CB .i64 x.C_)∧(CB .i64 x.D)∧(CB .i64 x.Imm)∧(CB .i64 x.Bin)∧(CB .i64 x.To)∧(True)
def aO.wf (x:aO):Prop:=(CB .i64 x.Regs)∧(x.Steps.length≤maxLen∧∀ z∈x.Steps,ab.wf z)
def qi (n:Nat):Option Bool:=some true
def k8 (n:Nat) (c:aO) (most:Int):Option Bool :=
 if (decide ((c.Steps.length:Int)≤most))=true then
  some (decide (c.Regs≤most))
 else
  some false
def sG (n:Nat):Option Unit :=
 some ()
def qj (n:Nat):Option Unit :=
 some ()
def qk (n:Nat):Option Unit :=
 some ()
def ql (n:Nat):Option Unit :=
 some ()
def qm (n:Nat):Option Unit :=
 some ()
def qn (n:Nat):Option Unit :=
 some ()
def qo (n:Nat):Option Unit :=
 some ()
def qp (n:Nat):Option Unit :=
 some ()
def qq (n:Nat):Option Unit :=
 some ()
def nZ (n:Nat):Option Unit :=
 some ()
def oa (n:Nat):Option Unit :=
 some ()
def r8 (n:Nat) (s_:ab) (regs:Int) (steps:Int):Option Bool :=
 if (decide (s_.Op<1))=true then
  some false
 else
  if (decide (s_.Op>10))=true then
   some false
  else
   if (s_.Op==0)=true then
    (sG n).bind fun y4 =>
    if (!(ab.beq (ab.mk s_.Op 0 0 0 0 0 0 0 false) s_))=true then
     some false
    else
     some true
   else
    if (s_.Op==1)=true then
     (qj n).bind fun y4 =>
     if (!(ab.beq (ab.mk s_.Op s_.A_ 0 0 0 s_.Imm 0 0 false) s_))=true then
      some false
     else
      if (decide (s_.A_<0))=true then
       some false
      else
       if (decide (s_.A_≥regs))=true then
        some false
       else
        some true
    else
     if (s_.Op==2)=true then
      (qk n).bind fun y4 =>
      if (!(ab.beq (ab.mk s_.Op s_.A_ s_.B 0 0 0 0 0 false) s_))=true then
       some false
      else
       if (decide (s_.A_<0))=true then
        some false
       else
        if (decide (s_.A_≥regs))=true then
         some false
        else
         if (decide (s_.B<0))=true then
          some false
         else
          if (decide (s_.B≥regs))=true then
           some false
          else
           some true
     else
      if (s_.Op==3)=true then
       (ql n).bind fun y4 =>
       if (decide (s_.Bin<1))=true then
        some false
       else
        if (decide (s_.Bin>13))=true then
         some false
        else
         if (!(ab.beq (ab.mk s_.Op s_.A_ s_.B s_.C_ 0 0 s_.Bin 0 false) s_))=true then
          some false
         else
          if (decide (s_.A_<0))=true then
           some false
          else
           if (decide (s_.A_≥regs))=true then
            some false
           else
            if (decide (s_.B<0))=true then
             some false
            else
             if (decide (s_.B≥regs))=true then
              some false
             else
              if (decide (s_.C_<0))=true then
               some false
              else
               if (decide (s_.C_≥regs))=true then
                some false
               else
                some true
      else
       if (s_.Op==4)=true then
        (qm n).bind fun y4 =>
        if (!(ab.beq (ab.mk s_.Op s_.A_ s_.B 0 0 s_.Imm 0 0 s_.Shared) s_))=true then
         some false
        else
         if (decide (s_.A_<0))=true then
          some false
         else
          if (decide (s_.A_≥regs))=true then
           some false
          else
           if (decide (s_.B<0))=true then
            some false
           else
            if (decide (s_.B≥regs))=true then
             some false
            else
             some true
       else
        if (s_.Op==5)=true then
         (qn n).bind fun y4 =>
         if (!(ab.beq (ab.mk s_.Op 0 s_.B s_.C_ 0 s_.Imm 0 0 s_.Shared) s_))=true then
          some false
         else
          if (decide (s_.B<0))=true then
           some false
          else
           if (decide (s_.B≥regs))=true then
            some false
           else
            if (decide (s_.C_<0))=true then
             some false
            else
             if (decide (s_.C_≥regs))=true then
              some false
             else
              some true
        else
         if (s_.Op==6)=true then
          (qo n).bind fun y4 =>
          if (!s_.Shared)=true then
           some false
          else
           if (!(ab.beq (ab.mk s_.Op s_.A_ s_.B s_.C_ s_.D s_.Imm 0 0 s_.Shared) s_))=true then
            some false
           else
            if (decide (s_.A_<0))=true then
             some false
            else
             if (decide (s_.A_≥regs))=true then
              some false
             else
              if (decide (s_.B<0))=true then
               some false
              else
               if (decide (s_.B≥regs))=true then
                some false
               else
                if (decide (s_.C_<0))=true then
                 some false
                else
                 if (decide (s_.C_≥regs))=true then
                  some false
                 else
                  if (decide (s_.D<0))=true then
                   some false
                  else
                   if (decide (s_.D≥regs))=true then
                    some false
                   else
                    some true
         else
          if (s_.Op==7)=true then
           (qp n).bind fun y4 =>
           if (!(ab.beq (ab.mk s_.Op 0 0 0 0 0 0 0 false) s_))=true then
            some false
           else
            some true
          else
           if (s_.Op==8)=true then
            (qq n).bind fun y4 =>
            if (decide (s_.To<0))=true then
             some false
            else
             if (decide (s_.To≥steps))=true then
              some false
             else
              if (!(ab.beq (ab.mk s_.Op 0 0 0 0 0 0 s_.To false) s_))=true then
               some false
              else
               some true
           else
            if (s_.Op==9)=true then
             (nZ n).bind fun y4 =>
             if (decide (s_.To<0))=true then
              some false
             else
              if (decide (s_.To≥steps))=true then
               some false
              else
               if (!(ab.beq (ab.mk s_.Op 0 s_.B 0 0 0 0 s_.To false) s_))=true then
                some false
               else
                if (decide (s_.B<0))=true then
                 some false
                else
                 if (decide (s_.B≥regs))=true then
                  some false
                 else
                  some true
            else
             if (s_.Op==10)=true then
              (oa n).bind fun y4 =>
              if (!(ab.beq (ab.mk s_.Op 0 s_.B 0 0 0 0 0 false) s_))=true then
               some false
              else
               if (decide (s_.B<0))=true then
                some false
               else
                if (decide (s_.B≥regs))=true then
                 some false
                else
                 some true
             else
              none
def ji (n:Nat) (op:Int):Option (Bool×Bool×Bool×Bool) :=
 if (op==1)=true then
  some (false,false,false,true)
 else
  if (op==2)=true then
   some (true,false,false,true)
  else
   if (op==4)=true then
    some (true,false,false,true)
   else
    if (op==3)=true then
     some (true,true,false,true)
    else
     if (op==5)=true then
      some (true,true,false,false)
     else
      if (op==6)=true then
       some (true,true,true,true)
      else
       if (op==9)=true then
        some (true,false,false,false)
       else
        if (op==10)=true then
         some (true,false,false,false)
        else
         some (false,false,false,false)
def k9 (n:Nat) (s_:ab):Option (Int×Bool) :=
 (ji n s_.Op).bind fun y1 =>
 if (!y1.2.2.2)=true then
  some (0,false)
 else
  some (s_.A_,true)
def k_ (n:Nat) (l:(List Int)) (n_:Int) (sa:Int):Option (Int⊕Int) :=
 if (decide (sa<(l.length:Int)))=true then
  (aY l sa).bind fun xa2 =>
  if (decide (xa2<n_))=true then
   some (.inl (al .i64 sa 1))
  else
   some (.inr sa)
 else
  some (.inr sa)
def cD (n:Nat) (l:(List Int)) (n_:Int):Option (List Int) :=
 (iter (fun s=>k_ n l n_ s) n 0).bind fun t1 =>
 if (decide (t1<(l.length:Int)))=true then
  (aY l t1).bind fun x3 =>
  if (x3==n_)=true then
   some l
  else
   grd (decide ((0:Int)≤t1)&&decide (t1≤(l.length:Int))) <|
   grd (Nat.ble ((l.take (t1).toNat).length * 8) 140737488355328) <|
   grd (Nat.ble (((l.take (t1).toNat).length + 1) * 8) 140737488355328) <|
   grd (decide ((0:Int)≤t1)&&decide (t1≤(l.length:Int))) <|
   grd (Nat.ble ((((l.take (t1).toNat)++([n_]:List Int)).length + (l.drop (t1).toNat).length) * 8) 140737488355328) <|
   some (((l.take (t1).toNat)++([n_]:List Int))++(l.drop (t1).toNat))
 else
  grd (decide ((0:Int)≤t1)&&decide (t1≤(l.length:Int))) <|
  grd (Nat.ble ((l.take (t1).toNat).length * 8) 140737488355328) <|
  grd (Nat.ble (((l.take (t1).toNat).length + 1) * 8) 140737488355328) <|
  grd (decide ((0:Int)≤t1)&&decide (t1≤(l.length:Int))) <|
  grd (Nat.ble ((((l.take (t1).toNat)++([n_]:List Int)).length + (l.drop (t1).toNat).length) * 8) 140737488355328) <|
  some (((l.take (t1).toNat)++([n_]:List Int))++(l.drop (t1).toNat))
def dA (n:Nat) (c:aO) (at_:Int):Option (List Int) :=
 if (decide (at_<0))=true then
  some ([]:List Int)
 else
  if (decide (at_≥(c.Steps.length:Int)))=true then
   some ([]:List Int)
  else
   (aY c.Steps at_).bind fun x3 =>
   if (x3.Op != 8)=true then
    if (x3.Op != 10)=true then
     if (decide ((al .i64 at_ 1)<(c.Steps.length:Int)))=true then
      (cD n ([]:List Int) (al .i64 at_ 1)).bind fun y7 =>
      if (x3.Op==8)=true then
       if (decide (x3.To≥0))=true then
        if (decide (x3.To<(c.Steps.length:Int)))=true then
         (cD n y7 x3.To).bind fun y11 =>
         some y11
        else
         some y7
       else
        some y7
      else
       if (x3.Op==9)=true then
        if (decide (x3.To≥0))=true then
         if (decide (x3.To<(c.Steps.length:Int)))=true then
          (cD n y7 x3.To).bind fun y12 =>
          some y12
         else
          some y7
        else
         some y7
       else
        some y7
     else
      if (x3.Op==8)=true then
       if (decide (x3.To≥0))=true then
        if (decide (x3.To<(c.Steps.length:Int)))=true then
         (cD n ([]:List Int) x3.To).bind fun y10 =>
         some y10
        else
         some ([]:List Int)
       else
        some ([]:List Int)
      else
       if (x3.Op==9)=true then
        if (decide (x3.To≥0))=true then
         if (decide (x3.To<(c.Steps.length:Int)))=true then
          (cD n ([]:List Int) x3.To).bind fun y11 =>
          some y11
         else
          some ([]:List Int)
        else
         some ([]:List Int)
       else
        some ([]:List Int)
    else
     if (x3.Op==8)=true then
      if (decide (x3.To≥0))=true then
       if (decide (x3.To<(c.Steps.length:Int)))=true then
        (cD n ([]:List Int) x3.To).bind fun y9 =>
        some y9
       else
        some ([]:List Int)
      else
       some ([]:List Int)
     else
      if (x3.Op==9)=true then
       if (decide (x3.To≥0))=true then
        if (decide (x3.To<(c.Steps.length:Int)))=true then
         (cD n ([]:List Int) x3.To).bind fun y10 =>
         some y10
        else
         some ([]:List Int)
       else
        some ([]:List Int)
      else
       some ([]:List Int)
   else
    if (x3.Op==8)=true then
     if (decide (x3.To≥0))=true then
      if (decide (x3.To<(c.Steps.length:Int)))=true then
       (cD n ([]:List Int) x3.To).bind fun y8 =>
       some y8
      else
       some ([]:List Int)
     else
      some ([]:List Int)
    else
     if (x3.Op==9)=true then
      if (decide (x3.To≥0))=true then
       if (decide (x3.To<(c.Steps.length:Int)))=true then
        (cD n ([]:List Int) x3.To).bind fun y9 =>
        some y9
       else
        some ([]:List Int)
      else
       some ([]:List Int)
     else
      some ([]:List Int)
def m2 (n:Nat) (s_:ab):Option (List Int) :=
 (ji n s_.Op).bind fun y1 =>
 if y1.1=true then
  (cD n ([]:List Int) s_.B).bind fun y3 =>
  if y1.2.1=true then
   (cD n y3 s_.C_).bind fun y5 =>
   if y1.2.2.1=true then
    (cD n y5 s_.D).bind fun y7 =>
    some y7
   else
    some y5
  else
   if y1.2.2.1=true then
    (cD n y3 s_.D).bind fun y6 =>
    some y6
   else
    some y3
 else
  if y1.2.1=true then
   (cD n ([]:List Int) s_.C_).bind fun y4 =>
   if y1.2.2.1=true then
    (cD n y4 s_.D).bind fun y6 =>
    some y6
   else
    some y4
  else
   if y1.2.2.1=true then
    (cD n ([]:List Int) s_.D).bind fun y5 =>
    some y5
   else
    some ([]:List Int)
def fe (n:Nat) (c:aO) (se:(List (Option (List Bool)))×(List Bool)×Int×Int×Bool×Int×(List Int)):Option (((List (Option (List Bool)))×(List Bool)×Int×Int×Bool×Int×(List Int))⊕((List (Option (List Bool)))×(List Bool)×Int×Bool×Int×(List Int))) :=
 if (decide (se.2.2.2.1<c.Regs))=true then
  (aY se.2.2.2.2.2.2 se.2.2.1).bind fun xe2 =>
  (aY se.1 xe2).bind fun xe3 =>
  matchO xe3 (
   none) fun ze4 =>
   (aY ze4 se.2.2.2.1).bind fun xe6 =>
   if xe6=true then
    (aY se.2.1 se.2.2.2.1).bind fun xe8 =>
    if (!xe8)=true then
     some (.inl ((se.1.set (xe2).toNat (some (ze4.set (se.2.2.2.1).toNat false))),se.2.1,se.2.2.1,(al .i64 se.2.2.2.1 1),true,se.2.2.2.2.2.1,se.2.2.2.2.2.2))
    else
     some (.inl (se.1,se.2.1,se.2.2.1,(al .i64 se.2.2.2.1 1),se.2.2.2.2.1,se.2.2.2.2.2.1,se.2.2.2.2.2.2))
   else
    some (.inl (se.1,se.2.1,se.2.2.1,(al .i64 se.2.2.2.1 1),se.2.2.2.2.1,se.2.2.2.2.2.1,se.2.2.2.2.2.2))
 else
  some (.inr (se.1,se.2.1,se.2.2.1,se.2.2.2.2.1,se.2.2.2.2.2.1,se.2.2.2.2.2.2))
def cR (n:Nat) (c:aO) (sd:(List (Option (List Bool)))×(List Bool)×Int×Bool×Int×(List Int)):Option (((List (Option (List Bool)))×(List Bool)×Int×Bool×Int×(List Int))⊕((List (Option (List Bool)))×Bool×Int)) :=
 if (decide (sd.2.2.1<(sd.2.2.2.2.2.length:Int)))=true then
  (aY sd.2.2.2.2.2 sd.2.2.1).bind fun xd2 =>
  (aY sd.1 xd2).bind fun xd3 =>
  matchO xd3 (
   grd (Nat.ble (sd.2.1.length * 1) 140737488355328) <|
   some (.inl ((sd.1.set (xd2).toNat (some sd.2.1)),sd.2.1,(al .i64 sd.2.2.1 1),true,sd.2.2.2.2.1,sd.2.2.2.2.2))) fun zd4 =>
   (iter (fun s=>fe n c s) n (sd.1,sd.2.1,sd.2.2.1,0,sd.2.2.2.1,sd.2.2.2.2.1,sd.2.2.2.2.2)).bind fun td6 =>
   some (.inl (td6.1,td6.2.1,(al .i64 td6.2.2.1 1),td6.2.2.2.1,td6.2.2.2.2.1,td6.2.2.2.2.2))
 else
  some (.inr (sd.1,sd.2.2.2.1,sd.2.2.2.2.1))
def ff (n:Nat) (c:aO) (sb:(List (Option (List Bool)))×Bool×Int):Option (((List (Option (List Bool)))×Bool×Int)⊕((List (Option (List Bool)))×Bool)) :=
 if (decide (sb.2.2<(c.Steps.length:Int)))=true then
  (aY sb.1 sb.2.2).bind fun xb2 =>
  matchO xb2 (
   some (.inl (sb.1,sb.2.1,(al .i64 sb.2.2 1)))) fun zb3 =>
   grd (Nat.ble (zb3.length * 1) 140737488355328) <|
   (aY c.Steps sb.2.2).bind fun xb6 =>
   (k9 n xb6).bind fun yb7 =>
   if yb7.2=true then
    (aY zb3 yb7.1).bind fun xb9 =>
    (dA n c sb.2.2).bind fun yb10 =>
    (iter (fun s=>cR n c s) n (sb.1,(zb3.set (yb7.1).toNat true),0,sb.2.1,sb.2.2,yb10)).bind fun tb11 =>
    some (.inl (tb11.1,tb11.2.1,(al .i64 tb11.2.2 1)))
   else
    (dA n c sb.2.2).bind fun yb9 =>
    (iter (fun s=>cR n c s) n (sb.1,zb3,0,sb.2.1,sb.2.2,yb9)).bind fun tb10 =>
    some (.inl (tb10.1,tb10.2.1,(al .i64 tb10.2.2 1)))
 else
  some (.inr (sb.1,sb.2.1))
def fg (n:Nat) (c:aO) (sa:(List (Option (List Bool)))×Bool):Option (((List (Option (List Bool)))×Bool)⊕((List (Option (List Bool))))) :=
 if sa.2=true then
  (iter (fun s=>ff n c s) n (sa.1,false,0)).bind fun ta2 =>
  some (.inl (ta2.1,ta2.2))
 else
  some (.inr sa.1)
def fh (n:Nat) (c:aO) (t4:((List (Option (List Bool))))) (ya3:(List Int)) (sb:Int×Int):Option ((Int×Int)⊕(Int⊕Unit)) :=
 if (decide (sb.2<(ya3.length:Int)))=true then
  (aY t4 sb.1).bind fun xb2 =>
  matchO xb2 (
   some (.inr (.inl sb.1))) fun zb3 =>
   grd (ef zb3) <|
   (aY ya3 sb.2).bind fun xb6 =>
   (aY zb3 xb6).bind fun xb7 =>
   if (!xb7)=true then
    some (.inr (.inr ()))
   else
    some (.inl (sb.1,(al .i64 sb.2 1)))
 else
  some (.inr (.inl sb.1))
def fj (n:Nat) (c:aO) (t4:((List (Option (List Bool))))) (sa:Int):Option (Int⊕(Unit⊕Unit)) :=
 if (decide (sa<(c.Steps.length:Int)))=true then
  (aY c.Steps sa).bind fun xa2 =>
  (m2 n xa2).bind fun ya3 =>
  (iter (fun s=>fh n c t4 ya3 s) n (sa,0)).bind fun ta4 =>
  match ta4 with
  | .inl wa5 =>
   some (.inl (al .i64 wa5 1))
  | .inr wa5 =>
   some (.inr (.inr ()))
 else
  some (.inr (.inl ()))
def gi (n:Nat) (c:aO):Option Bool :=
 grd (decide ((0:Int)≤(c.Steps.length:Int))&&decide ((c.Steps.length:Int)≤(c.Steps.length:Int))&&decide (24 * (c.Steps.length:Int)≤140737488355328)&&decide ((c.Steps.length:Int)≤140737488355328)&&Nat.blt 0 1) <|
 grd (decide ((0:Int)≤c.Regs)&&decide (c.Regs≤c.Regs)&&decide (1 * c.Regs≤140737488355328)&&decide (c.Regs≤140737488355328)&&Nat.blt 0 1) <|
 (aY (List.replicate ((c.Steps.length:Int)).toNat (none:Option (List Bool))) 0).bind fun x3 =>
 (iter (fun s=>fg n c s) n (((List.replicate ((c.Steps.length:Int)).toNat (none:Option (List Bool))).set 0 (some (List.replicate (c.Regs).toNat false))),true)).bind fun t4 =>
 (iter (fun s=>fj n c t4 s) n 0).bind fun t5 =>
 match t5 with
 | .inl w6 =>
  some true
 | .inr w6 =>
  some false
def gy (n:Nat) (c:aO) (sa:Int):Option (Int⊕(Unit⊕Unit)) :=
 if (decide (sa<(c.Steps.length:Int)))=true then
  (aY c.Steps sa).bind fun xa2 =>
  (r8 n xa2 c.Regs (c.Steps.length:Int)).bind fun ya3 =>
  if (!ya3)=true then
   some (.inr (.inr ()))
  else
   some (.inl (al .i64 sa 1))
 else
  some (.inr (.inl ()))
def m3 (n:Nat) (c:aO):Option Int :=
 if (decide (c.Regs<0))=true then
  some 2
 else
  if (decide (c.Regs>1024))=true then
   some 2
  else
   if (decide ((c.Steps.length:Int)<1))=true then
    some 2
   else
    if (decide ((c.Steps.length:Int)>4096))=true then
     some 2
    else
     (iter (fun s=>gy n c s) n 0).bind fun t5 =>
     match t5 with
     | .inl w6 =>
      (aY c.Steps (bi .i64 (c.Steps.length:Int) 1)).bind fun x7 =>
      if (x7.Op != 8)=true then
       if (x7.Op != 10)=true then
        some 2
       else
        (gi n c).bind fun y10 =>
        if (!y10)=true then
         some 2
        else
         some 0
      else
       (gi n c).bind fun y9 =>
       if (!y9)=true then
        some 2
       else
        some 0
     | .inr w6 =>
      some 2
def c6 (n:Nat) (op:Int):Option Int :=
 if (decide (op<1))=true then
  some 0
 else
  if (decide (op>10))=true then
   some 0
  else
   if (op==0)=true then
    some 0
   else
    if (op==1)=true then
     some 17
    else
     if (op==2)=true then
      some 3
     else
      if (op==3)=true then
       some 39
      else
       if (op==4)=true then
        some 147
       else
        if (op==5)=true then
         some 150
        else
         if (op==6)=true then
          some 159
         else
          if (op==7)=true then
           some 0
          else
           if (op==8)=true then
            some 64
           else
            if (op==9)=true then
             some 66
            else
             if (op==10)=true then
              some 2
             else
              none
def cw (n:Nat) (op:Int):Option Bool :=
 if (decide (op≥1))=true then
  some (decide (op≤10))
 else
  some false
def r9 (n:Nat) (s_:ab) (regs:Int) (steps:Int):Option Bool :=
 (c6 n s_.Op).bind fun y1 =>
 if (y1==0)=true then
  (cw n s_.Op).bind fun y3 =>
  if y3=true then
   if (ab.beq s_ (ab.mk s_.Op 0 0 0 0 0 0 0 false))=true then
    some true
   else
    some false
  else
   some false
 else
  if (y1==2)=true then
   if (decide (s_.B<0))=true then
    some false
   else
    if (decide (s_.B≥regs))=true then
     some false
    else
     (cw n s_.Op).bind fun y5 =>
     if y5=true then
      if (ab.beq s_ (ab.mk s_.Op 0 s_.B 0 0 0 0 0 false))=true then
       some true
      else
       some false
     else
      some false
  else
   if (y1==3)=true then
    if (decide (s_.A_<0))=true then
     some false
    else
     if (decide (s_.A_≥regs))=true then
      some false
     else
      if (decide (s_.B<0))=true then
       some false
      else
       if (decide (s_.B≥regs))=true then
        some false
       else
        (cw n s_.Op).bind fun y7 =>
        if y7=true then
         if (ab.beq s_ (ab.mk s_.Op s_.A_ s_.B 0 0 0 0 0 false))=true then
          some true
         else
          some false
        else
         some false
   else
    if (y1==17)=true then
     if (decide (s_.A_<0))=true then
      some false
     else
      if (decide (s_.A_≥regs))=true then
       some false
      else
       (cw n s_.Op).bind fun y5 =>
       if y5=true then
        if (ab.beq s_ (ab.mk s_.Op s_.A_ 0 0 0 s_.Imm 0 0 false))=true then
         some true
        else
         some false
       else
        some false
    else
     if (y1==39)=true then
      if (decide (s_.A_<0))=true then
       some false
      else
       if (decide (s_.A_≥regs))=true then
        some false
       else
        if (decide (s_.B<0))=true then
         some false
        else
         if (decide (s_.B≥regs))=true then
          some false
         else
          if (decide (s_.C_<0))=true then
           some false
          else
           if (decide (s_.C_≥regs))=true then
            some false
           else
            (cw n s_.Op).bind fun y9 =>
            if y9=true then
             if (ab.beq s_ (ab.mk s_.Op s_.A_ s_.B s_.C_ 0 0 (kK (kL s_.Bin 1) 13) 0 false))=true then
              some true
             else
              some false
            else
             some false
     else
      if (y1==64)=true then
       (cw n s_.Op).bind fun y3 =>
       if y3=true then
        if (ab.beq s_ (ab.mk s_.Op 0 0 0 0 0 0 (kK (kL s_.To 0) (bi .i64 steps 1)) false))=true then
         some true
        else
         some false
       else
        some false
      else
       if (y1==66)=true then
        if (decide (s_.B<0))=true then
         some false
        else
         if (decide (s_.B≥regs))=true then
          some false
         else
          (cw n s_.Op).bind fun y5 =>
          if y5=true then
           if (ab.beq s_ (ab.mk s_.Op 0 s_.B 0 0 0 0 (kK (kL s_.To 0) (bi .i64 steps 1)) false))=true then
            some true
           else
            some false
          else
           some false
       else
        if (y1==147)=true then
         if (decide (s_.A_<0))=true then
          some false
         else
          if (decide (s_.A_≥regs))=true then
           some false
          else
           if (decide (s_.B<0))=true then
            some false
           else
            if (decide (s_.B≥regs))=true then
             some false
            else
             if s_.Shared=true then
              (cw n s_.Op).bind fun y8 =>
              if y8=true then
               if (ab.beq s_ (ab.mk s_.Op s_.A_ s_.B 0 0 s_.Imm 0 0 true))=true then
                some true
               else
                some false
              else
               some false
             else
              (cw n s_.Op).bind fun y8 =>
              if y8=true then
               if (ab.beq s_ (ab.mk s_.Op s_.A_ s_.B 0 0 s_.Imm 0 0 (s_.Op==6)))=true then
                some true
               else
                some false
              else
               some false
        else
         if (y1==150)=true then
          if (decide (s_.B<0))=true then
           some false
          else
           if (decide (s_.B≥regs))=true then
            some false
           else
            if (decide (s_.C_<0))=true then
             some false
            else
             if (decide (s_.C_≥regs))=true then
              some false
             else
              if s_.Shared=true then
               (cw n s_.Op).bind fun y8 =>
               if y8=true then
                if (ab.beq s_ (ab.mk s_.Op 0 s_.B s_.C_ 0 s_.Imm 0 0 true))=true then
                 some true
                else
                 some false
               else
                some false
              else
               (cw n s_.Op).bind fun y8 =>
               if y8=true then
                if (ab.beq s_ (ab.mk s_.Op 0 s_.B s_.C_ 0 s_.Imm 0 0 (s_.Op==6)))=true then
                 some true
                else
                 some false
               else
                some false
         else
          if (y1==159)=true then
           if (decide (s_.A_<0))=true then
            some false
           else
            if (decide (s_.A_≥regs))=true then
             some false
            else
             if (decide (s_.B<0))=true then
              some false
             else
              if (decide (s_.B≥regs))=true then
               some false
              else
               if (decide (s_.C_<0))=true then
                some false
               else
                if (decide (s_.C_≥regs))=true then
                 some false
                else
                 if (decide (s_.D<0))=true then
                  some false
                 else
                  if (decide (s_.D≥regs))=true then
                   some false
                  else
                   if s_.Shared=true then
                    (cw n s_.Op).bind fun y12 =>
                    if y12=true then
                     if (ab.beq s_ (ab.mk s_.Op s_.A_ s_.B s_.C_ s_.D s_.Imm 0 0 true))=true then
                      some true
                     else
                      some false
                    else
                     some false
                   else
                    (cw n s_.Op).bind fun y12 =>
                    if y12=true then
                     if (ab.beq s_ (ab.mk s_.Op s_.A_ s_.B s_.C_ s_.D s_.Imm 0 0 (s_.Op==6)))=true then
                      some true
                     else
                      some false
                    else
                     some false
          else
           none
def jW (n:Nat) (s_:ab) (a:Int) (a_:(List ab)) (a_A:Int):Option Bool :=
 (r9 n s_ a a_A).bind fun y1 =>
 some (!y1)
def bg (n:Nat) (s_:(List ab)) (f:Int) (f_:(List ab)) (f_A:Int) (sa:Int):Option (Int⊕(Unit⊕Int)) :=
 if (decide (sa<(s_.length:Int)))=true then
  (aY s_ sa).bind fun xa2 =>
  (jW n xa2 f f_ f_A).bind fun ya3 =>
  if ya3=true then
   some (.inr (.inr sa))
  else
   some (.inl (al .i64 sa 1))
 else
  some (.inr (.inl ()))
def bH (n:Nat) (s_:(List ab)) (f:Int) (f_:(List ab)) (f_A:Int):Option Int :=
 (iter (fun s=>bg n s_ f f_ f_A s) n 0).bind fun t1 =>
 match t1 with
 | .inl w2 =>
  some (-1)
 | .inr w2 =>
  some w2
def aI (n:Nat) (s_:(List ab)) (f:Int) (f_:(List ab)) (f_A:Int):Option Bool :=
 (bH n s_ f f_ f_A).bind fun y1 =>
 some (decide (y1≥0))
def pe (n:Nat) (n_:Int) (oA:(List (Option (List Int)))):Option (List Int) :=
 grd (decide ((0:Int)≤(gU .i64 (al .i64 n_ 63) 64))&&decide ((gU .i64 (al .i64 n_ 63) 64)≤(gU .i64 (al .i64 n_ 63) 64))&&decide (8 * (gU .i64 (al .i64 n_ 63) 64)≤140737488355328)&&decide ((gU .i64 (al .i64 n_ 63) 64)≤140737488355328)&&Nat.blt 0 1) <|
 some (List.replicate ((gU .i64 (al .i64 n_ 63) 64)).toNat (0:Int))
def xU (n:Nat) (oA:(List (Option (List Int)))) (oB:Nat) (oC:(List Int)):Option Unit :=
 grd (ef oC) <|
 grd (Nat.ble (oC.length * 8) 140737488355328) <|
 some ()
def lb (n:Nat) (s_:ab):Option (Int×Bool) :=
 (c6 n s_.Op).bind fun y1 =>
 if ((fC .i64 y1 1)==0)=true then
  some (0,false)
 else
  some (s_.A_,true)
def El (n:Nat) (n_:Int) (oA:(List (Option (List Int)))) (oB:(List Int)):Option (List Int) :=
 (aY oB (gU .i64 n_ 64)).bind fun x1 =>
 grd (decide ((0:Int)≤(o_ .i64 n_ 64))) <|
 some (oB.set ((gU .i64 n_ 64)).toNat (FM .u64 x1 (zF .u64 1 (o_ .i64 n_ 64))))
def iL (n:Nat):Option Unit :=
 some ()
def kh (n:Nat):Option Unit :=
 (iL n).bind fun y1 =>
 some ()
def cmp_isNaN_int (n:Nat) (x:Int):Option Bool :=
 some (x != x)
def cmp_Less_int (n:Nat) (x:Int) (y:Int):Option Bool :=
 (cmp_isNaN_int n x).bind fun y1 =>
 if y1=true then
  (cmp_isNaN_int n y).bind fun y3 =>
  if (!y3)=true then
   some true
  else
   some (decide (x<y))
 else
  some (decide (x<y))
def ct (n:Nat) (oA:Int) (oB:Int):Option (Int×Int) :=
 (cmp_Less_int n oB oA).bind fun y1 =>
 if y1=true then
  some (oB,oA)
 else
  some (oA,oB)
def dl (n:Nat) (oA:Int) (oB:Int):Option (Int×Int) :=
 (ct n oA oB).bind fun y1 =>
 some (y1.1,y1.2)
def bp (n:Nat) (oA:Int) (oB:Int):Option (Int×Int) :=
 (kh n).bind fun y1 =>
 (dl n oA oB).bind fun y2 =>
 some (y2.1,y2.2)
def aD (n:Nat) (oA:Int) (oB:Int):Option (Int⊕Unit) :=
 if (oB==oA)=true then
  some (.inl 0)
 else
  some (.inr ())
def bP (n:Nat) (oA:Int) (oB:Int):Option Unit :=
 some ()
def bI (n:Nat) (oA:Int) (oB:Int):Option Unit :=
 some ()
def kM (n:Nat):Option Unit :=
 some ()
def l7 (n:Nat):Option Unit :=
 (kM n).bind fun y1 =>
 some ()
def dB (n:Nat) (oA:Int):Option Unit :=
 some ()
def eE (n:Nat) (oA:Int):Option Unit :=
 (dB n oA).bind fun y1 =>
 some ()
def aV (n:Nat) (oA:Int):Option Unit :=
 (l7 n).bind fun y1 =>
 (eE n oA).bind fun y2 =>
 some ()
def aN (n:Nat) (oA:Int):Option Unit :=
 some ()
def aW (n:Nat) (oA:Int):Option Unit :=
 some ()
def kN (n:Nat):Option Unit :=
 some ()
def l8 (n:Nat):Option Unit :=
 (kN n).bind fun y1 =>
 some ()
def dD (n:Nat):Option Unit :=
 some ()
def eF (n:Nat):Option Unit :=
 (dD n).bind fun y1 =>
 some ()
def aK (n:Nat):Option Unit :=
 (l8 n).bind fun y1 =>
 (eF n).bind fun y2 =>
 some ()
def ay (n:Nat):Option Unit :=
 some ()
def aL (n:Nat):Option Unit :=
 some ()
def fX (n:Nat) (c:aO) (at_:Int):Option (List Int) :=
 if (decide (at_<0))=true then
  some ([]:List Int)
 else
  if (decide (at_≥(c.Steps.length:Int)))=true then
   some ([]:List Int)
  else
   (aY c.Steps at_).bind fun x3 =>
   if (x3.Op != 8)=true then
    if (x3.Op != 10)=true then
     if (decide ((al .i64 at_ 1)<(c.Steps.length:Int)))=true then
      (c6 n x3.Op).bind fun y7 =>
      if ((fC .i64 y7 64) != 0)=true then
       if (decide (x3.To≥0))=true then
        if (decide (x3.To<(c.Steps.length:Int)))=true then
         (bp n (al .i64 at_ 1) x3.To).bind fun y11 =>
         (aD n y11.1 y11.2).bind fun y12 =>
         match y12 with
         | .inl wa13 =>
          (bP n y11.1 wa13).bind fun y14 =>
          some ([y11.1]:List Int)
         | .inr wb13 =>
          (bI n y11.1 y11.2).bind fun y14 =>
          some ([y11.1,y11.2]:List Int)
        else
         (aV n (al .i64 at_ 1)).bind fun y11 =>
         (aN n (al .i64 at_ 1)).bind fun y12 =>
         (aW n (al .i64 at_ 1)).bind fun y13 =>
         some ([(al .i64 at_ 1)]:List Int)
       else
        (aV n (al .i64 at_ 1)).bind fun y10 =>
        (aN n (al .i64 at_ 1)).bind fun y11 =>
        (aW n (al .i64 at_ 1)).bind fun y12 =>
        some ([(al .i64 at_ 1)]:List Int)
      else
       (aV n (al .i64 at_ 1)).bind fun y9 =>
       (aN n (al .i64 at_ 1)).bind fun y10 =>
       (aW n (al .i64 at_ 1)).bind fun y11 =>
       some ([(al .i64 at_ 1)]:List Int)
     else
      (c6 n x3.Op).bind fun y7 =>
      if ((fC .i64 y7 64) != 0)=true then
       if (decide (x3.To≥0))=true then
        if (decide (x3.To<(c.Steps.length:Int)))=true then
         (aV n x3.To).bind fun y11 =>
         (aN n x3.To).bind fun y12 =>
         (aW n x3.To).bind fun y13 =>
         some ([x3.To]:List Int)
        else
         (aK n).bind fun y11 =>
         (ay n).bind fun y12 =>
         (aL n).bind fun y13 =>
         some ([]:List Int)
       else
        (aK n).bind fun y10 =>
        (ay n).bind fun y11 =>
        (aL n).bind fun y12 =>
        some ([]:List Int)
      else
       (aK n).bind fun y9 =>
       (ay n).bind fun y10 =>
       (aL n).bind fun y11 =>
       some ([]:List Int)
    else
     (c6 n x3.Op).bind fun y6 =>
     if ((fC .i64 y6 64) != 0)=true then
      if (decide (x3.To≥0))=true then
       if (decide (x3.To<(c.Steps.length:Int)))=true then
        (aV n x3.To).bind fun y10 =>
        (aN n x3.To).bind fun y11 =>
        (aW n x3.To).bind fun y12 =>
        some ([x3.To]:List Int)
       else
        (aK n).bind fun y10 =>
        (ay n).bind fun y11 =>
        (aL n).bind fun y12 =>
        some ([]:List Int)
      else
       (aK n).bind fun y9 =>
       (ay n).bind fun y10 =>
       (aL n).bind fun y11 =>
       some ([]:List Int)
     else
      (aK n).bind fun y8 =>
      (ay n).bind fun y9 =>
      (aL n).bind fun y10 =>
      some ([]:List Int)
   else
    (c6 n x3.Op).bind fun y5 =>
    if ((fC .i64 y5 64) != 0)=true then
     if (decide (x3.To≥0))=true then
      if (decide (x3.To<(c.Steps.length:Int)))=true then
       (aV n x3.To).bind fun y9 =>
       (aN n x3.To).bind fun y10 =>
       (aW n x3.To).bind fun y11 =>
       some ([x3.To]:List Int)
      else
       (aK n).bind fun y9 =>
       (ay n).bind fun y10 =>
       (aL n).bind fun y11 =>
       some ([]:List Int)
     else
      (aK n).bind fun y8 =>
      (ay n).bind fun y9 =>
      (aL n).bind fun y10 =>
      some ([]:List Int)
    else
     (aK n).bind fun y7 =>
     (ay n).bind fun y8 =>
     (aL n).bind fun y9 =>
     some ([]:List Int)
def wN (n:Nat) (oA:(List (Option (List Int)))) (oB:(List Int)):Option Unit :=
 grd (ef oB) <|
 grd (Nat.ble (oB.length * 8) 140737488355328) <|
 some ()
def pf (n:Nat) (oA:(List (Option (List Int)))) (oB:Nat) (oC:(List Int)) (sa:(List Int)×Bool×Int):Option (((List Int)×Bool×Int)⊕((List Int)×Bool)) :=
 if (decide (sa.2.2<(oC.length:Int)))=true then
  (aY oC sa.2.2).bind fun xa2 =>
  if sa.2.1=true then
   (aY sa.1 sa.2.2).bind fun xa4 =>
   some (.inl ((sa.1.set (sa.2.2).toNat (fC .u64 xa4 xa2)),true,(al .i64 sa.2.2 1)))
  else
   (aY sa.1 sa.2.2).bind fun xa4 =>
   some (.inl ((sa.1.set (sa.2.2).toNat (fC .u64 xa4 xa2)),((fC .u64 xa4 xa2) != xa4),(al .i64 sa.2.2 1)))
 else
  some (.inr (sa.1,sa.2.1))
def CG (n:Nat) (oA:(List (Option (List Int)))) (oB:Nat) (oC:(List Int)) (oD:(List Int)):Option (Bool×(List Int)) :=
 (iter (fun s=>pf n oA oB oC s) n (oD,false,0)).bind fun t1 =>
 some (t1.2,t1.1)
def dm (n:Nat) (oA:(List (Option (List Int)))) (oB:(List Int)) (oC:(List Int)):Option Unit :=
 grd (ef oC) <|
 grd (Nat.ble (oC.length * 8) 140737488355328) <|
 some ()
def eh (n:Nat) (oA:(List (Option (List Int)))) (oB:Nat) (oC:(List Int)) (oD:(List Int)) (sa:(List Int)×Bool×Int):Option (((List Int)×Bool×Int)⊕((List Int)×Bool)) :=
 if (decide (sa.2.2<(oD.length:Int)))=true then
  (aY oD sa.2.2).bind fun xa2 =>
  if sa.2.1=true then
   (aY sa.1 sa.2.2).bind fun xa4 =>
   some (.inl ((sa.1.set (sa.2.2).toNat (fC .u64 xa4 xa2)),true,(al .i64 sa.2.2 1)))
  else
   (aY sa.1 sa.2.2).bind fun xa4 =>
   some (.inl ((sa.1.set (sa.2.2).toNat (fC .u64 xa4 xa2)),((fC .u64 xa4 xa2) != xa4),(al .i64 sa.2.2 1)))
 else
  some (.inr (sa.1,sa.2.1))
def f9 (n:Nat) (oA:(List (Option (List Int)))) (oB:Nat) (oC:(List Int)) (oD:(List Int)) (oE:(List Int)):Option (Bool×(List Int)) :=
 (iter (fun s=>eh n oA oB oC oD s) n (oE,false,0)).bind fun t1 =>
 some (t1.2,t1.1)
def dn (n:Nat) (oA:(List (Option (List Int)))) (oB:Nat) (oC:(List Int)) (oD:(List Int)):Option Unit :=
 grd (ef oD) <|
 grd (Nat.ble (oD.length * 8) 140737488355328) <|
 some ()
def gz (n:Nat) (n_:Int) (oA:(List (Option (List Int)))) (oB:(List Int)) (oC:(List Int)):Option (List Int) :=
 (aY oC (gU .i64 n_ 64)).bind fun x1 =>
 grd (decide ((0:Int)≤(o_ .i64 n_ 64))) <|
 some (oC.set ((gU .i64 n_ 64)).toNat (FM .u64 x1 (zF .u64 1 (o_ .i64 n_ 64))))
def fD (n:Nat):Option Unit :=
 some ()
def gA (n:Nat):Option Unit :=
 (fD n).bind fun y1 =>
 some ()
def bJ (n:Nat) (oA:Int) (oB:Int) (oC:Int):Option (Int×Int×Int) :=
 (cmp_Less_int n oB oA).bind fun y1 =>
 if y1=true then
  (cmp_Less_int n oC oA).bind fun y3 =>
  if y3=true then
   (cmp_Less_int n oC oB).bind fun y5 =>
   if y5=true then
    some (oC,oB,oA)
   else
    some (oB,oC,oA)
  else
   some (oB,oA,oC)
 else
  (cmp_Less_int n oC oB).bind fun y3 =>
  if y3=true then
   (cmp_Less_int n oC oA).bind fun y5 =>
   if y5=true then
    some (oC,oA,oB)
   else
    some (oA,oC,oB)
  else
   some (oA,oB,oC)
def ck (n:Nat) (oA:Int) (oB:Int) (oC:Int):Option (Int×Int×Int) :=
 (bJ n oA oB oC).bind fun y1 =>
 some (y1.1,y1.2.1,y1.2.2)
def bv (n:Nat) (oA:Int) (oB:Int) (oC:Int):Option (Int×Int×Int) :=
 (gA n).bind fun y1 =>
 (ck n oA oB oC).bind fun y2 =>
 some (y2.1,y2.2.1,y2.2.2)
def bq (n:Nat) (oA:Int) (oB:Int) (oC:Int):Option ((Int×Int)⊕((Int×Int)⊕Unit)) :=
 if (oB==oA)=true then
  if (oC != oB)=true then
   some (.inl (oC,0))
  else
   some (.inr (.inl (0,0)))
 else
  if (oC==oB)=true then
   some (.inl (oB,0))
  else
   some (.inr (.inr ()))
def dp (n:Nat) (oA:Int) (oB:Int) (oC:Int):Option Unit :=
 some ()
def dq (n:Nat) (oA:Int) (oB:Int) (oC:Int):Option Unit :=
 some ()
def dr (n:Nat) (oA:Int) (oB:Int) (oC:Int):Option Unit :=
 some ()
def g5 (n:Nat) (s_:ab):Option (List Int) :=
 (c6 n s_.Op).bind fun y1 =>
 if (y1==0)=true then
  (aK n).bind fun y3 =>
  (ay n).bind fun y4 =>
  (aL n).bind fun y5 =>
  some ([]:List Int)
 else
  if (y1==2)=true then
   (aV n s_.B).bind fun y3 =>
   (aN n s_.B).bind fun y4 =>
   (aW n s_.B).bind fun y5 =>
   some ([s_.B]:List Int)
  else
   if (y1==3)=true then
    (aV n s_.B).bind fun y3 =>
    (aN n s_.B).bind fun y4 =>
    (aW n s_.B).bind fun y5 =>
    some ([s_.B]:List Int)
   else
    if (y1==17)=true then
     (aK n).bind fun y3 =>
     (ay n).bind fun y4 =>
     (aL n).bind fun y5 =>
     some ([]:List Int)
    else
     if (y1==39)=true then
      (bp n s_.B s_.C_).bind fun y3 =>
      (aD n y3.1 y3.2).bind fun y4 =>
      match y4 with
      | .inl wa5 =>
       (bP n y3.1 wa5).bind fun y6 =>
       some ([y3.1]:List Int)
      | .inr wb5 =>
       (bI n y3.1 y3.2).bind fun y6 =>
       some ([y3.1,y3.2]:List Int)
     else
      if (y1==64)=true then
       (aK n).bind fun y3 =>
       (ay n).bind fun y4 =>
       (aL n).bind fun y5 =>
       some ([]:List Int)
      else
       if (y1==66)=true then
        (aV n s_.B).bind fun y3 =>
        (aN n s_.B).bind fun y4 =>
        (aW n s_.B).bind fun y5 =>
        some ([s_.B]:List Int)
       else
        if (y1==147)=true then
         (aV n s_.B).bind fun y3 =>
         (aN n s_.B).bind fun y4 =>
         (aW n s_.B).bind fun y5 =>
         some ([s_.B]:List Int)
        else
         if (y1==150)=true then
          (bp n s_.B s_.C_).bind fun y3 =>
          (aD n y3.1 y3.2).bind fun y4 =>
          match y4 with
          | .inl wa5 =>
           (bP n y3.1 wa5).bind fun y6 =>
           some ([y3.1]:List Int)
          | .inr wb5 =>
           (bI n y3.1 y3.2).bind fun y6 =>
           some ([y3.1,y3.2]:List Int)
         else
          if (y1==159)=true then
           (bv n s_.B s_.C_ s_.D).bind fun y3 =>
           (bq n y3.1 y3.2.1 y3.2.2).bind fun y4 =>
           match y4 with
           | .inl wa5 =>
            (dp n y3.1 wa5.1 wa5.2).bind fun y6 =>
            some ([y3.1,wa5.1]:List Int)
           | .inr (.inl wb5) =>
            (dq n y3.1 wb5.1 wb5.2).bind fun y6 =>
            some ([y3.1]:List Int)
           | .inr (.inr wc5) =>
            (dr n y3.1 y3.2.1 y3.2.2).bind fun y6 =>
            some ([y3.1,y3.2.1,y3.2.2]:List Int)
          else
           none
def jX (n:Nat) (s_:(List Int)) (n_:Int):Option Bool :=
 (aY s_ (gU .i64 n_ 64)).bind fun x1 =>
 grd (decide ((0:Int)≤(o_ .i64 n_ 64))) <|
 some ((fC .u64 (CF .u64 x1 (o_ .i64 n_ 64)) 1)==1)
def eG (n:Nat) (r_:Int) (oA:(List (Option (List Int)))) (oB:Nat) (oC:Int) (oD:(List Int)):Option Bool :=
 (aY oA oC).bind fun x1 =>
 grd (Nat.beq ((oC).toNat) oB&&Nat.blt oB oA.length) <|
 (jX n oD r_).bind fun y3 =>
 some (!y3)
def b8 (n:Nat) (s_:(List Int)) (oA:(List (Option (List Int)))) (oB:Nat) (oC:Int) (oD:(List Int)) (sa:Int):Option (Int⊕(Unit⊕Int)) :=
 if (decide (sa<(s_.length:Int)))=true then
  (aY s_ sa).bind fun xa2 =>
  (eG n xa2 oA oB oC oD).bind fun ya3 =>
  if ya3=true then
   some (.inr (.inr sa))
  else
   some (.inl (al .i64 sa 1))
 else
  some (.inr (.inl ()))
def dE (n:Nat) (s_:(List Int)) (oA:(List (Option (List Int)))) (oB:Nat) (oC:Int) (oD:(List Int)):Option Int :=
 (iter (fun s=>b8 n s_ oA oB oC oD s) n 0).bind fun t1 =>
 match t1 with
 | .inl w2 =>
  some (-1)
 | .inr w2 =>
  some w2
def b9 (n:Nat) (s_:(List Int)) (oA:(List (Option (List Int)))) (oB:Nat) (oC:Int) (oD:(List Int)):Option Bool :=
 (dE n s_ oA oB oC oD).bind fun y1 =>
 some (decide (y1≥0))
def cT (n:Nat) (c:aO) (sb:(List (Option (List Int)))×(List Int)×(List Int)×(List Int)×Int×Int):Option (((List (Option (List Int)))×(List Int)×(List Int)×(List Int)×Int×Int)⊕((List (Option (List Int)))×(List Int))) :=
 if (decide (sb.2.2.2.2.2<sb.2.2.2.2.1))=true then
  (aY sb.2.2.2.1 sb.2.2.2.2.2).bind fun xb2 =>
  (aY sb.1 xb2).bind fun xb3 =>
  matchO xb3 (
   (dm n sb.1 sb.2.1 sb.2.2.1).bind fun yb5 =>
   grd (Nat.ble ((sb.2.1.length + 1) * 8) 140737488355328) <|
   some (.inl ((sb.1.set (xb2).toNat (some sb.2.2.1)),(sb.2.1++([xb2]:List Int)),sb.2.2.1,sb.2.2.2.1,sb.2.2.2.2.1,(al .i64 sb.2.2.2.2.2 1)))) fun zb4 =>
   grd (ef zb4) <|
   (f9 n sb.1 ((xb2).toNat) sb.2.1 sb.2.2.1 zb4).bind fun yb7 =>
   if (!yb7.1)=true then
    some (.inl ((sb.1.set (xb2).toNat (some yb7.2)),sb.2.1,sb.2.2.1,sb.2.2.2.1,sb.2.2.2.2.1,(al .i64 sb.2.2.2.2.2 1)))
   else
    grd (Nat.ble ((sb.2.1.length + 1) * 8) 140737488355328) <|
    some (.inl ((sb.1.set (xb2).toNat (some yb7.2)),(sb.2.1++([xb2]:List Int)),sb.2.2.1,sb.2.2.2.1,sb.2.2.2.2.1,(al .i64 sb.2.2.2.2.2 1)))
 else
  some (.inr (sb.1,sb.2.1))
def fk (n:Nat) (c:aO) (sa:(List (Option (List Int)))×(List Int)):Option (((List (Option (List Int)))×(List Int))⊕((List (Option (List Int))))) :=
 if (decide ((sa.2.length:Int)>0))=true then
  (aY sa.2 (bi .i64 (sa.2.length:Int) 1)).bind fun xa2 =>
  grd (decide ((0:Int)≤(bi .i64 (sa.2.length:Int) 1))&&decide ((bi .i64 (sa.2.length:Int) 1)≤(sa.2.length:Int))) <|
  (aY sa.1 xa2).bind fun xa4 =>
  matchO xa4 (
   none) fun za5 =>
   (dn n sa.1 ((xa2).toNat) (sa.2.take (((bi .i64 (sa.2.length:Int) 1)).toNat)) za5).bind fun ya7 =>
   (aY c.Steps xa2).bind fun xa8 =>
   (lb n xa8).bind fun ya9 =>
   if ya9.2=true then
    (gz n ya9.1 (sa.1.set (xa2).toNat (some za5)) (sa.2.take (((bi .i64 (sa.2.length:Int) 1)).toNat)) za5).bind fun ya11 =>
    (fX n c xa2).bind fun ya12 =>
    (iter (fun s=>cT n c s) n ((sa.1.set (xa2).toNat (some za5)),(sa.2.take (((bi .i64 (sa.2.length:Int) 1)).toNat)),ya11,ya12,(ya12.length:Int),0)).bind fun ta13 =>
    some (.inl (ta13.1,ta13.2))
   else
    (fX n c xa2).bind fun ya11 =>
    (iter (fun s=>cT n c s) n ((sa.1.set (xa2).toNat (some za5)),(sa.2.take (((bi .i64 (sa.2.length:Int) 1)).toNat)),za5,ya11,(ya11.length:Int),0)).bind fun ta12 =>
    some (.inl (ta12.1,ta12.2))
 else
  some (.inr sa.1)
def fm (n:Nat) (c:aO) (sa:(List (Option (List Int)))×Int):Option (((List (Option (List Int)))×Int)⊕(Unit⊕Unit)) :=
 if (decide (sa.2<(c.Steps.length:Int)))=true then
  (aY c.Steps sa.2).bind fun xa2 =>
  (aY sa.1 sa.2).bind fun xa3 =>
  matchO xa3 (
   some (.inl (sa.1,(al .i64 sa.2 1)))) fun za4 =>
   grd (ef za4) <|
   (g5 n xa2).bind fun ya7 =>
   (b9 n ya7 sa.1 ((sa.2).toNat) sa.2 za4).bind fun ya8 =>
   if ya8=true then
    some (.inr (.inr ()))
   else
    some (.inl ((sa.1.set (sa.2).toNat (some za4)),(al .i64 sa.2 1)))
 else
  some (.inr (.inl ()))
def gj (n:Nat) (c:aO):Option Bool :=
 grd (decide ((0:Int)≤(c.Steps.length:Int))&&decide ((c.Steps.length:Int)≤(c.Steps.length:Int))&&decide (24 * (c.Steps.length:Int)≤140737488355328)&&decide ((c.Steps.length:Int)≤140737488355328)&&Nat.blt 0 1) <|
 (pe n c.Regs (List.replicate ((c.Steps.length:Int)).toNat (none:Option (List Int)))).bind fun y2 =>
 (aY (List.replicate ((c.Steps.length:Int)).toNat (none:Option (List Int))) 0).bind fun x3 =>
 (iter (fun s=>fk n c s) n (((List.replicate ((c.Steps.length:Int)).toNat (none:Option (List Int))).set 0 (some y2)),([0]:List Int))).bind fun t4 =>
 (iter (fun s=>fm n c s) n (t4,0)).bind fun t5 =>
 match t5 with
 | .inl w6 =>
  some true
 | .inr w6 =>
  some false
def kO (n:Nat) (c:aO):Option Int :=
 if (decide (c.Regs<0))=true then
  some 2
 else
  if (decide (c.Regs>1024))=true then
   some 2
  else
   if (decide ((c.Steps.length:Int)<1))=true then
    some 2
   else
    if (decide ((c.Steps.length:Int)>4096))=true then
     some 2
    else
     (aY c.Steps (bi .i64 (c.Steps.length:Int) 1)).bind fun x5 =>
     if (x5.Op != 8)=true then
      if (x5.Op != 10)=true then
       some 2
      else
       (aI n c.Steps c.Regs c.Steps (c.Steps.length:Int)).bind fun y8 =>
       if y8=true then
        some 2
       else
        if (decide (c.Regs>0))=true then
         (gj n c).bind fun y11 =>
         if (!y11)=true then
          some 2
         else
          some 0
        else
         some 0
     else
      (aI n c.Steps c.Regs c.Steps (c.Steps.length:Int)).bind fun y7 =>
      if y7=true then
       some 2
      else
       if (decide (c.Regs>0))=true then
        (gj n c).bind fun y10 =>
        if (!y10)=true then
         some 2
        else
         some 0
       else
        some 0
def iw (n:Nat) (s_:ab):Option Bool :=
 some (s_.Op==7)
def jj (n:Nat) (i:Int) (oA:Int) (oB:(List ab)) (oC:(List Int)):Option Bool :=
 (aY oB i).bind fun x1 =>
 (iw n x1).bind fun y2 =>
 some y2
def bS (n:Nat) (s_:(List ab)) (oA:Int) (oB:(List ab)) (oC:(List Int)) (oD:Int):Option Unit :=
 grd (ef s_) <|
 grd (Nat.ble (s_.length * 72) 140737488355328) <|
 some ()
def iM (n:Nat) (i:Int) (oA:Int) (oB:(List ab)) (oC:(List Int)) (oD:Int) (oE:(List ab)):Option Bool :=
 (aY oB i).bind fun x1 =>
 (iw n x1).bind fun y2 =>
 some y2
def c7 (n:Nat) (a:ab) (oA:Int) (oB:(List ab)) (oC:(List Int)) (oD:Int) (oE:(List ab)):Option (Bool×Int) :=
 (iM n (al .i64 oD 1) oA oB oC (al .i64 oD 1) oE).bind fun y1 =>
 some (y1,(al .i64 oD 1))
def bd (n:Nat) (oA:Int) (oB:(List ab)) (oC:(List Int)) (oE:(List ab)) (sa:Int×Int):Option ((Int×Int)⊕(Int⊕(Int×Int))) :=
 if (decide (sa.2<(oE.length:Int)))=true then
  (aY oE sa.2).bind fun xa2 =>
  (c7 n xa2 oA oB oC sa.1 oE).bind fun ya3 =>
  if ya3.1=true then
   some (.inr (.inr (ya3.2,sa.2)))
  else
   some (.inl (ya3.2,(al .i64 sa.2 1)))
 else
  some (.inr (.inl sa.1))
def bk (n:Nat) (oA:Int) (oB:(List ab)) (oC:(List Int)) (oD:Int) (oE:(List ab)):Option (Int×Int) :=
 (iter (fun s=>bd n oA oB oC oE s) n (oD,0)).bind fun t1 =>
 match t1 with
 | .inl w2 =>
  some ((-1),w2)
 | .inr w2 =>
  some (w2.2,w2.1)
def aQ (n:Nat) (oA:Int) (oB:(List ab)) (oC:(List Int)) (sa:(List ab)×Int×Int×Int):Option (((List ab)×Int×Int×Int)⊕((List ab)×Int×Int)) :=
 if (decide (sa.2.2.2<(sa.1.length:Int)))=true then
  (aY sa.1 sa.2.2.2).bind fun xa2 =>
  (c7 n xa2 oA oB oC sa.2.1 sa.1).bind fun ya3 =>
  if (!ya3.1)=true then
   (aY sa.1 sa.2.2.1).bind fun xa5 =>
   some (.inl ((sa.1.set (sa.2.2.1).toNat xa2),ya3.2,(al .i64 sa.2.2.1 1),(al .i64 sa.2.2.2 1)))
  else
   some (.inl (sa.1,ya3.2,sa.2.2.1,(al .i64 sa.2.2.2 1)))
 else
  some (.inr (sa.1,sa.2.1,sa.2.2.1))
def bm (n:Nat) (oA:Int) (oB:(List ab)) (oC:(List Int)) (oD:Int) (oE:(List ab)):Option (Int⊕(Nat×Nat×Int×(List ab))) :=
 (bk n oA oB oC oD oE).bind fun y1 =>
 if (y1.1==(-1))=true then
  some (.inl y1.2)
 else
  (iter (fun s=>aQ n oA oB oC s) n (oE,y1.2,y1.1,(al .i64 y1.1 1))).bind fun t3 =>
  grd (decide ((0:Int)≤t3.2.2)&&decide (t3.2.2≤(t3.1.length:Int))) <|
  grd (Nat.ble (((t3.2.2).toNat) + (t3.1.length - (t3.2.2).toNat)) t3.1.length) <|
  grd (decide ((0:Int)≤t3.2.2)&&decide (t3.2.2≤((t3.1.take ((t3.2.2).toNat)++(List.replicate (t3.1.length - (t3.2.2).toNat) (ab.mk 0 0 0 0 0 0 0 0 false)++t3.1.drop (((t3.2.2).toNat) + (t3.1.length - (t3.2.2).toNat)))).length:Int))) <|
  some (.inr ((t3.2.2).toNat,((t3.1.take ((t3.2.2).toNat)++(List.replicate (t3.1.length - (t3.2.2).toNat) (ab.mk 0 0 0 0 0 0 0 0 false)++t3.1.drop (((t3.2.2).toNat) + (t3.1.length - (t3.2.2).toNat)))).length - (t3.2.2).toNat),t3.2.1,(t3.1.take ((t3.2.2).toNat)++(List.replicate (t3.1.length - (t3.2.2).toNat) (ab.mk 0 0 0 0 0 0 0 0 false)++t3.1.drop (((t3.2.2).toNat) + (t3.1.length - (t3.2.2).toNat))))))
def bZ (n:Nat) (oA:Int) (oB:(List ab)) (oC:(List Int)) (oD:Int) (oE:(List ab)):Option (Nat×Nat) :=
 grd ((decide ((0:Int)≤(oE.length:Int))&&decide ((oE.length:Int)≤(oE.length:Int))&&decide ((oE.length:Int)≤(oE.length:Int)))&&!((oE.length:Int)==0)) <|
 some (((oE.length:Int)).toNat,0)
def eb (n:Nat) (oA:Int) (oB:(List ab)) (oC:(List Int)) (oD:Int) (oE:(List ab)) (sa:(List ab)×Int):Option (((List ab)×Int)⊕((List ab))) :=
 if (decide (sa.2<(oE.length:Int)))=true then
  (aY sa.1 sa.2).bind fun xa2 =>
  if (xa2.Op==8)=true then
   (aY oC xa2.To).bind fun xa4 =>
   some (.inl ((sa.1.set (sa.2).toNat (ab.mk xa2.Op xa2.A_ xa2.B xa2.C_ xa2.D xa2.Imm xa2.Bin xa4 xa2.Shared)),(al .i64 sa.2 1)))
  else
   if (xa2.Op==9)=true then
    (aY oC xa2.To).bind fun xa5 =>
    some (.inl ((sa.1.set (sa.2).toNat (ab.mk xa2.Op xa2.A_ xa2.B xa2.C_ xa2.D xa2.Imm xa2.Bin xa5 xa2.Shared)),(al .i64 sa.2 1)))
   else
    some (.inl (sa.1,(al .i64 sa.2 1)))
 else
  some (.inr sa.1)
def eT (n:Nat) (oA:Int) (oB:(List ab)) (oC:(List Int)) (oD:Int) (oE:(List ab)):Option (Nat×Nat×(List ab)) :=
 (iter (fun s=>eb n oA oB oC oD oE s) n (oE,0)).bind fun t1 =>
 (bZ n oA oB oC oD t1).bind fun y2 =>
 some (y2.1,y2.2,t1)
def dG (n:Nat) (c:aO) (oA:Int) (oB:(List ab)) (sa:(List Int)×Int×Int):Option (((List Int)×Int×Int)⊕((List Int))) :=
 if (decide (sa.2.1<(c.Steps.length:Int)))=true then
  (aY sa.1 sa.2.1).bind fun xa2 =>
  (jj n sa.2.1 oA oB (sa.1.set (sa.2.1).toNat sa.2.2)).bind fun ya3 =>
  if (!ya3)=true then
   some (.inl ((sa.1.set (sa.2.1).toNat sa.2.2),(al .i64 sa.2.1 1),(al .i64 sa.2.2 1)))
  else
   some (.inl ((sa.1.set (sa.2.1).toNat sa.2.2),(al .i64 sa.2.1 1),sa.2.2))
 else
  some (.inr sa.1)
def iN (n:Nat) (c:aO) (oA:Int) (oB:(List ab)):Option (Int×Nat×Nat×(List Int)×Int×(List ab)) :=
 grd (decide ((0:Int)≤(c.Steps.length:Int))&&decide ((c.Steps.length:Int)≤(c.Steps.length:Int))&&decide (8 * (c.Steps.length:Int)≤140737488355328)&&decide ((c.Steps.length:Int)≤140737488355328)&&Nat.blt 0 1) <|
 (iter (fun s=>dG n c oA oB s) n ((List.replicate ((c.Steps.length:Int)).toNat (0:Int)),0,0)).bind fun t2 =>
 (bS n c.Steps oA oB t2 (-1)).bind fun y3 =>
 (bm n oA oB t2 (-1) c.Steps).bind fun y4 =>
 match y4 with
 | .inl wa5 =>
  (eT n oA oB t2 wa5 c.Steps).bind fun y6 =>
  some (c.Regs,y6.1,y6.2.1,t2,wa5,y6.2.2)
 | .inr wb5 =>
  (eT n oA oB t2 wb5.2.2.1 (wb5.2.2.2.take wb5.1)).bind fun y6 =>
  some (c.Regs,y6.1,y6.2.1,t2,wb5.2.2.1,y6.2.2)
def jk (n:Nat) (c:aO):Option (aO×Int) :=
 (kO n c).bind fun y1 =>
 if (y1 != 0)=true then
  some ((aO.mk 0 ([]:List ab)),y1)
 else
  (iN n c c.Regs c.Steps).bind fun y3 =>
  some ((aO.mk y3.1 ((y3.2.2.2.2.2.drop 0).take y3.2.1)),0)
def jl (n:Nat) (s_:ab):Option Bool :=
 if (s_.Op==6)=true then
  some true
 else
  if s_.Shared=true then
   (c6 n s_.Op).bind fun y3 =>
   some ((fC .i64 y3 128) != 0)
  else
   some false
def ei (n:Nat) (s_:Int) (x:ab):Option Int :=
 (jl n x).bind fun y1 =>
 if y1=true then
  some 2
 else
  if (x.Op==7)=true then
   some 1
  else
   some s_
def zG (n:Nat) (s_:Nat) (o:Int) (oA:(List Int)):Option (Bool×(List Int)) :=
 (aY oA ((s_:Nat):Int)).bind fun x1 =>
 if (decide (o≤x1))=true then
  some (false,oA)
 else
  some (true,(oA.set s_ o))
def d_ (n:Nat) (s_:Nat) (o:Int) (oA:(List Int)) (oB:(List Int)):Option (Bool×(List Int)) :=
 (aY oA ((s_:Nat):Int)).bind fun x1 =>
 if (decide (o≤x1))=true then
  some (false,oA)
 else
  some (true,(oA.set s_ o))
def eH (n:Nat) (c:aO) (sb:(List Int)×(List Int)×(List Int)×Int×Int×Int):Option (((List Int)×(List Int)×(List Int)×Int×Int×Int)⊕((List Int)×(List Int))) :=
 if (decide (sb.2.2.2.2.1<sb.2.2.2.1))=true then
  (aY sb.2.2.1 sb.2.2.2.2.1).bind fun xb2 =>
  (aY sb.1 xb2).bind fun xb3 =>
  (d_ n ((xb2).toNat) sb.2.2.2.2.2 sb.1 sb.2.1).bind fun yb4 =>
  if yb4.1=true then
   grd (Nat.ble ((sb.2.1.length + 1) * 8) 140737488355328) <|
   some (.inl (yb4.2,(sb.2.1++([xb2]:List Int)),sb.2.2.1,sb.2.2.2.1,(al .i64 sb.2.2.2.2.1 1),sb.2.2.2.2.2))
  else
   some (.inl (yb4.2,sb.2.1,sb.2.2.1,sb.2.2.2.1,(al .i64 sb.2.2.2.2.1 1),sb.2.2.2.2.2))
 else
  some (.inr (sb.1,sb.2.1))
def eJ (n:Nat) (c:aO) (sa:(List Int)×(List Int)):Option (((List Int)×(List Int))⊕((List Int))) :=
 if (decide ((sa.2.length:Int)>0))=true then
  (aY sa.2 (bi .i64 (sa.2.length:Int) 1)).bind fun xa2 =>
  grd (decide ((0:Int)≤(bi .i64 (sa.2.length:Int) 1))&&decide ((bi .i64 (sa.2.length:Int) 1)≤(sa.2.length:Int))) <|
  (aY sa.1 xa2).bind fun xa4 =>
  (aY c.Steps xa2).bind fun xa5 =>
  (ei n xa4 xa5).bind fun ya6 =>
  (fX n c xa2).bind fun ya7 =>
  (iter (fun s=>eH n c s) n (sa.1,(sa.2.take (((bi .i64 (sa.2.length:Int) 1)).toNat)),ya7,(ya7.length:Int),0,ya6)).bind fun ta8 =>
  some (.inl (ta8.1,ta8.2))
 else
  some (.inr sa.1)
def i1 (n:Nat) (c:aO):Option (List Int) :=
 grd (decide ((0:Int)≤(c.Steps.length:Int))&&decide ((c.Steps.length:Int)≤(c.Steps.length:Int))&&decide (8 * (c.Steps.length:Int)≤140737488355328)&&decide ((c.Steps.length:Int)≤140737488355328)&&Nat.blt 0 1) <|
 (aY (List.replicate ((c.Steps.length:Int)).toNat (0:Int)) 0).bind fun x2 =>
 (iter (fun s=>eJ n c s) n (((List.replicate ((c.Steps.length:Int)).toNat (0:Int)).set 0 1),([0]:List Int))).bind fun t3 =>
 some t3
def cU (n:Nat) (oA:(List ab)) (oB:(List Int)):Option (Nat×Nat) :=
 grd ((decide ((0:Int)≤(oA.length:Int))&&decide ((oA.length:Int)≤(oA.length:Int))&&decide ((oA.length:Int)≤(oA.length:Int)))&&!((oA.length:Int)==0)) <|
 some (((oA.length:Int)).toNat,0)
def gB (n:Nat) (oA:(List ab)) (oB:(List Int)) (sa:(List ab)×Int):Option (((List ab)×Int)⊕((List ab))) :=
 if (decide (sa.2<(oA.length:Int)))=true then
  (aY sa.1 sa.2).bind fun xa2 =>
  if (xa2.Op==8)=true then
   (aY oB xa2.To).bind fun xa4 =>
   some (.inl ((sa.1.set (sa.2).toNat (ab.mk xa2.Op xa2.A_ xa2.B xa2.C_ xa2.D xa2.Imm xa2.Bin xa4 xa2.Shared)),(al .i64 sa.2 1)))
  else
   if (xa2.Op==9)=true then
    (aY oB xa2.To).bind fun xa5 =>
    some (.inl ((sa.1.set (sa.2).toNat (ab.mk xa2.Op xa2.A_ xa2.B xa2.C_ xa2.D xa2.Imm xa2.Bin xa5 xa2.Shared)),(al .i64 sa.2 1)))
   else
    some (.inl (sa.1,(al .i64 sa.2 1)))
 else
  some (.inr sa.1)
def jm (n:Nat) (oA:(List ab)) (oB:(List Int)):Option (Nat×Nat×(List ab)) :=
 (iter (fun s=>gB n oA oB s) n (oA,0)).bind fun t1 =>
 (cU n t1 oB).bind fun y2 =>
 some (y2.1,y2.2,t1)
def gC (n:Nat) (y1:aO×Int) (y3:(List Int)) (sa:(List ab)×(List Int)×Int):Option (((List ab)×(List Int)×Int)⊕((List ab)×(List Int))) :=
 if (decide (sa.2.2<(y3.length:Int)))=true then
  (aY y3 sa.2.2).bind fun xa2 =>
  grd (Nat.ble ((sa.2.1.length + 1) * 8) 140737488355328) <|
  if (xa2==2)=true then
   (aY y1.1.Steps sa.2.2).bind fun xa5 =>
   (jl n xa5).bind fun ya6 =>
   if ya6=true then
    grd (Nat.ble ((sa.1.length + 1) * 72) 140737488355328) <|
    grd (Nat.ble (((sa.1++([(ab.mk 7 0 0 0 0 0 0 0 false)]:List ab)).length + 1) * 72) 140737488355328) <|
    some (.inl (((sa.1++([(ab.mk 7 0 0 0 0 0 0 0 false)]:List ab))++([xa5]:List ab)),(sa.2.1++([(sa.1.length:Int)]:List Int)),(al .i64 sa.2.2 1)))
   else
    grd (Nat.ble ((sa.1.length + 1) * 72) 140737488355328) <|
    some (.inl ((sa.1++([xa5]:List ab)),(sa.2.1++([(sa.1.length:Int)]:List Int)),(al .i64 sa.2.2 1)))
  else
   (aY y1.1.Steps sa.2.2).bind fun xa5 =>
   grd (Nat.ble ((sa.1.length + 1) * 72) 140737488355328) <|
   some (.inl ((sa.1++([xa5]:List ab)),(sa.2.1++([(sa.1.length:Int)]:List Int)),(al .i64 sa.2.2 1)))
 else
  some (.inr (sa.1,sa.2.1))
def ja (n:Nat) (c:aO):Option (aO×Int) :=
 (jk n c).bind fun y1 =>
 if (y1.2 != 0)=true then
  some ((aO.mk 0 ([]:List ab)),y1.2)
 else
  (i1 n y1.1).bind fun y3 =>
  (iter (fun s=>gC n y1 y3 s) n (([]:List ab),([]:List Int),0)).bind fun t4 =>
  if (decide ((t4.1.length:Int)>4096))=true then
   some ((aO.mk 0 ([]:List ab)),3)
  else
   (jm n t4.1 t4.2).bind fun y6 =>
   some ((aO.mk y1.1.Regs ((y6.2.2.drop 0).take y6.1)),0)
def ea (n:Nat) (a:(List ab)) (b:(List ab)) (sa:Int):Option (Int⊕(Unit⊕Unit)) :=
 if (decide (sa<(a.length:Int)))=true then
  (aY a sa).bind fun xa2 =>
  (aY b sa).bind fun xa3 =>
  if (!(ab.beq xa2 xa3))=true then
   some (.inr (.inr ()))
  else
   some (.inl (al .i64 sa 1))
 else
  some (.inr (.inl ()))
def fE (n:Nat) (a:(List ab)) (b:(List ab)):Option Bool :=
 if ((a.length:Int) != (b.length:Int))=true then
  some false
 else
  (iter (fun s=>ea n a b s) n 0).bind fun t2 =>
  match t2 with
  | .inl w3 =>
   some true
  | .inr w3 =>
   some false
def pg (n:Nat) (a:aO) (b:aO):Option Bool :=
 if (a.Regs==b.Regs)=true then
  (fE n a.Steps b.Steps).bind fun y2 =>
  some y2
 else
  some false
def gD (n:Nat) (c:aO) (sa:Int×Int):Option ((Int×Int)⊕Int) :=
 if (decide (sa.1<(c.Steps.length:Int)))=true then
  (aY c.Steps sa.1).bind fun xa2 =>
  (iw n xa2).bind fun ya3 =>
  if ya3=true then
   some (.inl ((al .i64 sa.1 1),(al .i64 sa.2 1)))
  else
   some (.inl ((al .i64 sa.1 1),sa.2))
 else
  some (.inr sa.2)
def iy (n:Nat) (c:aO):Option Int :=
 (kO n c).bind fun y1 =>
 if (y1 != 0)=true then
  some 0
 else
  (iter (fun s=>gD n c s) n (0,0)).bind fun t3 =>
  some t3
def gd (n:Nat) (s_:ab):Option Bool :=
 if (s_.Op==6)=true then
  some true
 else
  if (s_.Op==4)=true then
   some s_.Shared
  else
   if (s_.Op==5)=true then
    some s_.Shared
   else
    some false
def bj (n:Nat) (c:aO) (sb:(List (dk Bool))×(List ad)×Bool×(List Int)×Int):Option (((List (dk Bool))×(List ad)×Bool×(List Int)×Int)⊕((List (dk Bool))×(List ad))) :=
 if (decide (sb.2.2.2.2<(sb.2.2.2.1.length:Int)))=true then
  (aY sb.2.2.2.1 sb.2.2.2.2).bind fun xb2 =>
  grd (Nat.ble ((sb.2.1.length + 1) * 16) 140737488355328) <|
  some (.inl (sb.1,(sb.2.1++([(ad.mk xb2 sb.2.2.1)]:List ad)),sb.2.2.1,sb.2.2.2.1,(al .i64 sb.2.2.2.2 1)))
 else
  some (.inr (sb.1,sb.2.1))
def gE (n:Nat) (c:aO) (sa:(List (dk Bool))×(List ad)):Option (((List (dk Bool))×(List ad))⊕((List (dk Bool)))) :=
 if (decide ((sa.2.length:Int)>0))=true then
  (aY sa.2 (bi .i64 (sa.2.length:Int) 1)).bind fun xa2 =>
  grd (decide ((0:Int)≤(bi .i64 (sa.2.length:Int) 1))&&decide ((bi .i64 (sa.2.length:Int) 1)≤(sa.2.length:Int))) <|
  if xa2.open_=true then
   (aY sa.1 xa2.at_).bind fun xa5 =>
   if xa5.e1=true then
    some (.inl (sa.1,(sa.2.take (((bi .i64 (sa.2.length:Int) 1)).toNat))))
   else
    if xa2.open_=true then
     (aY c.Steps xa2.at_).bind fun xa8 =>
     if (xa8.Op==7)=true then
      (dA n c xa2.at_).bind fun ya10 =>
      (iter (fun s=>bj n c s) n ((sa.1.set (xa2.at_).toNat (dk.mk xa5.e0 true)),(sa.2.take (((bi .i64 (sa.2.length:Int) 1)).toNat)),false,ya10,0)).bind fun ta11 =>
      some (.inl (ta11.1,ta11.2))
     else
      (dA n c xa2.at_).bind fun ya10 =>
      (iter (fun s=>bj n c s) n ((sa.1.set (xa2.at_).toNat (dk.mk xa5.e0 true)),(sa.2.take (((bi .i64 (sa.2.length:Int) 1)).toNat)),true,ya10,0)).bind fun ta11 =>
      some (.inl (ta11.1,ta11.2))
    else
     (aY c.Steps xa2.at_).bind fun xa8 =>
     (gd n xa8).bind fun ya9 =>
     if (xa8.Op==7)=true then
      (dA n c xa2.at_).bind fun ya11 =>
      (iter (fun s=>bj n c s) n ((sa.1.set (xa2.at_).toNat (dk.mk xa5.e0 true)),(sa.2.take (((bi .i64 (sa.2.length:Int) 1)).toNat)),false,ya11,0)).bind fun ta12 =>
      some (.inl (ta12.1,ta12.2))
     else
      (dA n c xa2.at_).bind fun ya11 =>
      (iter (fun s=>bj n c s) n ((sa.1.set (xa2.at_).toNat (dk.mk xa5.e0 true)),(sa.2.take (((bi .i64 (sa.2.length:Int) 1)).toNat)),ya9,ya11,0)).bind fun ta12 =>
      some (.inl (ta12.1,ta12.2))
  else
   (aY sa.1 xa2.at_).bind fun xa5 =>
   if xa5.e0=true then
    some (.inl (sa.1,(sa.2.take (((bi .i64 (sa.2.length:Int) 1)).toNat))))
   else
    if xa2.open_=true then
     (aY c.Steps xa2.at_).bind fun xa8 =>
     if (xa8.Op==7)=true then
      (dA n c xa2.at_).bind fun ya10 =>
      (iter (fun s=>bj n c s) n ((sa.1.set (xa2.at_).toNat (dk.mk true xa5.e1)),(sa.2.take (((bi .i64 (sa.2.length:Int) 1)).toNat)),false,ya10,0)).bind fun ta11 =>
      some (.inl (ta11.1,ta11.2))
     else
      (dA n c xa2.at_).bind fun ya10 =>
      (iter (fun s=>bj n c s) n ((sa.1.set (xa2.at_).toNat (dk.mk true xa5.e1)),(sa.2.take (((bi .i64 (sa.2.length:Int) 1)).toNat)),true,ya10,0)).bind fun ta11 =>
      some (.inl (ta11.1,ta11.2))
    else
     (aY c.Steps xa2.at_).bind fun xa8 =>
     (gd n xa8).bind fun ya9 =>
     if (xa8.Op==7)=true then
      (dA n c xa2.at_).bind fun ya11 =>
      (iter (fun s=>bj n c s) n ((sa.1.set (xa2.at_).toNat (dk.mk true xa5.e1)),(sa.2.take (((bi .i64 (sa.2.length:Int) 1)).toNat)),false,ya11,0)).bind fun ta12 =>
      some (.inl (ta12.1,ta12.2))
     else
      (dA n c xa2.at_).bind fun ya11 =>
      (iter (fun s=>bj n c s) n ((sa.1.set (xa2.at_).toNat (dk.mk true xa5.e1)),(sa.2.take (((bi .i64 (sa.2.length:Int) 1)).toNat)),ya9,ya11,0)).bind fun ta12 =>
      some (.inl (ta12.1,ta12.2))
 else
  some (.inr sa.1)
def m4 (n:Nat) (c:aO):Option (List (dk Bool)) :=
 grd (decide ((0:Int)≤(c.Steps.length:Int))&&decide ((c.Steps.length:Int)≤(c.Steps.length:Int))&&decide (2 * (c.Steps.length:Int)≤140737488355328)&&decide ((c.Steps.length:Int)≤140737488355328)&&Nat.blt 0 2) <|
 (iter (fun s=>gE n c s) n ((List.replicate ((c.Steps.length:Int)).toNat (dk.mk false false)),([(ad.mk 0 false)]:List ad))).bind fun t2 =>
 some t2
def dS (n:Nat) (y7:aO×Int) (y8:aO×Int) (y21:(List (dk Bool))) (sa:Int×Int):Option ((Int×Int)⊕Int) :=
 if (decide (sa.2<(y21.length:Int)))=true then
  (aY y21 sa.2).bind fun xa2 =>
  if xa2.e1=true then
   (aY y7.1.Steps sa.2).bind fun xa4 =>
   (gd n xa4).bind fun ya5 =>
   if ya5=true then
    some (.inl ((al .i64 sa.1 1),(al .i64 sa.2 1)))
   else
    some (.inl (sa.1,(al .i64 sa.2 1)))
  else
   some (.inl (sa.1,(al .i64 sa.2 1)))
 else
  some (.inr sa.1)
def dT (n:Nat) (y7:aO×Int) (y8:aO×Int) (t22:Int) (sa:Int):Option (Int⊕(Unit⊕Unit)) :=
 if (decide (sa<(y8.1.Steps.length:Int)))=true then
  (aY y8.1.Steps sa).bind fun xa2 =>
  if (xa2.Op==7)=true then
   if ((al .i64 sa 1)==(y8.1.Steps.length:Int))=true then
    some (.inr (.inr ()))
   else
    (aY y8.1.Steps (al .i64 sa 1)).bind fun xa5 =>
    (gd n xa5).bind fun ya6 =>
    if (!ya6)=true then
     some (.inr (.inr ()))
    else
     some (.inl (al .i64 sa 1))
  else
   some (.inl (al .i64 sa 1))
 else
  some (.inr (.inl ()))
def fo (n:Nat) (c:aO):Option Bool :=
 (qi n).bind fun y1 =>
 if (!y1)=true then
  some false
 else
  (k8 n c 150).bind fun y3 =>
  if (!y3)=true then
   some true
  else
   (m3 n c).bind fun y5 =>
   if (y5 != 0)=true then
    some true
   else
    (jk n c).bind fun y7 =>
    (ja n c).bind fun y8 =>
    (ja n y7.1).bind fun y9 =>
    (ja n y8.1).bind fun y10 =>
    if (y7.2 != 0)=true then
     some false
    else
     if (y8.2 != 0)=true then
      some false
     else
      if (y9.2 != 0)=true then
       some false
      else
       if (y10.2 != 0)=true then
        some false
       else
        (pg n y8.1 y9.1).bind fun y15 =>
        if (!y15)=true then
         some false
        else
         (pg n y8.1 y10.1).bind fun y17 =>
         if (!y17)=true then
          some false
         else
          (iy n y7.1).bind fun y19 =>
          if (y19 != 0)=true then
           some false
          else
           (m4 n y7.1).bind fun y21 =>
           (iter (fun s=>dS n y7 y8 y21 s) n (0,0)).bind fun t22 =>
           (iter (fun s=>dT n y7 y8 t22 s) n 0).bind fun t23 =>
           match t23 with
           | .inl w24 =>
            (iy n y8.1).bind fun y25 =>
            if (y25==t22)=true then
             some ((y8.1.Steps.length:Int)==(al .i64 (y7.1.Steps.length:Int) t22))
            else
             some false
           | .inr w24 =>
            some false

end Go.Proofs.Ytaiokpalfdbnnaa
