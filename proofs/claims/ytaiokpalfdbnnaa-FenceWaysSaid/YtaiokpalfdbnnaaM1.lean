/- What the functions compute, as functions on lists and numbers. Printed by a program from the code; nothing is claimed here. -/
import Derived.Test.YtaiokpalfdbnnaaM0
namespace Go.Proofs.Ytaiokpalfdbnnaa
open Go A
set_option linter.unusedVariables false

structure da (α:Type) where
  mk ::
  e0:α
  e1:α
structure ab where
  mk ::
  Op:Int
  A_:Int
  B:Int
  C_:Int
  D:Int
  Imm:Int
  Bin:Int
  To:Int
  Shared:Bool
structure ax where
  mk ::
  Regs:Int
  Steps:(List ab)
structure ad where
  mk ::
  at_:Int
  open_:Bool
def ab.beq (x y:ab):Bool:=((x.Op==y.Op)&&((x.A_==y.A_)&&((x.B==y.B)&&((x.C_==y.C_)&&((x.D==y.D)&&((x.Imm==y.Imm)&&((x.Bin==y.Bin)&&((x.To==y.To)&&(x.Shared==y.Shared)))))))))
theorem ab.beq_eq {x y:ab} (h:ab.beq x y=true):x=y:=by
  obtain ⟨a1,a2,a3,a4,a5,a6,a7,a8,a9⟩:=x
  obtain ⟨b10,b11,b12,b13,b14,b15,b16,b17,b18⟩:=y
  unfold ab.beq at h
  simp only [Bool.and_eq_true,beq_iff_eq] at h
  simp_all
theorem ab.beq_refl (x:ab):ab.beq x x=true:=by
  unfold ab.beq
  simp
def ab.wf (x:ab):Prop:=(Ej .i64 x.Op)∧(Ej .i64 x.A_)∧(Ej .i64 x.B)∧(Ej .i64 x.C_)∧(Ej .i64 x.D)∧(Ej .i64 x.Imm)∧(Ej .i64 x.Bin)∧(Ej .i64 x.To)∧(True)
def ax.wf (x:ax):Prop:=(Ej .i64 x.Regs)∧(x.Steps.length≤maxLen∧∀ z∈x.Steps,ab.wf z)
def rD (n:Nat):Option Bool:=some true
def l6 (n:Nat) (c:ax) (most:Int):Option Bool :=
 if (decide ((c.Steps.length:Int)≤most))=true then
  some (decide (c.Regs≤most))
 else
  some false
def uA (n:Nat):Option Unit :=
 some ()
def rE (n:Nat):Option Unit :=
 some ()
def rF (n:Nat):Option Unit :=
 some ()
def rG (n:Nat):Option Unit :=
 some ()
def rH (n:Nat):Option Unit :=
 some ()
def rI (n:Nat):Option Unit :=
 some ()
def rJ (n:Nat):Option Unit :=
 some ()
def rK (n:Nat):Option Unit :=
 some ()
def rL (n:Nat):Option Unit :=
 some ()
def pH (n:Nat):Option Unit :=
 some ()
def pI (n:Nat):Option Unit :=
 some ()
def ua (n:Nat) (s_:ab) (regs:Int) (steps:Int):Option Bool :=
 if (decide (s_.Op<1))=true then
  some false
 else
  if (decide (s_.Op>10))=true then
   some false
  else
   if (s_.Op==0)=true then
    (uA n).bind fun y4 =>
    if (!(ab.beq (ab.mk s_.Op 0 0 0 0 0 0 0 false) s_))=true then
     some false
    else
     some true
   else
    if (s_.Op==1)=true then
     (rE n).bind fun y4 =>
     if (!(ab.beq (ab.mk s_.Op s_.A_ 0 0 0 s_.Imm 0 0 false) s_))=true then
      some false
     else
      if (decide (s_.A_<0))=true then
       some false
      else
       if (decide (s_.A_≥regs))=true then
        some false
       else
        some true
    else
     if (s_.Op==2)=true then
      (rF n).bind fun y4 =>
      if (!(ab.beq (ab.mk s_.Op s_.A_ s_.B 0 0 0 0 0 false) s_))=true then
       some false
      else
       if (decide (s_.A_<0))=true then
        some false
       else
        if (decide (s_.A_≥regs))=true then
         some false
        else
         if (decide (s_.B<0))=true then
          some false
         else
          if (decide (s_.B≥regs))=true then
           some false
          else
           some true
     else
      if (s_.Op==3)=true then
       (rG n).bind fun y4 =>
       if (decide (s_.Bin<1))=true then
        some false
       else
        if (decide (s_.Bin>13))=true then
         some false
        else
         if (!(ab.beq (ab.mk s_.Op s_.A_ s_.B s_.C_ 0 0 s_.Bin 0 false) s_))=true then
          some false
         else
          if (decide (s_.A_<0))=true then
           some false
          else
           if (decide (s_.A_≥regs))=true then
            some false
           else
            if (decide (s_.B<0))=true then
             some false
            else
             if (decide (s_.B≥regs))=true then
              some false
             else
              if (decide (s_.C_<0))=true then
               some false
              else
               if (decide (s_.C_≥regs))=true then
                some false
               else
                some true
      else
       if (s_.Op==4)=true then
        (rH n).bind fun y4 =>
        if (!(ab.beq (ab.mk s_.Op s_.A_ s_.B 0 0 s_.Imm 0 0 s_.Shared) s_))=true then
         some false
        else
         if (decide (s_.A_<0))=true then
          some false
         else
          if (decide (s_.A_≥regs))=true then
           some false
          else
           if (decide (s_.B<0))=true then
            some false
           else
            if (decide (s_.B≥regs))=true then
             some false
            else
             some true
       else
        if (s_.Op==5)=true then
         (rI n).bind fun y4 =>
         if (!(ab.beq (ab.mk s_.Op 0 s_.B s_.C_ 0 s_.Imm 0 0 s_.Shared) s_))=true then
          some false
         else
          if (decide (s_.B<0))=true then
           some false
          else
           if (decide (s_.B≥regs))=true then
            some false
           else
            if (decide (s_.C_<0))=true then
             some false
            else
             if (decide (s_.C_≥regs))=true then
              some false
             else
              some true
        else
         if (s_.Op==6)=true then
          (rJ n).bind fun y4 =>
          if (!s_.Shared)=true then
           some false
          else
           if (!(ab.beq (ab.mk s_.Op s_.A_ s_.B s_.C_ s_.D s_.Imm 0 0 s_.Shared) s_))=true then
            some false
           else
            if (decide (s_.A_<0))=true then
             some false
            else
             if (decide (s_.A_≥regs))=true then
              some false
             else
              if (decide (s_.B<0))=true then
               some false
              else
               if (decide (s_.B≥regs))=true then
                some false
               else
                if (decide (s_.C_<0))=true then
                 some false
                else
                 if (decide (s_.C_≥regs))=true then
                  some false
                 else
                  if (decide (s_.D<0))=true then
                   some false
                  else
                   if (decide (s_.D≥regs))=true then
                    some false
                   else
                    some true
         else
          if (s_.Op==7)=true then
           (rK n).bind fun y4 =>
           if (!(ab.beq (ab.mk s_.Op 0 0 0 0 0 0 0 false) s_))=true then
            some false
           else
            some true
          else
           if (s_.Op==8)=true then
            (rL n).bind fun y4 =>
            if (decide (s_.To<0))=true then
             some false
            else
             if (decide (s_.To≥steps))=true then
              some false
             else
              if (!(ab.beq (ab.mk s_.Op 0 0 0 0 0 0 s_.To false) s_))=true then
               some false
              else
               some true
           else
            if (s_.Op==9)=true then
             (pH n).bind fun y4 =>
             if (decide (s_.To<0))=true then
              some false
             else
              if (decide (s_.To≥steps))=true then
               some false
              else
               if (!(ab.beq (ab.mk s_.Op 0 s_.B 0 0 0 0 s_.To false) s_))=true then
                some false
               else
                if (decide (s_.B<0))=true then
                 some false
                else
                 if (decide (s_.B≥regs))=true then
                  some false
                 else
                  some true
            else
             if (s_.Op==10)=true then
              (pI n).bind fun y4 =>
              if (!(ab.beq (ab.mk s_.Op 0 s_.B 0 0 0 0 0 false) s_))=true then
               some false
              else
               if (decide (s_.B<0))=true then
                some false
               else
                if (decide (s_.B≥regs))=true then
                 some false
                else
                 some true
             else
              none
def j7 (n:Nat) (op:Int):Option (Bool×Bool×Bool×Bool) :=
 if (op==1)=true then
  some (false,false,false,true)
 else
  if (op==2)=true then
   some (true,false,false,true)
  else
   if (op==4)=true then
    some (true,false,false,true)
   else
    if (op==3)=true then
     some (true,true,false,true)
    else
     if (op==5)=true then
      some (true,true,false,false)
     else
      if (op==6)=true then
       some (true,true,true,true)
      else
       if (op==9)=true then
        some (true,false,false,false)
       else
        if (op==10)=true then
         some (true,false,false,false)
        else
         some (false,false,false,false)
def l7 (n:Nat) (s_:ab):Option (Int×Bool) :=
 (j7 n s_.Op).bind fun y1 =>
 if (!y1.2.2.2)=true then
  some (0,false)
 else
  some (s_.A_,true)
def l8 (n:Nat) (l:(List Int)) (n_:Int) (sa:Int):Option (Int⊕Int) :=
 if (decide (sa<(l.length:Int)))=true then
  (aT l sa).bind fun xa2 =>
  if (decide (xa2<n_))=true then
   some (.inl (ah .i64 sa 1))
  else
   some (.inr sa)
 else
  some (.inr sa)
def cQ (n:Nat) (l:(List Int)) (n_:Int):Option (List Int) :=
 (iter (fun s=>l8 n l n_ s) n 0).bind fun t1 =>
 if (decide (t1<(l.length:Int)))=true then
  (aT l t1).bind fun x3 =>
  if (x3==n_)=true then
   some l
  else
   grd (decide ((0:Int)≤t1)&&decide (t1≤(l.length:Int))) <|
   grd (Nat.ble ((l.take (t1).toNat).length * 8) 140737488355328) <|
   grd (Nat.ble (((l.take (t1).toNat).length + 1) * 8) 140737488355328) <|
   grd (decide ((0:Int)≤t1)&&decide (t1≤(l.length:Int))) <|
   grd (Nat.ble ((((l.take (t1).toNat)++([n_]:List Int)).length + (l.drop (t1).toNat).length) * 8) 140737488355328) <|
   some (((l.take (t1).toNat)++([n_]:List Int))++(l.drop (t1).toNat))
 else
  grd (decide ((0:Int)≤t1)&&decide (t1≤(l.length:Int))) <|
  grd (Nat.ble ((l.take (t1).toNat).length * 8) 140737488355328) <|
  grd (Nat.ble (((l.take (t1).toNat).length + 1) * 8) 140737488355328) <|
  grd (decide ((0:Int)≤t1)&&decide (t1≤(l.length:Int))) <|
  grd (Nat.ble ((((l.take (t1).toNat)++([n_]:List Int)).length + (l.drop (t1).toNat).length) * 8) 140737488355328) <|
  some (((l.take (t1).toNat)++([n_]:List Int))++(l.drop (t1).toNat))
def dV (n:Nat) (c:ax) (at_:Int):Option (List Int) :=
 if (decide (at_<0))=true then
  some ([]:List Int)
 else
  if (decide (at_≥(c.Steps.length:Int)))=true then
   some ([]:List Int)
  else
   (aT c.Steps at_).bind fun x3 =>
   if (x3.Op != 8)=true then
    if (x3.Op != 10)=true then
     if (decide ((ah .i64 at_ 1)<(c.Steps.length:Int)))=true then
      (cQ n ([]:List Int) (ah .i64 at_ 1)).bind fun y7 =>
      if (x3.Op==8)=true then
       if (decide (x3.To≥0))=true then
        if (decide (x3.To<(c.Steps.length:Int)))=true then
         (cQ n y7 x3.To).bind fun y11 =>
         some y11
        else
         some y7
       else
        some y7
      else
       if (x3.Op==9)=true then
        if (decide (x3.To≥0))=true then
         if (decide (x3.To<(c.Steps.length:Int)))=true then
          (cQ n y7 x3.To).bind fun y12 =>
          some y12
         else
          some y7
        else
         some y7
       else
        some y7
     else
      if (x3.Op==8)=true then
       if (decide (x3.To≥0))=true then
        if (decide (x3.To<(c.Steps.length:Int)))=true then
         (cQ n ([]:List Int) x3.To).bind fun y10 =>
         some y10
        else
         some ([]:List Int)
       else
        some ([]:List Int)
      else
       if (x3.Op==9)=true then
        if (decide (x3.To≥0))=true then
         if (decide (x3.To<(c.Steps.length:Int)))=true then
          (cQ n ([]:List Int) x3.To).bind fun y11 =>
          some y11
         else
          some ([]:List Int)
        else
         some ([]:List Int)
       else
        some ([]:List Int)
    else
     if (x3.Op==8)=true then
      if (decide (x3.To≥0))=true then
       if (decide (x3.To<(c.Steps.length:Int)))=true then
        (cQ n ([]:List Int) x3.To).bind fun y9 =>
        some y9
       else
        some ([]:List Int)
      else
       some ([]:List Int)
     else
      if (x3.Op==9)=true then
       if (decide (x3.To≥0))=true then
        if (decide (x3.To<(c.Steps.length:Int)))=true then
         (cQ n ([]:List Int) x3.To).bind fun y10 =>
         some y10
        else
         some ([]:List Int)
       else
        some ([]:List Int)
      else
       some ([]:List Int)
   else
    if (x3.Op==8)=true then
     if (decide (x3.To≥0))=true then
      if (decide (x3.To<(c.Steps.length:Int)))=true then
       (cQ n ([]:List Int) x3.To).bind fun y8 =>
       some y8
      else
       some ([]:List Int)
     else
      some ([]:List Int)
    else
     if (x3.Op==9)=true then
      if (decide (x3.To≥0))=true then
       if (decide (x3.To<(c.Steps.length:Int)))=true then
        (cQ n ([]:List Int) x3.To).bind fun y9 =>
        some y9
       else
        some ([]:List Int)
      else
       some ([]:List Int)
     else
      some ([]:List Int)
def om (n:Nat) (s_:ab):Option (List Int) :=
 (j7 n s_.Op).bind fun y1 =>
 if y1.1=true then
  (cQ n ([]:List Int) s_.B).bind fun y3 =>
  if y1.2.1=true then
   (cQ n y3 s_.C_).bind fun y5 =>
   if y1.2.2.1=true then
    (cQ n y5 s_.D).bind fun y7 =>
    some y7
   else
    some y5
  else
   if y1.2.2.1=true then
    (cQ n y3 s_.D).bind fun y6 =>
    some y6
   else
    some y3
 else
  if y1.2.1=true then
   (cQ n ([]:List Int) s_.C_).bind fun y4 =>
   if y1.2.2.1=true then
    (cQ n y4 s_.D).bind fun y6 =>
    some y6
   else
    some y4
  else
   if y1.2.2.1=true then
    (cQ n ([]:List Int) s_.D).bind fun y5 =>
    some y5
   else
    some ([]:List Int)
def fI (n:Nat) (c:ax) (se:(List (Option (List Bool)))×(List Bool)×Int×Int×Bool×Int×(List Int)):Option (((List (Option (List Bool)))×(List Bool)×Int×Int×Bool×Int×(List Int))⊕((List (Option (List Bool)))×(List Bool)×Int×Bool×Int×(List Int))) :=
 if (decide (se.2.2.2.1<c.Regs))=true then
  (aT se.2.2.2.2.2.2 se.2.2.1).bind fun xe2 =>
  (aT se.1 xe2).bind fun xe3 =>
  matchO xe3 (
   none) fun ze4 =>
   (aT ze4 se.2.2.2.1).bind fun xe6 =>
   if xe6=true then
    (aT se.2.1 se.2.2.2.1).bind fun xe8 =>
    if (!xe8)=true then
     some (.inl ((se.1.set (xe2).toNat (some (ze4.set (se.2.2.2.1).toNat false))),se.2.1,se.2.2.1,(ah .i64 se.2.2.2.1 1),true,se.2.2.2.2.2.1,se.2.2.2.2.2.2))
    else
     some (.inl (se.1,se.2.1,se.2.2.1,(ah .i64 se.2.2.2.1 1),se.2.2.2.2.1,se.2.2.2.2.2.1,se.2.2.2.2.2.2))
   else
    some (.inl (se.1,se.2.1,se.2.2.1,(ah .i64 se.2.2.2.1 1),se.2.2.2.2.1,se.2.2.2.2.2.1,se.2.2.2.2.2.2))
 else
  some (.inr (se.1,se.2.1,se.2.2.1,se.2.2.2.2.1,se.2.2.2.2.2.1,se.2.2.2.2.2.2))
def de (n:Nat) (c:ax) (sd:(List (Option (List Bool)))×(List Bool)×Int×Bool×Int×(List Int)):Option (((List (Option (List Bool)))×(List Bool)×Int×Bool×Int×(List Int))⊕((List (Option (List Bool)))×Bool×Int)) :=
 if (decide (sd.2.2.1<(sd.2.2.2.2.2.length:Int)))=true then
  (aT sd.2.2.2.2.2 sd.2.2.1).bind fun xd2 =>
  (aT sd.1 xd2).bind fun xd3 =>
  matchO xd3 (
   grd (Nat.ble (sd.2.1.length * 1) 140737488355328) <|
   some (.inl ((sd.1.set (xd2).toNat (some sd.2.1)),sd.2.1,(ah .i64 sd.2.2.1 1),true,sd.2.2.2.2.1,sd.2.2.2.2.2))) fun zd4 =>
   (iter (fun s=>fI n c s) n (sd.1,sd.2.1,sd.2.2.1,0,sd.2.2.2.1,sd.2.2.2.2.1,sd.2.2.2.2.2)).bind fun td6 =>
   some (.inl (td6.1,td6.2.1,(ah .i64 td6.2.2.1 1),td6.2.2.2.1,td6.2.2.2.2.1,td6.2.2.2.2.2))
 else
  some (.inr (sd.1,sd.2.2.2.1,sd.2.2.2.2.1))
def fJ (n:Nat) (c:ax) (sb:(List (Option (List Bool)))×Bool×Int):Option (((List (Option (List Bool)))×Bool×Int)⊕((List (Option (List Bool)))×Bool)) :=
 if (decide (sb.2.2<(c.Steps.length:Int)))=true then
  (aT sb.1 sb.2.2).bind fun xb2 =>
  matchO xb2 (
   some (.inl (sb.1,sb.2.1,(ah .i64 sb.2.2 1)))) fun zb3 =>
   grd (Nat.ble (zb3.length * 1) 140737488355328) <|
   (aT c.Steps sb.2.2).bind fun xb6 =>
   (l7 n xb6).bind fun yb7 =>
   if yb7.2=true then
    (aT zb3 yb7.1).bind fun xb9 =>
    (dV n c sb.2.2).bind fun yb10 =>
    (iter (fun s=>de n c s) n (sb.1,(zb3.set (yb7.1).toNat true),0,sb.2.1,sb.2.2,yb10)).bind fun tb11 =>
    some (.inl (tb11.1,tb11.2.1,(ah .i64 tb11.2.2 1)))
   else
    (dV n c sb.2.2).bind fun yb9 =>
    (iter (fun s=>de n c s) n (sb.1,zb3,0,sb.2.1,sb.2.2,yb9)).bind fun tb10 =>
    some (.inl (tb10.1,tb10.2.1,(ah .i64 tb10.2.2 1)))
 else
  some (.inr (sb.1,sb.2.1))
def fK (n:Nat) (c:ax) (sa:(List (Option (List Bool)))×Bool):Option (((List (Option (List Bool)))×Bool)⊕((List (Option (List Bool))))) :=
 if sa.2=true then
  (iter (fun s=>fJ n c s) n (sa.1,false,0)).bind fun ta2 =>
  some (.inl (ta2.1,ta2.2))
 else
  some (.inr sa.1)
def fL (n:Nat) (c:ax) (t4:((List (Option (List Bool))))) (ya3:(List Int)) (sb:Int×Int):Option ((Int×Int)⊕(Int⊕Unit)) :=
 if (decide (sb.2<(ya3.length:Int)))=true then
  (aT t4 sb.1).bind fun xb2 =>
  matchO xb2 (
   some (.inr (.inl sb.1))) fun zb3 =>
   grd (dN zb3) <|
   (aT ya3 sb.2).bind fun xb6 =>
   (aT zb3 xb6).bind fun xb7 =>
   if (!xb7)=true then
    some (.inr (.inr ()))
   else
    some (.inl (sb.1,(ah .i64 sb.2 1)))
 else
  some (.inr (.inl sb.1))
def fM (n:Nat) (c:ax) (t4:((List (Option (List Bool))))) (sa:Int):Option (Int⊕(Unit⊕Unit)) :=
 if (decide (sa<(c.Steps.length:Int)))=true then
  (aT c.Steps sa).bind fun xa2 =>
  (om n xa2).bind fun ya3 =>
  (iter (fun s=>fL n c t4 ya3 s) n (sa,0)).bind fun ta4 =>
  match ta4 with
  | .inl wa5 =>
   some (.inl (ah .i64 wa5 1))
  | .inr wa5 =>
   some (.inr (.inr ()))
 else
  some (.inr (.inl ()))
def gQ (n:Nat) (c:ax):Option Bool :=
 grd (decide ((0:Int)≤(c.Steps.length:Int))&&decide ((c.Steps.length:Int)≤(c.Steps.length:Int))&&decide (24 * (c.Steps.length:Int)≤140737488355328)&&decide ((c.Steps.length:Int)≤140737488355328)&&Nat.blt 0 1) <|
 grd (decide ((0:Int)≤c.Regs)&&decide (c.Regs≤c.Regs)&&decide (1 * c.Regs≤140737488355328)&&decide (c.Regs≤140737488355328)&&Nat.blt 0 1) <|
 (aT (List.replicate ((c.Steps.length:Int)).toNat (none:Option (List Bool))) 0).bind fun x3 =>
 (iter (fun s=>fK n c s) n (((List.replicate ((c.Steps.length:Int)).toNat (none:Option (List Bool))).set 0 (some (List.replicate (c.Regs).toNat false))),true)).bind fun t4 =>
 (iter (fun s=>fM n c t4 s) n 0).bind fun t5 =>
 match t5 with
 | .inl w6 =>
  some true
 | .inr w6 =>
  some false
def g9 (n:Nat) (c:ax) (sa:Int):Option (Int⊕(Unit⊕Unit)) :=
 if (decide (sa<(c.Steps.length:Int)))=true then
  (aT c.Steps sa).bind fun xa2 =>
  (ua n xa2 c.Regs (c.Steps.length:Int)).bind fun ya3 =>
  if (!ya3)=true then
   some (.inr (.inr ()))
  else
   some (.inl (ah .i64 sa 1))
 else
  some (.inr (.inl ()))
def jZ (n:Nat) (c:ax):Option Int :=
 if (decide (c.Regs<0))=true then
  some 2
 else
  if (decide (c.Regs>1024))=true then
   some 2
  else
   if (decide ((c.Steps.length:Int)<1))=true then
    some 2
   else
    if (decide ((c.Steps.length:Int)>4096))=true then
     some 2
    else
     (iter (fun s=>g9 n c s) n 0).bind fun t5 =>
     match t5 with
     | .inl w6 =>
      (aT c.Steps (bc .i64 (c.Steps.length:Int) 1)).bind fun x7 =>
      if (x7.Op != 8)=true then
       if (x7.Op != 10)=true then
        some 2
       else
        (gQ n c).bind fun y10 =>
        if (!y10)=true then
         some 2
        else
         some 0
      else
       (gQ n c).bind fun y9 =>
       if (!y9)=true then
        some 2
       else
        some 0
     | .inr w6 =>
      some 2
def iO (n:Nat) (s_:ab):Option Bool :=
 if (s_.Op==6)=true then
  some true
 else
  if (s_.Op==4)=true then
   some s_.Shared
  else
   if (s_.Op==5)=true then
    some s_.Shared
   else
    some false
def bm (n:Nat) (c:ax) (sb:(List (da Bool))×(List ad)×Bool×(List Int)×Int):Option (((List (da Bool))×(List ad)×Bool×(List Int)×Int)⊕((List (da Bool))×(List ad))) :=
 if (decide (sb.2.2.2.2<(sb.2.2.2.1.length:Int)))=true then
  (aT sb.2.2.2.1 sb.2.2.2.2).bind fun xb2 =>
  grd (Nat.ble ((sb.2.1.length + 1) * 16) 140737488355328) <|
  some (.inl (sb.1,(sb.2.1++([(ad.mk xb2 sb.2.2.1)]:List ad)),sb.2.2.1,sb.2.2.2.1,(ah .i64 sb.2.2.2.2 1)))
 else
  some (.inr (sb.1,sb.2.1))
def hG (n:Nat) (c:ax) (sa:(List (da Bool))×(List ad)):Option (((List (da Bool))×(List ad))⊕((List (da Bool)))) :=
 if (decide ((sa.2.length:Int)>0))=true then
  (aT sa.2 (bc .i64 (sa.2.length:Int) 1)).bind fun xa2 =>
  grd (decide ((0:Int)≤(bc .i64 (sa.2.length:Int) 1))&&decide ((bc .i64 (sa.2.length:Int) 1)≤(sa.2.length:Int))) <|
  if xa2.open_=true then
   (aT sa.1 xa2.at_).bind fun xa5 =>
   if xa5.e1=true then
    some (.inl (sa.1,(sa.2.take (((bc .i64 (sa.2.length:Int) 1)).toNat))))
   else
    if xa2.open_=true then
     (aT c.Steps xa2.at_).bind fun xa8 =>
     if (xa8.Op==7)=true then
      (dV n c xa2.at_).bind fun ya10 =>
      (iter (fun s=>bm n c s) n ((sa.1.set (xa2.at_).toNat (da.mk xa5.e0 true)),(sa.2.take (((bc .i64 (sa.2.length:Int) 1)).toNat)),false,ya10,0)).bind fun ta11 =>
      some (.inl (ta11.1,ta11.2))
     else
      (dV n c xa2.at_).bind fun ya10 =>
      (iter (fun s=>bm n c s) n ((sa.1.set (xa2.at_).toNat (da.mk xa5.e0 true)),(sa.2.take (((bc .i64 (sa.2.length:Int) 1)).toNat)),true,ya10,0)).bind fun ta11 =>
      some (.inl (ta11.1,ta11.2))
    else
     (aT c.Steps xa2.at_).bind fun xa8 =>
     (iO n xa8).bind fun ya9 =>
     if (xa8.Op==7)=true then
      (dV n c xa2.at_).bind fun ya11 =>
      (iter (fun s=>bm n c s) n ((sa.1.set (xa2.at_).toNat (da.mk xa5.e0 true)),(sa.2.take (((bc .i64 (sa.2.length:Int) 1)).toNat)),false,ya11,0)).bind fun ta12 =>
      some (.inl (ta12.1,ta12.2))
     else
      (dV n c xa2.at_).bind fun ya11 =>
      (iter (fun s=>bm n c s) n ((sa.1.set (xa2.at_).toNat (da.mk xa5.e0 true)),(sa.2.take (((bc .i64 (sa.2.length:Int) 1)).toNat)),ya9,ya11,0)).bind fun ta12 =>
      some (.inl (ta12.1,ta12.2))
  else
   (aT sa.1 xa2.at_).bind fun xa5 =>
   if xa5.e0=true then
    some (.inl (sa.1,(sa.2.take (((bc .i64 (sa.2.length:Int) 1)).toNat))))
   else
    if xa2.open_=true then
     (aT c.Steps xa2.at_).bind fun xa8 =>
     if (xa8.Op==7)=true then
      (dV n c xa2.at_).bind fun ya10 =>
      (iter (fun s=>bm n c s) n ((sa.1.set (xa2.at_).toNat (da.mk true xa5.e1)),(sa.2.take (((bc .i64 (sa.2.length:Int) 1)).toNat)),false,ya10,0)).bind fun ta11 =>
      some (.inl (ta11.1,ta11.2))
     else
      (dV n c xa2.at_).bind fun ya10 =>
      (iter (fun s=>bm n c s) n ((sa.1.set (xa2.at_).toNat (da.mk true xa5.e1)),(sa.2.take (((bc .i64 (sa.2.length:Int) 1)).toNat)),true,ya10,0)).bind fun ta11 =>
      some (.inl (ta11.1,ta11.2))
    else
     (aT c.Steps xa2.at_).bind fun xa8 =>
     (iO n xa8).bind fun ya9 =>
     if (xa8.Op==7)=true then
      (dV n c xa2.at_).bind fun ya11 =>
      (iter (fun s=>bm n c s) n ((sa.1.set (xa2.at_).toNat (da.mk true xa5.e1)),(sa.2.take (((bc .i64 (sa.2.length:Int) 1)).toNat)),false,ya11,0)).bind fun ta12 =>
      some (.inl (ta12.1,ta12.2))
     else
      (dV n c xa2.at_).bind fun ya11 =>
      (iter (fun s=>bm n c s) n ((sa.1.set (xa2.at_).toNat (da.mk true xa5.e1)),(sa.2.take (((bc .i64 (sa.2.length:Int) 1)).toNat)),ya9,ya11,0)).bind fun ta12 =>
      some (.inl (ta12.1,ta12.2))
 else
  some (.inr sa.1)
def lJ (n:Nat) (c:ax):Option (List (da Bool)) :=
 grd (decide ((0:Int)≤(c.Steps.length:Int))&&decide ((c.Steps.length:Int)≤(c.Steps.length:Int))&&decide (2 * (c.Steps.length:Int)≤140737488355328)&&decide ((c.Steps.length:Int)≤140737488355328)&&Nat.blt 0 2) <|
 (iter (fun s=>hG n c s) n ((List.replicate ((c.Steps.length:Int)).toNat (da.mk false false)),([(ad.mk 0 false)]:List ad))).bind fun t2 =>
 some t2
def dq (n:Nat) (op:Int):Option Int :=
 if (decide (op<1))=true then
  some 0
 else
  if (decide (op>10))=true then
   some 0
  else
   if (op==0)=true then
    some 0
   else
    if (op==1)=true then
     some 17
    else
     if (op==2)=true then
      some 3
     else
      if (op==3)=true then
       some 39
      else
       if (op==4)=true then
        some 147
       else
        if (op==5)=true then
         some 150
        else
         if (op==6)=true then
          some 159
         else
          if (op==7)=true then
           some 0
          else
           if (op==8)=true then
            some 64
           else
            if (op==9)=true then
             some 66
            else
             if (op==10)=true then
              some 2
             else
              none
def cJ (n:Nat) (op:Int):Option Bool :=
 if (decide (op≥1))=true then
  some (decide (op≤10))
 else
  some false
def uc (n:Nat) (s_:ab) (regs:Int) (steps:Int):Option Bool :=
 (dq n s_.Op).bind fun y1 =>
 if (y1==0)=true then
  (cJ n s_.Op).bind fun y3 =>
  if y3=true then
   if (ab.beq s_ (ab.mk s_.Op 0 0 0 0 0 0 0 false))=true then
    some true
   else
    some false
  else
   some false
 else
  if (y1==2)=true then
   if (decide (s_.B<0))=true then
    some false
   else
    if (decide (s_.B≥regs))=true then
     some false
    else
     (cJ n s_.Op).bind fun y5 =>
     if y5=true then
      if (ab.beq s_ (ab.mk s_.Op 0 s_.B 0 0 0 0 0 false))=true then
       some true
      else
       some false
     else
      some false
  else
   if (y1==3)=true then
    if (decide (s_.A_<0))=true then
     some false
    else
     if (decide (s_.A_≥regs))=true then
      some false
     else
      if (decide (s_.B<0))=true then
       some false
      else
       if (decide (s_.B≥regs))=true then
        some false
       else
        (cJ n s_.Op).bind fun y7 =>
        if y7=true then
         if (ab.beq s_ (ab.mk s_.Op s_.A_ s_.B 0 0 0 0 0 false))=true then
          some true
         else
          some false
        else
         some false
   else
    if (y1==17)=true then
     if (decide (s_.A_<0))=true then
      some false
     else
      if (decide (s_.A_≥regs))=true then
       some false
      else
       (cJ n s_.Op).bind fun y5 =>
       if y5=true then
        if (ab.beq s_ (ab.mk s_.Op s_.A_ 0 0 0 s_.Imm 0 0 false))=true then
         some true
        else
         some false
       else
        some false
    else
     if (y1==39)=true then
      if (decide (s_.A_<0))=true then
       some false
      else
       if (decide (s_.A_≥regs))=true then
        some false
       else
        if (decide (s_.B<0))=true then
         some false
        else
         if (decide (s_.B≥regs))=true then
          some false
         else
          if (decide (s_.C_<0))=true then
           some false
          else
           if (decide (s_.C_≥regs))=true then
            some false
           else
            (cJ n s_.Op).bind fun y9 =>
            if y9=true then
             if (ab.beq s_ (ab.mk s_.Op s_.A_ s_.B s_.C_ 0 0 (iF (lI s_.Bin 1) 13) 0 false))=true then
              some true
             else
              some false
            else
             some false
     else
      if (y1==64)=true then
       (cJ n s_.Op).bind fun y3 =>
       if y3=true then
        if (ab.beq s_ (ab.mk s_.Op 0 0 0 0 0 0 (iF (lI s_.To 0) (bc .i64 steps 1)) false))=true then
         some true
        else
         some false
       else
        some false
      else
       if (y1==66)=true then
        if (decide (s_.B<0))=true then
         some false
        else
         if (decide (s_.B≥regs))=true then
          some false
         else
          (cJ n s_.Op).bind fun y5 =>
          if y5=true then
           if (ab.beq s_ (ab.mk s_.Op 0 s_.B 0 0 0 0 (iF (lI s_.To 0) (bc .i64 steps 1)) false))=true then
            some true
           else
            some false
          else
           some false
       else
        if (y1==147)=true then
         if (decide (s_.A_<0))=true then
          some false
         else
          if (decide (s_.A_≥regs))=true then
           some false
          else
           if (decide (s_.B<0))=true then
            some false
           else
            if (decide (s_.B≥regs))=true then
             some false
            else
             if s_.Shared=true then
              (cJ n s_.Op).bind fun y8 =>
              if y8=true then
               if (ab.beq s_ (ab.mk s_.Op s_.A_ s_.B 0 0 s_.Imm 0 0 true))=true then
                some true
               else
                some false
              else
               some false
             else
              (cJ n s_.Op).bind fun y8 =>
              if y8=true then
               if (ab.beq s_ (ab.mk s_.Op s_.A_ s_.B 0 0 s_.Imm 0 0 (s_.Op==6)))=true then
                some true
               else
                some false
              else
               some false
        else
         if (y1==150)=true then
          if (decide (s_.B<0))=true then
           some false
          else
           if (decide (s_.B≥regs))=true then
            some false
           else
            if (decide (s_.C_<0))=true then
             some false
            else
             if (decide (s_.C_≥regs))=true then
              some false
             else
              if s_.Shared=true then
               (cJ n s_.Op).bind fun y8 =>
               if y8=true then
                if (ab.beq s_ (ab.mk s_.Op 0 s_.B s_.C_ 0 s_.Imm 0 0 true))=true then
                 some true
                else
                 some false
               else
                some false
              else
               (cJ n s_.Op).bind fun y8 =>
               if y8=true then
                if (ab.beq s_ (ab.mk s_.Op 0 s_.B s_.C_ 0 s_.Imm 0 0 (s_.Op==6)))=true then
                 some true
                else
                 some false
               else
                some false
         else
          if (y1==159)=true then
           if (decide (s_.A_<0))=true then
            some false
           else
            if (decide (s_.A_≥regs))=true then
             some false
            else
             if (decide (s_.B<0))=true then
              some false
             else
              if (decide (s_.B≥regs))=true then
               some false
              else
               if (decide (s_.C_<0))=true then
                some false
               else
                if (decide (s_.C_≥regs))=true then
                 some false
                else
                 if (decide (s_.D<0))=true then
                  some false
                 else
                  if (decide (s_.D≥regs))=true then
                   some false
                  else
                   if s_.Shared=true then
                    (cJ n s_.Op).bind fun y12 =>
                    if y12=true then
                     if (ab.beq s_ (ab.mk s_.Op s_.A_ s_.B s_.C_ s_.D s_.Imm 0 0 true))=true then
                      some true
                     else
                      some false
                    else
                     some false
                   else
                    (cJ n s_.Op).bind fun y12 =>
                    if y12=true then
                     if (ab.beq s_ (ab.mk s_.Op s_.A_ s_.B s_.C_ s_.D s_.Imm 0 0 (s_.Op==6)))=true then
                      some true
                     else
                      some false
                    else
                     some false
          else
           none
def kQ (n:Nat) (s_:ab) (a:Int) (a_:(List ab)) (a_A:Int):Option Bool :=
 (uc n s_ a a_A).bind fun y1 =>
 some (!y1)
def bk (n:Nat) (s_:(List ab)) (f:Int) (f_:(List ab)) (f_A:Int) (sa:Int):Option (Int⊕(Unit⊕Int)) :=
 if (decide (sa<(s_.length:Int)))=true then
  (aT s_ sa).bind fun xa2 =>
  (kQ n xa2 f f_ f_A).bind fun ya3 =>
  if ya3=true then
   some (.inr (.inr sa))
  else
   some (.inl (ah .i64 sa 1))
 else
  some (.inr (.inl ()))
def bL (n:Nat) (s_:(List ab)) (f:Int) (f_:(List ab)) (f_A:Int):Option Int :=
 (iter (fun s=>bk n s_ f f_ f_A s) n 0).bind fun t1 =>
 match t1 with
 | .inl w2 =>
  some (-1)
 | .inr w2 =>
  some w2
def aI (n:Nat) (s_:(List ab)) (f:Int) (f_:(List ab)) (f_A:Int):Option Bool :=
 (bL n s_ f f_ f_A).bind fun y1 =>
 some (decide (y1≥0))
def qu (n:Nat) (n_:Int) (oA:(List (Option (List Int)))):Option (List Int) :=
 grd (decide ((0:Int)≤(iE .i64 (ah .i64 n_ 63) 64))&&decide ((iE .i64 (ah .i64 n_ 63) 64)≤(iE .i64 (ah .i64 n_ 63) 64))&&decide (8 * (iE .i64 (ah .i64 n_ 63) 64)≤140737488355328)&&decide ((iE .i64 (ah .i64 n_ 63) 64)≤140737488355328)&&Nat.blt 0 1) <|
 some (List.replicate ((iE .i64 (ah .i64 n_ 63) 64)).toNat (0:Int))
def zA (n:Nat) (oA:(List (Option (List Int)))) (oB:Nat) (oC:(List Int)):Option Unit :=
 grd (dN oC) <|
 grd (Nat.ble (oC.length * 8) 140737488355328) <|
 some ()
def l9 (n:Nat) (s_:ab):Option (Int×Bool) :=
 (dq n s_.Op).bind fun y1 =>
 if ((fZ .i64 y1 1)==0)=true then
  some (0,false)
 else
  some (s_.A_,true)
def F1 (n:Nat) (n_:Int) (oA:(List (Option (List Int)))) (oB:(List Int)):Option (List Int) :=
 (aT oB (iE .i64 n_ 64)).bind fun x1 =>
 grd (decide ((0:Int)≤(qt .i64 n_ 64))) <|
 some (oB.set ((iE .i64 n_ 64)).toNat (Hd .u64 x1 (Bd .u64 1 (qt .i64 n_ 64))))
def jC (n:Nat):Option Unit :=
 some ()
def lg (n:Nat):Option Unit :=
 (jC n).bind fun y1 =>
 some ()
def cmp_isNaN_int (n:Nat) (x:Int):Option Bool :=
 some (x != x)
def cmp_Less_int (n:Nat) (x:Int) (y:Int):Option Bool :=
 (cmp_isNaN_int n x).bind fun y1 =>
 if y1=true then
  (cmp_isNaN_int n y).bind fun y3 =>
  if (!y3)=true then
   some true
  else
   some (decide (x<y))
 else
  some (decide (x<y))
def cF (n:Nat) (oA:Int) (oB:Int):Option (Int×Int) :=
 (cmp_Less_int n oB oA).bind fun y1 =>
 if y1=true then
  some (oB,oA)
 else
  some (oA,oB)
def dG (n:Nat) (oA:Int) (oB:Int):Option (Int×Int) :=
 (cF n oA oB).bind fun y1 =>
 some (y1.1,y1.2)
def bz (n:Nat) (oA:Int) (oB:Int):Option (Int×Int) :=
 (lg n).bind fun y1 =>
 (dG n oA oB).bind fun y2 =>
 some (y2.1,y2.2)
def aD (n:Nat) (oA:Int) (oB:Int):Option (Int⊕Unit) :=
 if (oB==oA)=true then
  some (.inl 0)
 else
  some (.inr ())
def bT (n:Nat) (oA:Int) (oB:Int):Option Unit :=
 some ()
def bM (n:Nat) (oA:Int) (oB:Int):Option Unit :=
 some ()
def lK (n:Nat):Option Unit :=
 some ()
def nd (n:Nat):Option Unit :=
 (lK n).bind fun y1 =>
 some ()
def dW (n:Nat) (oA:Int):Option Unit :=
 some ()
def e9 (n:Nat) (oA:Int):Option Unit :=
 (dW n oA).bind fun y1 =>
 some ()
def aW (n:Nat) (oA:Int):Option Unit :=
 (nd n).bind fun y1 =>
 (e9 n oA).bind fun y2 =>
 some ()
def aN (n:Nat) (oA:Int):Option Unit :=
 some ()
def aX (n:Nat) (oA:Int):Option Unit :=
 some ()
def lL (n:Nat):Option Unit :=
 some ()
def ng (n:Nat):Option Unit :=
 (lL n).bind fun y1 =>
 some ()
def dX (n:Nat):Option Unit :=
 some ()
def e_ (n:Nat):Option Unit :=
 (dX n).bind fun y1 =>
 some ()
def aK (n:Nat):Option Unit :=
 (ng n).bind fun y1 =>
 (e_ n).bind fun y2 =>
 some ()
def ay (n:Nat):Option Unit :=
 some ()
def aL (n:Nat):Option Unit :=
 some ()
def gw (n:Nat) (c:ax) (at_:Int):Option (List Int) :=
 if (decide (at_<0))=true then
  some ([]:List Int)
 else
  if (decide (at_≥(c.Steps.length:Int)))=true then
   some ([]:List Int)
  else
   (aT c.Steps at_).bind fun x3 =>
   if (x3.Op != 8)=true then
    if (x3.Op != 10)=true then
     if (decide ((ah .i64 at_ 1)<(c.Steps.length:Int)))=true then
      (dq n x3.Op).bind fun y7 =>
      if ((fZ .i64 y7 64) != 0)=true then
       if (decide (x3.To≥0))=true then
        if (decide (x3.To<(c.Steps.length:Int)))=true then
         (bz n (ah .i64 at_ 1) x3.To).bind fun y11 =>
         (aD n y11.1 y11.2).bind fun y12 =>
         match y12 with
         | .inl wa13 =>
          (bT n y11.1 wa13).bind fun y14 =>
          some ([y11.1]:List Int)
         | .inr wb13 =>
          (bM n y11.1 y11.2).bind fun y14 =>
          some ([y11.1,y11.2]:List Int)
        else
         (aW n (ah .i64 at_ 1)).bind fun y11 =>
         (aN n (ah .i64 at_ 1)).bind fun y12 =>
         (aX n (ah .i64 at_ 1)).bind fun y13 =>
         some ([(ah .i64 at_ 1)]:List Int)
       else
        (aW n (ah .i64 at_ 1)).bind fun y10 =>
        (aN n (ah .i64 at_ 1)).bind fun y11 =>
        (aX n (ah .i64 at_ 1)).bind fun y12 =>
        some ([(ah .i64 at_ 1)]:List Int)
      else
       (aW n (ah .i64 at_ 1)).bind fun y9 =>
       (aN n (ah .i64 at_ 1)).bind fun y10 =>
       (aX n (ah .i64 at_ 1)).bind fun y11 =>
       some ([(ah .i64 at_ 1)]:List Int)
     else
      (dq n x3.Op).bind fun y7 =>
      if ((fZ .i64 y7 64) != 0)=true then
       if (decide (x3.To≥0))=true then
        if (decide (x3.To<(c.Steps.length:Int)))=true then
         (aW n x3.To).bind fun y11 =>
         (aN n x3.To).bind fun y12 =>
         (aX n x3.To).bind fun y13 =>
         some ([x3.To]:List Int)
        else
         (aK n).bind fun y11 =>
         (ay n).bind fun y12 =>
         (aL n).bind fun y13 =>
         some ([]:List Int)
       else
        (aK n).bind fun y10 =>
        (ay n).bind fun y11 =>
        (aL n).bind fun y12 =>
        some ([]:List Int)
      else
       (aK n).bind fun y9 =>
       (ay n).bind fun y10 =>
       (aL n).bind fun y11 =>
       some ([]:List Int)
    else
     (dq n x3.Op).bind fun y6 =>
     if ((fZ .i64 y6 64) != 0)=true then
      if (decide (x3.To≥0))=true then
       if (decide (x3.To<(c.Steps.length:Int)))=true then
        (aW n x3.To).bind fun y10 =>
        (aN n x3.To).bind fun y11 =>
        (aX n x3.To).bind fun y12 =>
        some ([x3.To]:List Int)
       else
        (aK n).bind fun y10 =>
        (ay n).bind fun y11 =>
        (aL n).bind fun y12 =>
        some ([]:List Int)
      else
       (aK n).bind fun y9 =>
       (ay n).bind fun y10 =>
       (aL n).bind fun y11 =>
       some ([]:List Int)
     else
      (aK n).bind fun y8 =>
      (ay n).bind fun y9 =>
      (aL n).bind fun y10 =>
      some ([]:List Int)
   else
    (dq n x3.Op).bind fun y5 =>
    if ((fZ .i64 y5 64) != 0)=true then
     if (decide (x3.To≥0))=true then
      if (decide (x3.To<(c.Steps.length:Int)))=true then
       (aW n x3.To).bind fun y9 =>
       (aN n x3.To).bind fun y10 =>
       (aX n x3.To).bind fun y11 =>
       some ([x3.To]:List Int)
      else
       (aK n).bind fun y9 =>
       (ay n).bind fun y10 =>
       (aL n).bind fun y11 =>
       some ([]:List Int)
     else
      (aK n).bind fun y8 =>
      (ay n).bind fun y9 =>
      (aL n).bind fun y10 =>
      some ([]:List Int)
    else
     (aK n).bind fun y7 =>
     (ay n).bind fun y8 =>
     (aL n).bind fun y9 =>
     some ([]:List Int)
def yo (n:Nat) (oA:(List (Option (List Int)))) (oB:(List Int)):Option Unit :=
 grd (dN oB) <|
 grd (Nat.ble (oB.length * 8) 140737488355328) <|
 some ()
def qv (n:Nat) (oA:(List (Option (List Int)))) (oB:Nat) (oC:(List Int)) (sa:(List Int)×Bool×Int):Option (((List Int)×Bool×Int)⊕((List Int)×Bool)) :=
 if (decide (sa.2.2<(oC.length:Int)))=true then
  (aT oC sa.2.2).bind fun xa2 =>
  if sa.2.1=true then
   (aT sa.1 sa.2.2).bind fun xa4 =>
   some (.inl ((sa.1.set (sa.2.2).toNat (fZ .u64 xa4 xa2)),true,(ah .i64 sa.2.2 1)))
  else
   (aT sa.1 sa.2.2).bind fun xa4 =>
   some (.inl ((sa.1.set (sa.2.2).toNat (fZ .u64 xa4 xa2)),((fZ .u64 xa4 xa2) != xa4),(ah .i64 sa.2.2 1)))
 else
  some (.inr (sa.1,sa.2.1))
def Er (n:Nat) (oA:(List (Option (List Int)))) (oB:Nat) (oC:(List Int)) (oD:(List Int)):Option (Bool×(List Int)) :=
 (iter (fun s=>qv n oA oB oC s) n (oD,false,0)).bind fun t1 =>
 some (t1.2,t1.1)
def dH (n:Nat) (oA:(List (Option (List Int)))) (oB:(List Int)) (oC:(List Int)):Option Unit :=
 grd (dN oC) <|
 grd (Nat.ble (oC.length * 8) 140737488355328) <|
 some ()
def eK (n:Nat) (oA:(List (Option (List Int)))) (oB:Nat) (oC:(List Int)) (oD:(List Int)) (sa:(List Int)×Bool×Int):Option (((List Int)×Bool×Int)⊕((List Int)×Bool)) :=
 if (decide (sa.2.2<(oD.length:Int)))=true then
  (aT oD sa.2.2).bind fun xa2 =>
  if sa.2.1=true then
   (aT sa.1 sa.2.2).bind fun xa4 =>
   some (.inl ((sa.1.set (sa.2.2).toNat (fZ .u64 xa4 xa2)),true,(ah .i64 sa.2.2 1)))
  else
   (aT sa.1 sa.2.2).bind fun xa4 =>
   some (.inl ((sa.1.set (sa.2.2).toNat (fZ .u64 xa4 xa2)),((fZ .u64 xa4 xa2) != xa4),(ah .i64 sa.2.2 1)))
 else
  some (.inr (sa.1,sa.2.1))
def gH (n:Nat) (oA:(List (Option (List Int)))) (oB:Nat) (oC:(List Int)) (oD:(List Int)) (oE:(List Int)):Option (Bool×(List Int)) :=
 (iter (fun s=>eK n oA oB oC oD s) n (oE,false,0)).bind fun t1 =>
 some (t1.2,t1.1)
def dI (n:Nat) (oA:(List (Option (List Int)))) (oB:Nat) (oC:(List Int)) (oD:(List Int)):Option Unit :=
 grd (dN oD) <|
 grd (Nat.ble (oD.length * 8) 140737488355328) <|
 some ()
def hH (n:Nat) (n_:Int) (oA:(List (Option (List Int)))) (oB:(List Int)) (oC:(List Int)):Option (List Int) :=
 (aT oC (iE .i64 n_ 64)).bind fun x1 =>
 grd (decide ((0:Int)≤(qt .i64 n_ 64))) <|
 some (oC.set ((iE .i64 n_ 64)).toNat (Hd .u64 x1 (Bd .u64 1 (qt .i64 n_ 64))))
def f0 (n:Nat):Option Unit :=
 some ()
def hU (n:Nat):Option Unit :=
 (f0 n).bind fun y1 =>
 some ()
def bN (n:Nat) (oA:Int) (oB:Int) (oC:Int):Option (Int×Int×Int) :=
 (cmp_Less_int n oB oA).bind fun y1 =>
 if y1=true then
  (cmp_Less_int n oC oA).bind fun y3 =>
  if y3=true then
   (cmp_Less_int n oC oB).bind fun y5 =>
   if y5=true then
    some (oC,oB,oA)
   else
    some (oB,oC,oA)
  else
   some (oB,oA,oC)
 else
  (cmp_Less_int n oC oB).bind fun y3 =>
  if y3=true then
   (cmp_Less_int n oC oA).bind fun y5 =>
   if y5=true then
    some (oC,oA,oB)
   else
    some (oA,oC,oB)
  else
   some (oA,oB,oC)
def cw (n:Nat) (oA:Int) (oB:Int) (oC:Int):Option (Int×Int×Int) :=
 (bN n oA oB oC).bind fun y1 =>
 some (y1.1,y1.2.1,y1.2.2)
def bD (n:Nat) (oA:Int) (oB:Int) (oC:Int):Option (Int×Int×Int) :=
 (hU n).bind fun y1 =>
 (cw n oA oB oC).bind fun y2 =>
 some (y2.1,y2.2.1,y2.2.2)
def bA (n:Nat) (oA:Int) (oB:Int) (oC:Int):Option ((Int×Int)⊕((Int×Int)⊕Unit)) :=
 if (oB==oA)=true then
  if (oC != oB)=true then
   some (.inl (oC,0))
  else
   some (.inr (.inl (0,0)))
 else
  if (oC==oB)=true then
   some (.inl (oB,0))
  else
   some (.inr (.inr ()))
def dJ (n:Nat) (oA:Int) (oB:Int) (oC:Int):Option Unit :=
 some ()
def dK (n:Nat) (oA:Int) (oB:Int) (oC:Int):Option Unit :=
 some ()
def dL (n:Nat) (oA:Int) (oB:Int) (oC:Int):Option Unit :=
 some ()
def iP (n:Nat) (s_:ab):Option (List Int) :=
 (dq n s_.Op).bind fun y1 =>
 if (y1==0)=true then
  (aK n).bind fun y3 =>
  (ay n).bind fun y4 =>
  (aL n).bind fun y5 =>
  some ([]:List Int)
 else
  if (y1==2)=true then
   (aW n s_.B).bind fun y3 =>
   (aN n s_.B).bind fun y4 =>
   (aX n s_.B).bind fun y5 =>
   some ([s_.B]:List Int)
  else
   if (y1==3)=true then
    (aW n s_.B).bind fun y3 =>
    (aN n s_.B).bind fun y4 =>
    (aX n s_.B).bind fun y5 =>
    some ([s_.B]:List Int)
   else
    if (y1==17)=true then
     (aK n).bind fun y3 =>
     (ay n).bind fun y4 =>
     (aL n).bind fun y5 =>
     some ([]:List Int)
    else
     if (y1==39)=true then
      (bz n s_.B s_.C_).bind fun y3 =>
      (aD n y3.1 y3.2).bind fun y4 =>
      match y4 with
      | .inl wa5 =>
       (bT n y3.1 wa5).bind fun y6 =>
       some ([y3.1]:List Int)
      | .inr wb5 =>
       (bM n y3.1 y3.2).bind fun y6 =>
       some ([y3.1,y3.2]:List Int)
     else
      if (y1==64)=true then
       (aK n).bind fun y3 =>
       (ay n).bind fun y4 =>
       (aL n).bind fun y5 =>
       some ([]:List Int)
      else
       if (y1==66)=true then
        (aW n s_.B).bind fun y3 =>
        (aN n s_.B).bind fun y4 =>
        (aX n s_.B).bind fun y5 =>
        some ([s_.B]:List Int)
       else
        if (y1==147)=true then
         (aW n s_.B).bind fun y3 =>
         (aN n s_.B).bind fun y4 =>
         (aX n s_.B).bind fun y5 =>
         some ([s_.B]:List Int)
        else
         if (y1==150)=true then
          (bz n s_.B s_.C_).bind fun y3 =>
          (aD n y3.1 y3.2).bind fun y4 =>
          match y4 with
          | .inl wa5 =>
           (bT n y3.1 wa5).bind fun y6 =>
           some ([y3.1]:List Int)
          | .inr wb5 =>
           (bM n y3.1 y3.2).bind fun y6 =>
           some ([y3.1,y3.2]:List Int)
         else
          if (y1==159)=true then
           (bD n s_.B s_.C_ s_.D).bind fun y3 =>
           (bA n y3.1 y3.2.1 y3.2.2).bind fun y4 =>
           match y4 with
           | .inl wa5 =>
            (dJ n y3.1 wa5.1 wa5.2).bind fun y6 =>
            some ([y3.1,wa5.1]:List Int)
           | .inr (.inl wb5) =>
            (dK n y3.1 wb5.1 wb5.2).bind fun y6 =>
            some ([y3.1]:List Int)
           | .inr (.inr wc5) =>
            (dL n y3.1 y3.2.1 y3.2.2).bind fun y6 =>
            some ([y3.1,y3.2.1,y3.2.2]:List Int)
          else
           none
def kR (n:Nat) (s_:(List Int)) (n_:Int):Option Bool :=
 (aT s_ (iE .i64 n_ 64)).bind fun x1 =>
 grd (decide ((0:Int)≤(qt .i64 n_ 64))) <|
 some ((fZ .u64 (Ep .u64 x1 (qt .i64 n_ 64)) 1)==1)
def fa (n:Nat) (r_:Int) (oA:(List (Option (List Int)))) (oB:Nat) (oC:Int) (oD:(List Int)):Option Bool :=
 (aT oA oC).bind fun x1 =>
 grd (Nat.beq ((oC).toNat) oB&&Nat.blt oB oA.length) <|
 (kR n oD r_).bind fun y3 =>
 some (!y3)
def cm (n:Nat) (s_:(List Int)) (oA:(List (Option (List Int)))) (oB:Nat) (oC:Int) (oD:(List Int)) (sa:Int):Option (Int⊕(Unit⊕Int)) :=
 if (decide (sa<(s_.length:Int)))=true then
  (aT s_ sa).bind fun xa2 =>
  (fa n xa2 oA oB oC oD).bind fun ya3 =>
  if ya3=true then
   some (.inr (.inr sa))
  else
   some (.inl (ah .i64 sa 1))
 else
  some (.inr (.inl ()))
def dY (n:Nat) (s_:(List Int)) (oA:(List (Option (List Int)))) (oB:Nat) (oC:Int) (oD:(List Int)):Option Int :=
 (iter (fun s=>cm n s_ oA oB oC oD s) n 0).bind fun t1 =>
 match t1 with
 | .inl w2 =>
  some (-1)
 | .inr w2 =>
  some w2
def cn (n:Nat) (s_:(List Int)) (oA:(List (Option (List Int)))) (oB:Nat) (oC:Int) (oD:(List Int)):Option Bool :=
 (dY n s_ oA oB oC oD).bind fun y1 =>
 some (decide (y1≥0))
def dh (n:Nat) (c:ax) (sb:(List (Option (List Int)))×(List Int)×(List Int)×(List Int)×Int×Int):Option (((List (Option (List Int)))×(List Int)×(List Int)×(List Int)×Int×Int)⊕((List (Option (List Int)))×(List Int))) :=
 if (decide (sb.2.2.2.2.2<sb.2.2.2.2.1))=true then
  (aT sb.2.2.2.1 sb.2.2.2.2.2).bind fun xb2 =>
  (aT sb.1 xb2).bind fun xb3 =>
  matchO xb3 (
   (dH n sb.1 sb.2.1 sb.2.2.1).bind fun yb5 =>
   grd (Nat.ble ((sb.2.1.length + 1) * 8) 140737488355328) <|
   some (.inl ((sb.1.set (xb2).toNat (some sb.2.2.1)),(sb.2.1++([xb2]:List Int)),sb.2.2.1,sb.2.2.2.1,sb.2.2.2.2.1,(ah .i64 sb.2.2.2.2.2 1)))) fun zb4 =>
   grd (dN zb4) <|
   (gH n sb.1 ((xb2).toNat) sb.2.1 sb.2.2.1 zb4).bind fun yb7 =>
   if (!yb7.1)=true then
    some (.inl ((sb.1.set (xb2).toNat (some yb7.2)),sb.2.1,sb.2.2.1,sb.2.2.2.1,sb.2.2.2.2.1,(ah .i64 sb.2.2.2.2.2 1)))
   else
    grd (Nat.ble ((sb.2.1.length + 1) * 8) 140737488355328) <|
    some (.inl ((sb.1.set (xb2).toNat (some yb7.2)),(sb.2.1++([xb2]:List Int)),sb.2.2.1,sb.2.2.2.1,sb.2.2.2.2.1,(ah .i64 sb.2.2.2.2.2 1)))
 else
  some (.inr (sb.1,sb.2.1))
def fN (n:Nat) (c:ax) (sa:(List (Option (List Int)))×(List Int)):Option (((List (Option (List Int)))×(List Int))⊕((List (Option (List Int))))) :=
 if (decide ((sa.2.length:Int)>0))=true then
  (aT sa.2 (bc .i64 (sa.2.length:Int) 1)).bind fun xa2 =>
  grd (decide ((0:Int)≤(bc .i64 (sa.2.length:Int) 1))&&decide ((bc .i64 (sa.2.length:Int) 1)≤(sa.2.length:Int))) <|
  (aT sa.1 xa2).bind fun xa4 =>
  matchO xa4 (
   none) fun za5 =>
   (dI n sa.1 ((xa2).toNat) (sa.2.take (((bc .i64 (sa.2.length:Int) 1)).toNat)) za5).bind fun ya7 =>
   (aT c.Steps xa2).bind fun xa8 =>
   (l9 n xa8).bind fun ya9 =>
   if ya9.2=true then
    (hH n ya9.1 (sa.1.set (xa2).toNat (some za5)) (sa.2.take (((bc .i64 (sa.2.length:Int) 1)).toNat)) za5).bind fun ya11 =>
    (gw n c xa2).bind fun ya12 =>
    (iter (fun s=>dh n c s) n ((sa.1.set (xa2).toNat (some za5)),(sa.2.take (((bc .i64 (sa.2.length:Int) 1)).toNat)),ya11,ya12,(ya12.length:Int),0)).bind fun ta13 =>
    some (.inl (ta13.1,ta13.2))
   else
    (gw n c xa2).bind fun ya11 =>
    (iter (fun s=>dh n c s) n ((sa.1.set (xa2).toNat (some za5)),(sa.2.take (((bc .i64 (sa.2.length:Int) 1)).toNat)),za5,ya11,(ya11.length:Int),0)).bind fun ta12 =>
    some (.inl (ta12.1,ta12.2))
 else
  some (.inr sa.1)
def fO (n:Nat) (c:ax) (sa:(List (Option (List Int)))×Int):Option (((List (Option (List Int)))×Int)⊕(Unit⊕Unit)) :=
 if (decide (sa.2<(c.Steps.length:Int)))=true then
  (aT c.Steps sa.2).bind fun xa2 =>
  (aT sa.1 sa.2).bind fun xa3 =>
  matchO xa3 (
   some (.inl (sa.1,(ah .i64 sa.2 1)))) fun za4 =>
   grd (dN za4) <|
   (iP n xa2).bind fun ya7 =>
   (cn n ya7 sa.1 ((sa.2).toNat) sa.2 za4).bind fun ya8 =>
   if ya8=true then
    some (.inr (.inr ()))
   else
    some (.inl ((sa.1.set (sa.2).toNat (some za4)),(ah .i64 sa.2 1)))
 else
  some (.inr (.inl ()))
def gR (n:Nat) (c:ax):Option Bool :=
 grd (decide ((0:Int)≤(c.Steps.length:Int))&&decide ((c.Steps.length:Int)≤(c.Steps.length:Int))&&decide (24 * (c.Steps.length:Int)≤140737488355328)&&decide ((c.Steps.length:Int)≤140737488355328)&&Nat.blt 0 1) <|
 (qu n c.Regs (List.replicate ((c.Steps.length:Int)).toNat (none:Option (List Int)))).bind fun y2 =>
 (aT (List.replicate ((c.Steps.length:Int)).toNat (none:Option (List Int))) 0).bind fun x3 =>
 (iter (fun s=>fN n c s) n (((List.replicate ((c.Steps.length:Int)).toNat (none:Option (List Int))).set 0 (some y2)),([0]:List Int))).bind fun t4 =>
 (iter (fun s=>fO n c s) n (t4,0)).bind fun t5 =>
 match t5 with
 | .inl w6 =>
  some true
 | .inr w6 =>
  some false
def iQ (n:Nat) (c:ax):Option Int :=
 if (decide (c.Regs<0))=true then
  some 2
 else
  if (decide (c.Regs>1024))=true then
   some 2
  else
   if (decide ((c.Steps.length:Int)<1))=true then
    some 2
   else
    if (decide ((c.Steps.length:Int)>4096))=true then
     some 2
    else
     (aT c.Steps (bc .i64 (c.Steps.length:Int) 1)).bind fun x5 =>
     if (x5.Op != 8)=true then
      if (x5.Op != 10)=true then
       some 2
      else
       (aI n c.Steps c.Regs c.Steps (c.Steps.length:Int)).bind fun y8 =>
       if y8=true then
        some 2
       else
        if (decide (c.Regs>0))=true then
         (gR n c).bind fun y11 =>
         if (!y11)=true then
          some 2
         else
          some 0
        else
         some 0
     else
      (aI n c.Steps c.Regs c.Steps (c.Steps.length:Int)).bind fun y7 =>
      if y7=true then
       some 2
      else
       if (decide (c.Regs>0))=true then
        (gR n c).bind fun y10 =>
        if (!y10)=true then
         some 2
        else
         some 0
       else
        some 0
def iR (n:Nat) (s_:ab):Option Bool :=
 if (s_.Op==6)=true then
  some true
 else
  if s_.Shared=true then
   (dq n s_.Op).bind fun y3 =>
   some ((fZ .i64 y3 128) != 0)
  else
   some false
def eL (n:Nat) (s_:Int) (x:ab):Option Int :=
 (iR n x).bind fun y1 =>
 if y1=true then
  some 2
 else
  if (x.Op==7)=true then
   some 1
  else
   some s_
def Be (n:Nat) (s_:Nat) (o:Int) (oA:(List Int)):Option (Bool×(List Int)) :=
 (aT oA ((s_:Nat):Int)).bind fun x1 =>
 if (decide (o≤x1))=true then
  some (false,oA)
 else
  some (true,(oA.set s_ o))
def eD (n:Nat) (s_:Nat) (o:Int) (oA:(List Int)) (oB:(List Int)):Option (Bool×(List Int)) :=
 (aT oA ((s_:Nat):Int)).bind fun x1 =>
 if (decide (o≤x1))=true then
  some (false,oA)
 else
  some (true,(oA.set s_ o))
def fb (n:Nat) (c:ax) (sb:(List Int)×(List Int)×(List Int)×Int×Int×Int):Option (((List Int)×(List Int)×(List Int)×Int×Int×Int)⊕((List Int)×(List Int))) :=
 if (decide (sb.2.2.2.2.1<sb.2.2.2.1))=true then
  (aT sb.2.2.1 sb.2.2.2.2.1).bind fun xb2 =>
  (aT sb.1 xb2).bind fun xb3 =>
  (eD n ((xb2).toNat) sb.2.2.2.2.2 sb.1 sb.2.1).bind fun yb4 =>
  if yb4.1=true then
   grd (Nat.ble ((sb.2.1.length + 1) * 8) 140737488355328) <|
   some (.inl (yb4.2,(sb.2.1++([xb2]:List Int)),sb.2.2.1,sb.2.2.2.1,(ah .i64 sb.2.2.2.2.1 1),sb.2.2.2.2.2))
  else
   some (.inl (yb4.2,sb.2.1,sb.2.2.1,sb.2.2.2.1,(ah .i64 sb.2.2.2.2.1 1),sb.2.2.2.2.2))
 else
  some (.inr (sb.1,sb.2.1))
def fc (n:Nat) (c:ax) (sa:(List Int)×(List Int)):Option (((List Int)×(List Int))⊕((List Int))) :=
 if (decide ((sa.2.length:Int)>0))=true then
  (aT sa.2 (bc .i64 (sa.2.length:Int) 1)).bind fun xa2 =>
  grd (decide ((0:Int)≤(bc .i64 (sa.2.length:Int) 1))&&decide ((bc .i64 (sa.2.length:Int) 1)≤(sa.2.length:Int))) <|
  (aT sa.1 xa2).bind fun xa4 =>
  (aT c.Steps xa2).bind fun xa5 =>
  (eL n xa4 xa5).bind fun ya6 =>
  (gw n c xa2).bind fun ya7 =>
  (iter (fun s=>fb n c s) n (sa.1,(sa.2.take (((bc .i64 (sa.2.length:Int) 1)).toNat)),ya7,(ya7.length:Int),0,ya6)).bind fun ta8 =>
  some (.inl (ta8.1,ta8.2))
 else
  some (.inr sa.1)
def f3 (n:Nat) (c:ax):Option (List Int) :=
 grd (decide ((0:Int)≤(c.Steps.length:Int))&&decide ((c.Steps.length:Int)≤(c.Steps.length:Int))&&decide (8 * (c.Steps.length:Int)≤140737488355328)&&decide ((c.Steps.length:Int)≤140737488355328)&&Nat.blt 0 1) <|
 (aT (List.replicate ((c.Steps.length:Int)).toNat (0:Int)) 0).bind fun x2 =>
 (iter (fun s=>fc n c s) n (((List.replicate ((c.Steps.length:Int)).toNat (0:Int)).set 0 1),([0]:List Int))).bind fun t3 =>
 some t3
def jf (n:Nat) (y4:(List Int)) (sa:(List Bool)×Int):Option (((List Bool)×Int)⊕((List Bool))) :=
 if (decide (sa.2<(y4.length:Int)))=true then
  (aT y4 sa.2).bind fun xa2 =>
  (aT sa.1 sa.2).bind fun xa3 =>
  some (.inl ((sa.1.set (sa.2).toNat (xa2==2)),(ah .i64 sa.2 1)))
 else
  some (.inr sa.1)
def l_ (n:Nat) (c:ax):Option (List Bool) :=
 (iQ n c).bind fun y1 =>
 if (y1 != 0)=true then
  some ([]:List Bool)
 else
  grd (decide ((0:Int)≤(c.Steps.length:Int))&&decide ((c.Steps.length:Int)≤(c.Steps.length:Int))&&decide (1 * (c.Steps.length:Int)≤140737488355328)&&decide ((c.Steps.length:Int)≤140737488355328)&&Nat.blt 0 1) <|
  (f3 n c).bind fun y4 =>
  (iter (fun s=>jf n y4 s) n ((List.replicate ((c.Steps.length:Int)).toNat false),0)).bind fun t5 =>
  some t5
def gx (n:Nat) (s_:ab):Option Bool :=
 some (s_.Op==7)
def j8 (n:Nat) (i:Int) (oA:Int) (oB:(List ab)) (oC:(List Int)):Option Bool :=
 (aT oB i).bind fun x1 =>
 (gx n x1).bind fun y2 =>
 some y2
def bY (n:Nat) (s_:(List ab)) (oA:Int) (oB:(List ab)) (oC:(List Int)) (oD:Int):Option Unit :=
 grd (dN s_) <|
 grd (Nat.ble (s_.length * 72) 140737488355328) <|
 some ()
def jD (n:Nat) (i:Int) (oA:Int) (oB:(List ab)) (oC:(List Int)) (oD:Int) (oE:(List ab)):Option Bool :=
 (aT oB i).bind fun x1 =>
 (gx n x1).bind fun y2 =>
 some y2
def dr (n:Nat) (a:ab) (oA:Int) (oB:(List ab)) (oC:(List Int)) (oD:Int) (oE:(List ab)):Option (Bool×Int) :=
 (jD n (ah .i64 oD 1) oA oB oC (ah .i64 oD 1) oE).bind fun y1 =>
 some (y1,(ah .i64 oD 1))
def bd (n:Nat) (oA:Int) (oB:(List ab)) (oC:(List Int)) (oE:(List ab)) (sa:Int×Int):Option ((Int×Int)⊕(Int⊕(Int×Int))) :=
 if (decide (sa.2<(oE.length:Int)))=true then
  (aT oE sa.2).bind fun xa2 =>
  (dr n xa2 oA oB oC sa.1 oE).bind fun ya3 =>
  if ya3.1=true then
   some (.inr (.inr (ya3.2,sa.2)))
  else
   some (.inl (ya3.2,(ah .i64 sa.2 1)))
 else
  some (.inr (.inl sa.1))
def bp (n:Nat) (oA:Int) (oB:(List ab)) (oC:(List Int)) (oD:Int) (oE:(List ab)):Option (Int×Int) :=
 (iter (fun s=>bd n oA oB oC oE s) n (oD,0)).bind fun t1 =>
 match t1 with
 | .inl w2 =>
  some ((-1),w2)
 | .inr w2 =>
  some (w2.2,w2.1)
def aQ (n:Nat) (oA:Int) (oB:(List ab)) (oC:(List Int)) (sa:(List ab)×Int×Int×Int):Option (((List ab)×Int×Int×Int)⊕((List ab)×Int×Int)) :=
 if (decide (sa.2.2.2<(sa.1.length:Int)))=true then
  (aT sa.1 sa.2.2.2).bind fun xa2 =>
  (dr n xa2 oA oB oC sa.2.1 sa.1).bind fun ya3 =>
  if (!ya3.1)=true then
   (aT sa.1 sa.2.2.1).bind fun xa5 =>
   some (.inl ((sa.1.set (sa.2.2.1).toNat xa2),ya3.2,(ah .i64 sa.2.2.1 1),(ah .i64 sa.2.2.2 1)))
  else
   some (.inl (sa.1,ya3.2,sa.2.2.1,(ah .i64 sa.2.2.2 1)))
 else
  some (.inr (sa.1,sa.2.1,sa.2.2.1))
def bq (n:Nat) (oA:Int) (oB:(List ab)) (oC:(List Int)) (oD:Int) (oE:(List ab)):Option (Int⊕(Nat×Nat×Int×(List ab))) :=
 (bp n oA oB oC oD oE).bind fun y1 =>
 if (y1.1==(-1))=true then
  some (.inl y1.2)
 else
  (iter (fun s=>aQ n oA oB oC s) n (oE,y1.2,y1.1,(ah .i64 y1.1 1))).bind fun t3 =>
  grd (decide ((0:Int)≤t3.2.2)&&decide (t3.2.2≤(t3.1.length:Int))) <|
  grd (Nat.ble (((t3.2.2).toNat) + (t3.1.length - (t3.2.2).toNat)) t3.1.length) <|
  grd (decide ((0:Int)≤t3.2.2)&&decide (t3.2.2≤((t3.1.take ((t3.2.2).toNat)++(List.replicate (t3.1.length - (t3.2.2).toNat) (ab.mk 0 0 0 0 0 0 0 0 false)++t3.1.drop (((t3.2.2).toNat) + (t3.1.length - (t3.2.2).toNat)))).length:Int))) <|
  some (.inr ((t3.2.2).toNat,((t3.1.take ((t3.2.2).toNat)++(List.replicate (t3.1.length - (t3.2.2).toNat) (ab.mk 0 0 0 0 0 0 0 0 false)++t3.1.drop (((t3.2.2).toNat) + (t3.1.length - (t3.2.2).toNat)))).length - (t3.2.2).toNat),t3.2.1,(t3.1.take ((t3.2.2).toNat)++(List.replicate (t3.1.length - (t3.2.2).toNat) (ab.mk 0 0 0 0 0 0 0 0 false)++t3.1.drop (((t3.2.2).toNat) + (t3.1.length - (t3.2.2).toNat))))))
def b8 (n:Nat) (oA:Int) (oB:(List ab)) (oC:(List Int)) (oD:Int) (oE:(List ab)):Option (Nat×Nat) :=
 grd ((decide ((0:Int)≤(oE.length:Int))&&decide ((oE.length:Int)≤(oE.length:Int))&&decide ((oE.length:Int)≤(oE.length:Int)))&&!((oE.length:Int)==0)) <|
 some (((oE.length:Int)).toNat,0)
def eE (n:Nat) (oA:Int) (oB:(List ab)) (oC:(List Int)) (oD:Int) (oE:(List ab)) (sa:(List ab)×Int):Option (((List ab)×Int)⊕((List ab))) :=
 if (decide (sa.2<(oE.length:Int)))=true then
  (aT sa.1 sa.2).bind fun xa2 =>
  if (xa2.Op==8)=true then
   (aT oC xa2.To).bind fun xa4 =>
   some (.inl ((sa.1.set (sa.2).toNat (ab.mk xa2.Op xa2.A_ xa2.B xa2.C_ xa2.D xa2.Imm xa2.Bin xa4 xa2.Shared)),(ah .i64 sa.2 1)))
  else
   if (xa2.Op==9)=true then
    (aT oC xa2.To).bind fun xa5 =>
    some (.inl ((sa.1.set (sa.2).toNat (ab.mk xa2.Op xa2.A_ xa2.B xa2.C_ xa2.D xa2.Imm xa2.Bin xa5 xa2.Shared)),(ah .i64 sa.2 1)))
   else
    some (.inl (sa.1,(ah .i64 sa.2 1)))
 else
  some (.inr sa.1)
def fp (n:Nat) (oA:Int) (oB:(List ab)) (oC:(List Int)) (oD:Int) (oE:(List ab)):Option (Nat×Nat×(List ab)) :=
 (iter (fun s=>eE n oA oB oC oD oE s) n (oE,0)).bind fun t1 =>
 (b8 n oA oB oC oD t1).bind fun y2 =>
 some (y2.1,y2.2,t1)
def dZ (n:Nat) (c:ax) (oA:Int) (oB:(List ab)) (sa:(List Int)×Int×Int):Option (((List Int)×Int×Int)⊕((List Int))) :=
 if (decide (sa.2.1<(c.Steps.length:Int)))=true then
  (aT sa.1 sa.2.1).bind fun xa2 =>
  (j8 n sa.2.1 oA oB (sa.1.set (sa.2.1).toNat sa.2.2)).bind fun ya3 =>
  if (!ya3)=true then
   some (.inl ((sa.1.set (sa.2.1).toNat sa.2.2),(ah .i64 sa.2.1 1),(ah .i64 sa.2.2 1)))
  else
   some (.inl ((sa.1.set (sa.2.1).toNat sa.2.2),(ah .i64 sa.2.1 1),sa.2.2))
 else
  some (.inr sa.1)
def jE (n:Nat) (c:ax) (oA:Int) (oB:(List ab)):Option (Int×Nat×Nat×(List Int)×Int×(List ab)) :=
 grd (decide ((0:Int)≤(c.Steps.length:Int))&&decide ((c.Steps.length:Int)≤(c.Steps.length:Int))&&decide (8 * (c.Steps.length:Int)≤140737488355328)&&decide ((c.Steps.length:Int)≤140737488355328)&&Nat.blt 0 1) <|
 (iter (fun s=>dZ n c oA oB s) n ((List.replicate ((c.Steps.length:Int)).toNat (0:Int)),0,0)).bind fun t2 =>
 (bY n c.Steps oA oB t2 (-1)).bind fun y3 =>
 (bq n oA oB t2 (-1) c.Steps).bind fun y4 =>
 match y4 with
 | .inl wa5 =>
  (fp n oA oB t2 wa5 c.Steps).bind fun y6 =>
  some (c.Regs,y6.1,y6.2.1,t2,wa5,y6.2.2)
 | .inr wb5 =>
  (fp n oA oB t2 wb5.2.2.1 (wb5.2.2.2.take wb5.1)).bind fun y6 =>
  some (c.Regs,y6.1,y6.2.1,t2,wb5.2.2.1,y6.2.2)
def ma (n:Nat) (c:ax):Option (ax×Int) :=
 (iQ n c).bind fun y1 =>
 if (y1 != 0)=true then
  some ((ax.mk 0 ([]:List ab)),y1)
 else
  (jE n c c.Regs c.Steps).bind fun y3 =>
  some ((ax.mk y3.1 ((y3.2.2.2.2.2.drop 0).take y3.2.1)),0)
def di (n:Nat) (oA:(List ab)) (oB:(List Int)):Option (Nat×Nat) :=
 grd ((decide ((0:Int)≤(oA.length:Int))&&decide ((oA.length:Int)≤(oA.length:Int))&&decide ((oA.length:Int)≤(oA.length:Int)))&&!((oA.length:Int)==0)) <|
 some (((oA.length:Int)).toNat,0)
def hZ (n:Nat) (oA:(List ab)) (oB:(List Int)) (sa:(List ab)×Int):Option (((List ab)×Int)⊕((List ab))) :=
 if (decide (sa.2<(oA.length:Int)))=true then
  (aT sa.1 sa.2).bind fun xa2 =>
  if (xa2.Op==8)=true then
   (aT oB xa2.To).bind fun xa4 =>
   some (.inl ((sa.1.set (sa.2).toNat (ab.mk xa2.Op xa2.A_ xa2.B xa2.C_ xa2.D xa2.Imm xa2.Bin xa4 xa2.Shared)),(ah .i64 sa.2 1)))
  else
   if (xa2.Op==9)=true then
    (aT oB xa2.To).bind fun xa5 =>
    some (.inl ((sa.1.set (sa.2).toNat (ab.mk xa2.Op xa2.A_ xa2.B xa2.C_ xa2.D xa2.Imm xa2.Bin xa5 xa2.Shared)),(ah .i64 sa.2 1)))
   else
    some (.inl (sa.1,(ah .i64 sa.2 1)))
 else
  some (.inr sa.1)
def j9 (n:Nat) (oA:(List ab)) (oB:(List Int)):Option (Nat×Nat×(List ab)) :=
 (iter (fun s=>hZ n oA oB s) n (oA,0)).bind fun t1 =>
 (di n t1 oB).bind fun y2 =>
 some (y2.1,y2.2,t1)
def h_ (n:Nat) (y1:ax×Int) (y3:(List Int)) (sa:(List ab)×(List Int)×Int):Option (((List ab)×(List Int)×Int)⊕((List ab)×(List Int))) :=
 if (decide (sa.2.2<(y3.length:Int)))=true then
  (aT y3 sa.2.2).bind fun xa2 =>
  grd (Nat.ble ((sa.2.1.length + 1) * 8) 140737488355328) <|
  if (xa2==2)=true then
   (aT y1.1.Steps sa.2.2).bind fun xa5 =>
   (iR n xa5).bind fun ya6 =>
   if ya6=true then
    grd (Nat.ble ((sa.1.length + 1) * 72) 140737488355328) <|
    grd (Nat.ble (((sa.1++([(ab.mk 7 0 0 0 0 0 0 0 false)]:List ab)).length + 1) * 72) 140737488355328) <|
    some (.inl (((sa.1++([(ab.mk 7 0 0 0 0 0 0 0 false)]:List ab))++([xa5]:List ab)),(sa.2.1++([(sa.1.length:Int)]:List Int)),(ah .i64 sa.2.2 1)))
   else
    grd (Nat.ble ((sa.1.length + 1) * 72) 140737488355328) <|
    some (.inl ((sa.1++([xa5]:List ab)),(sa.2.1++([(sa.1.length:Int)]:List Int)),(ah .i64 sa.2.2 1)))
  else
   (aT y1.1.Steps sa.2.2).bind fun xa5 =>
   grd (Nat.ble ((sa.1.length + 1) * 72) 140737488355328) <|
   some (.inl ((sa.1++([xa5]:List ab)),(sa.2.1++([(sa.1.length:Int)]:List Int)),(ah .i64 sa.2.2 1)))
 else
  some (.inr (sa.1,sa.2.1))
def oq (n:Nat) (c:ax):Option (ax×Int) :=
 (ma n c).bind fun y1 =>
 if (y1.2 != 0)=true then
  some ((ax.mk 0 ([]:List ab)),y1.2)
 else
  (f3 n y1.1).bind fun y3 =>
  (iter (fun s=>h_ n y1 y3 s) n (([]:List ab),([]:List Int),0)).bind fun t4 =>
  if (decide ((t4.1.length:Int)>4096))=true then
   some ((ax.mk 0 ([]:List ab)),3)
  else
   (j9 n t4.1 t4.2).bind fun y6 =>
   some ((ax.mk y1.1.Regs ((y6.2.2.drop 0).take y6.1)),0)
def jg (n:Nat) (c:ax) (y1:(List (da Bool))) (sa:Int):Option (Int⊕(Unit⊕Unit)) :=
 if (decide (sa<(y1.length:Int)))=true then
  (aT y1 sa).bind fun xa2 =>
  if xa2.e1=true then
   (aT c.Steps sa).bind fun xa4 =>
   (iO n xa4).bind fun ya5 =>
   if ya5=true then
    some (.inr (.inr ()))
   else
    some (.inl (ah .i64 sa 1))
  else
   some (.inl (ah .i64 sa 1))
 else
  some (.inr (.inl ()))
def eM (n:Nat) (c:ax):Option Bool :=
 (lJ n c).bind fun y1 =>
 (iter (fun s=>jg n c y1 s) n 0).bind fun t2 =>
 match t2 with
 | .inl w3 =>
  some true
 | .inr w3 =>
  some false
def ia (n:Nat) (l:(List ab)):Option Unit :=
 grd (Nat.ble (l.length * 72) 140737488355328) <|
 some ()
def mb (n:Nat) (c:ax):Option (Int×(List ab)) :=
 (ia n c.Steps).bind fun y1 =>
 some (c.Regs,c.Steps)
def jR (n:Nat) (c:ax) (sa:Int):Option (Int⊕(Unit⊕Unit)) :=
 if (decide (sa<(c.Steps.length:Int)))=true then
  (aT c.Steps sa).bind fun xa2 =>
  if (xa2.Op != 7)=true then
   some (.inl (ah .i64 sa 1))
  else
   (mb n c).bind fun ya4 =>
   (aT ya4.2 sa).bind fun xa5 =>
   (eM n (ax.mk ya4.1 (ya4.2.set (sa).toNat (ab.mk 8 0 0 0 0 0 0 (iF (ah .i64 sa 1) (bc .i64 (c.Steps.length:Int) 1)) false)))).bind fun ya6 =>
   if ya6=true then
    some (.inr (.inr ()))
   else
    some (.inl (ah .i64 sa 1))
 else
  some (.inr (.inl ()))
def lM (n:Nat) (c:ax):Option Bool :=
 (iter (fun s=>jR n c s) n 0).bind fun t1 =>
 match t1 with
 | .inl w2 =>
  some true
 | .inr w2 =>
  some false
def gI (n:Nat) (c:ax) (y1:(List Int)) (sa:Int):Option (Int⊕(Unit⊕Unit)) :=
 if (decide (sa<(y1.length:Int)))=true then
  (aT y1 sa).bind fun xa2 =>
  if (xa2==2)=true then
   (aT c.Steps sa).bind fun xa4 =>
   (iR n xa4).bind fun ya5 =>
   if ya5=true then
    some (.inr (.inr ()))
   else
    some (.inl (ah .i64 sa 1))
  else
   some (.inl (ah .i64 sa 1))
 else
  some (.inr (.inl ()))
def f4 (n:Nat) (c:ax):Option Bool :=
 (f3 n c).bind fun y1 =>
 (iter (fun s=>gI n c y1 s) n 0).bind fun t2 =>
 match t2 with
 | .inl w3 =>
  some true
 | .inr w3 =>
  some false
def ib (n:Nat) (c:ax):Option Bool :=
 (iQ n c).bind fun y1 =>
 if (y1==0)=true then
  (f4 n c).bind fun y3 =>
  some y3
 else
  some false
def bW (n:Nat) (s_:(List ab)):Option Unit :=
 grd (dN s_) <|
 grd (Nat.ble (s_.length * 72) 140737488355328) <|
 some ()
def jF (n:Nat) (k:Int) (oA:Int) (oB:(List Int)):Option Bool :=
 some (k==oA)
def bX (n:Nat) (s_:(List ab)) (oA:Int) (oB:(List Int)) (oC:Int):Option Unit :=
 grd (dN s_) <|
 grd (Nat.ble (s_.length * 72) 140737488355328) <|
 some ()
def iS (n:Nat) (k:Int) (oA:Int) (oB:(List Int)) (oC:Int) (oD:(List ab)):Option Bool :=
 some (k==oA)
def cW (n:Nat) (a:ab) (oA:Int) (oB:(List Int)) (oC:Int) (oD:(List ab)):Option (Bool×Int) :=
 (iS n (ah .i64 oC 1) oA oB (ah .i64 oC 1) oD).bind fun y1 =>
 some (y1,(ah .i64 oC 1))
def bf (n:Nat) (oA:Int) (oB:(List Int)) (oD:(List ab)) (sa:Int×Int):Option ((Int×Int)⊕(Int⊕(Int×Int))) :=
 if (decide (sa.2<(oD.length:Int)))=true then
  (aT oD sa.2).bind fun xa2 =>
  (cW n xa2 oA oB sa.1 oD).bind fun ya3 =>
  if ya3.1=true then
   some (.inr (.inr (ya3.2,sa.2)))
  else
   some (.inl (ya3.2,(ah .i64 sa.2 1)))
 else
  some (.inr (.inl sa.1))
def br (n:Nat) (oA:Int) (oB:(List Int)) (oC:Int) (oD:(List ab)):Option (Int×Int) :=
 (iter (fun s=>bf n oA oB oD s) n (oC,0)).bind fun t1 =>
 match t1 with
 | .inl w2 =>
  some ((-1),w2)
 | .inr w2 =>
  some (w2.2,w2.1)
def aO (n:Nat) (oA:Int) (oB:(List Int)) (sa:(List ab)×Int×Int×Int):Option (((List ab)×Int×Int×Int)⊕((List ab)×Int×Int)) :=
 if (decide (sa.2.2.2<(sa.1.length:Int)))=true then
  (aT sa.1 sa.2.2.2).bind fun xa2 =>
  (cW n xa2 oA oB sa.2.1 sa.1).bind fun ya3 =>
  if (!ya3.1)=true then
   (aT sa.1 sa.2.2.1).bind fun xa5 =>
   some (.inl ((sa.1.set (sa.2.2.1).toNat xa2),ya3.2,(ah .i64 sa.2.2.1 1),(ah .i64 sa.2.2.2 1)))
  else
   some (.inl (sa.1,ya3.2,sa.2.2.1,(ah .i64 sa.2.2.2 1)))
 else
  some (.inr (sa.1,sa.2.1,sa.2.2.1))
def bo (n:Nat) (oA:Int) (oB:(List Int)) (oC:Int) (oD:(List ab)):Option (Int⊕(Nat×Nat×Int×(List ab))) :=
 (br n oA oB oC oD).bind fun y1 =>
 if (y1.1==(-1))=true then
  some (.inl y1.2)
 else
  (iter (fun s=>aO n oA oB s) n (oD,y1.2,y1.1,(ah .i64 y1.1 1))).bind fun t3 =>
  grd (decide ((0:Int)≤t3.2.2)&&decide (t3.2.2≤(t3.1.length:Int))) <|
  grd (Nat.ble (((t3.2.2).toNat) + (t3.1.length - (t3.2.2).toNat)) t3.1.length) <|
  grd (decide ((0:Int)≤t3.2.2)&&decide (t3.2.2≤((t3.1.take ((t3.2.2).toNat)++(List.replicate (t3.1.length - (t3.2.2).toNat) (ab.mk 0 0 0 0 0 0 0 0 false)++t3.1.drop (((t3.2.2).toNat) + (t3.1.length - (t3.2.2).toNat)))).length:Int))) <|
  some (.inr ((t3.2.2).toNat,((t3.1.take ((t3.2.2).toNat)++(List.replicate (t3.1.length - (t3.2.2).toNat) (ab.mk 0 0 0 0 0 0 0 0 false)++t3.1.drop (((t3.2.2).toNat) + (t3.1.length - (t3.2.2).toNat)))).length - (t3.2.2).toNat),t3.2.1,(t3.1.take ((t3.2.2).toNat)++(List.replicate (t3.1.length - (t3.2.2).toNat) (ab.mk 0 0 0 0 0 0 0 0 false)++t3.1.drop (((t3.2.2).toNat) + (t3.1.length - (t3.2.2).toNat))))))
def dj (n:Nat) (oA:Int) (oB:(List Int)) (oC:Int) (oD:(List ab)):Option (Nat×Nat) :=
 grd ((decide ((0:Int)≤(oD.length:Int))&&decide ((oD.length:Int)≤(oD.length:Int))&&decide ((oD.length:Int)≤(oD.length:Int)))&&!((oD.length:Int)==0)) <|
 some (((oD.length:Int)).toNat,0)
def ic (n:Nat) (oA:Int) (oB:(List Int)) (oC:Int) (oD:(List ab)) (sa:(List ab)×Int):Option (((List ab)×Int)⊕((List ab))) :=
 if (decide (sa.2<(oD.length:Int)))=true then
  (aT sa.1 sa.2).bind fun xa2 =>
  if (xa2.Op==8)=true then
   (aT oB xa2.To).bind fun xa4 =>
   some (.inl ((sa.1.set (sa.2).toNat (ab.mk xa2.Op xa2.A_ xa2.B xa2.C_ xa2.D xa2.Imm xa2.Bin xa4 xa2.Shared)),(ah .i64 sa.2 1)))
  else
   if (xa2.Op==9)=true then
    (aT oB xa2.To).bind fun xa5 =>
    some (.inl ((sa.1.set (sa.2).toNat (ab.mk xa2.Op xa2.A_ xa2.B xa2.C_ xa2.D xa2.Imm xa2.Bin xa5 xa2.Shared)),(ah .i64 sa.2 1)))
   else
    some (.inl (sa.1,(ah .i64 sa.2 1)))
 else
  some (.inr sa.1)
def fP (n:Nat) (oA:Int) (oB:(List Int)) (oC:Int) (oD:(List ab)):Option (Nat×Nat×(List ab)) :=
 (iter (fun s=>ic n oA oB oC oD s) n (oD,0)).bind fun t1 =>
 (dj n oA oB oC t1).bind fun y2 =>
 some (y2.1,y2.2,t1)
def dA (n:Nat) (c:ax) (oA:Int) (sa:(List Int)×Int×Int):Option (((List Int)×Int×Int)⊕((List Int))) :=
 if (decide (sa.2.1<(c.Steps.length:Int)))=true then
  (aT sa.1 sa.2.1).bind fun xa2 =>
  (jF n sa.2.1 oA (sa.1.set (sa.2.1).toNat sa.2.2)).bind fun ya3 =>
  if (!ya3)=true then
   some (.inl ((sa.1.set (sa.2.1).toNat sa.2.2),(ah .i64 sa.2.1 1),(ah .i64 sa.2.2 1)))
  else
   some (.inl ((sa.1.set (sa.2.1).toNat sa.2.2),(ah .i64 sa.2.1 1),sa.2.2))
 else
  some (.inr sa.1)
def f6 (n:Nat) (c:ax) (oA:Int):Option (Int×Nat×Nat×(List Int)×Int×(List ab)) :=
 grd (decide ((0:Int)≤(c.Steps.length:Int))&&decide ((c.Steps.length:Int)≤(c.Steps.length:Int))&&decide (8 * (c.Steps.length:Int)≤140737488355328)&&decide ((c.Steps.length:Int)≤140737488355328)&&Nat.blt 0 1) <|
 (iter (fun s=>dA n c oA s) n ((List.replicate ((c.Steps.length:Int)).toNat (0:Int)),0,0)).bind fun t2 =>
 (bX n c.Steps oA t2 (-1)).bind fun y3 =>
 (bo n oA t2 (-1) c.Steps).bind fun y4 =>
 match y4 with
 | .inl wa5 =>
  (fP n oA t2 wa5 c.Steps).bind fun y6 =>
  some (c.Regs,y6.1,y6.2.1,t2,wa5,y6.2.2)
 | .inr wb5 =>
  (fP n oA t2 wb5.2.2.1 (wb5.2.2.2.take wb5.1)).bind fun y6 =>
  some (c.Regs,y6.1,y6.2.1,t2,wb5.2.2.1,y6.2.2)
def ig (n:Nat) (sa:Int×(List ab)×Int):Option ((Int×(List ab)×Int)⊕(Int×(List ab))) :=
 if (decide (sa.2.2<(sa.2.1.length:Int)))=true then
  (aT sa.2.1 sa.2.2).bind fun xa2 =>
  (gx n xa2).bind fun ya3 =>
  if (!ya3)=true then
   some (.inl (sa.1,sa.2.1,(ah .i64 sa.2.2 1)))
  else
   (f6 n (ax.mk sa.1 sa.2.1) sa.2.2).bind fun ya5 =>
   (f4 n (ax.mk ya5.1 ((ya5.2.2.2.2.2.drop 0).take ya5.2.1))).bind fun ya6 =>
   if ya6=true then
    some (.inl (ya5.1,((ya5.2.2.2.2.2.drop 0).take ya5.2.1),0))
   else
    some (.inl (sa.1,sa.2.1,(ah .i64 sa.2.2 1)))
 else
  some (.inr (sa.1,sa.2.1))
def kS (n:Nat) (c:ax):Option (ax×Int) :=
 (ib n c).bind fun y1 =>
 if (!y1)=true then
  some ((ax.mk 0 ([]:List ab)),2)
 else
  (bW n c.Steps).bind fun y3 =>
  (iter (fun s=>ig n s) n (c.Regs,c.Steps,0)).bind fun t4 =>
  some ((ax.mk t4.1 t4.2),0)
def ij (n:Nat) (c:ax) (sa:Int×Int):Option ((Int×Int)⊕Int) :=
 if (decide (sa.1<(c.Steps.length:Int)))=true then
  (aT c.Steps sa.1).bind fun xa2 =>
  (gx n xa2).bind fun ya3 =>
  if ya3=true then
   some (.inl ((ah .i64 sa.1 1),(ah .i64 sa.2 1)))
  else
   some (.inl ((ah .i64 sa.1 1),sa.2))
 else
  some (.inr sa.2)
def jo (n:Nat) (c:ax):Option Int :=
 (iQ n c).bind fun y1 =>
 if (y1 != 0)=true then
  some 0
 else
  (iter (fun s=>ij n c s) n (0,0)).bind fun t3 =>
  some t3
def eF (n:Nat) (c:ax) (y7:(List (da Bool))) (y8:(List Bool)) (sa:Int):Option (Int⊕(Unit⊕Unit)) :=
 if (decide (sa<(y7.length:Int)))=true then
  (aT y8 sa).bind fun xa2 =>
  (aT y7 sa).bind fun xa3 =>
  if (!(xa2==xa3.e1))=true then
   some (.inr (.inr ()))
  else
   some (.inl (ah .i64 sa 1))
 else
  some (.inr (.inl ()))
def gy (n:Nat) (c:ax):Option Bool :=
 (rD n).bind fun y1 =>
 if (!y1)=true then
  some false
 else
  (l6 n c 150).bind fun y3 =>
  if (!y3)=true then
   some true
  else
   (jZ n c).bind fun y5 =>
   if (y5 != 0)=true then
    some true
   else
    (lJ n c).bind fun y7 =>
    (l_ n c).bind fun y8 =>
    if ((y8.length:Int) != (y7.length:Int))=true then
     some false
    else
     (iter (fun s=>eF n c y7 y8 s) n 0).bind fun t10 =>
     match t10 with
     | .inl w11 =>
      (oq n c).bind fun y12 =>
      if (y12.2 != 0)=true then
       some false
      else
       (jZ n y12.1).bind fun y14 =>
       if (y14 != 0)=true then
        some false
       else
        (eM n y12.1).bind fun y16 =>
        if (!y16)=true then
         some false
        else
         (lM n y12.1).bind fun y18 =>
         if (!y18)=true then
          some false
         else
          (ib n c).bind fun y20 =>
          (eM n c).bind fun y21 =>
          if (!(y20==y21))=true then
           some false
          else
           (kS n c).bind fun y23 =>
           (eM n c).bind fun y24 =>
           if (!y24)=true then
            some (y23.2==2)
           else
            if (y23.2==0)=true then
             (jZ n y23.1).bind fun y27 =>
             if (y27==0)=true then
              (eM n y23.1).bind fun y29 =>
              if y29=true then
               (lM n y23.1).bind fun y31 =>
               if y31=true then
                (jo n y23.1).bind fun y33 =>
                (jo n c).bind fun y34 =>
                some (decide (y33≤y34))
               else
                some false
              else
               some false
             else
              some false
            else
             some false
     | .inr w11 =>
      some false

end Go.Proofs.Ytaiokpalfdbnnaa
