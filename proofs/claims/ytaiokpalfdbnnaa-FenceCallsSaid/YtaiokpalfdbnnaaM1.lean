/- What the functions compute, as functions on lists and numbers. Printed by a program from the code; nothing is claimed here. -/
import Derived.Test.YtaiokpalfdbnnaaM0
namespace Go.Proofs.Ytaiokpalfdbnnaa
open Go A
set_option linter.unusedVariables false

structure ab where
  mk ::
  Op:Int
  A_:Int
  B:Int
  C_:Int
  D:Int
  Imm:Int
  Bin:Int
  To:Int
  Shared:Bool
structure aj where
  mk ::
  Regs:Int
  Steps:(List ab)
def ab.beq (x y:ab):Bool:=((x.Op==y.Op)&&((x.A_==y.A_)&&((x.B==y.B)&&((x.C_==y.C_)&&((x.D==y.D)&&((x.Imm==y.Imm)&&((x.Bin==y.Bin)&&((x.To==y.To)&&(x.Shared==y.Shared)))))))))
theorem ab.beq_eq {x y:ab} (h:ab.beq x y=true):x=y:=by
  obtain ⟨a1,a2,a3,a4,a5,a6,a7,a8,a9⟩:=x
  obtain ⟨b10,b11,b12,b13,b14,b15,b16,b17,b18⟩:=y
  unfold ab.beq at h
  simp only [Bool.and_eq_true,beq_iff_eq] at h
  simp_all
theorem ab.beq_refl (x:ab):ab.beq x x=true:=by
  unfold ab.beq
  simp
def ab.wf (x:ab):Prop:=(Fw .i64 x.Op)∧(Fw .i64 x.A_)∧(Fw .i64 x.B)∧(Fw .i64 x.C_)∧(Fw .i64 x.D)∧(Fw .i64 x.Imm)∧(Fw .i64 x.Bin)∧(Fw .i64 x.To)∧(True)
def aj.wf (x:aj):Prop:=(Fw .i64 x.Regs)∧(x.Steps.length≤maxLen∧∀ z∈x.Steps,ab.wf z)
def sJ (n:Nat):Option Bool:=some true
def m2 (n:Nat) (c:aj) (most:Int):Option Bool :=
 if (decide ((c.Steps.length:Int)≤most))=true then
  some (decide (c.Regs≤most))
 else
  some false
def iA (n:Nat) (l:(List ab)):Option Unit :=
 grd (Nat.ble (l.length * 72) 140737488355328) <|
 some ()
def ky (n:Nat) (c:aj):Option (Int×(List ab)) :=
 (iA n c.Steps).bind fun y1 =>
 some (c.Regs,c.Steps)
def dx (n:Nat) (op:Int):Option Int :=
 if (decide (op<1))=true then
  some 0
 else
  if (decide (op>10))=true then
   some 0
  else
   if (op==0)=true then
    some 0
   else
    if (op==1)=true then
     some 17
    else
     if (op==2)=true then
      some 3
     else
      if (op==3)=true then
       some 39
      else
       if (op==4)=true then
        some 147
       else
        if (op==5)=true then
         some 150
        else
         if (op==6)=true then
          some 159
         else
          if (op==7)=true then
           some 0
          else
           if (op==8)=true then
            some 64
           else
            if (op==9)=true then
             some 66
            else
             if (op==10)=true then
              some 2
             else
              none
def cU (n:Nat) (op:Int):Option Bool :=
 if (decide (op≥1))=true then
  some (decide (op≤10))
 else
  some false
def va (n:Nat) (s_:ab) (regs:Int) (steps:Int):Option Bool :=
 (dx n s_.Op).bind fun y1 =>
 if (y1==0)=true then
  (cU n s_.Op).bind fun y3 =>
  if y3=true then
   if (ab.beq s_ (ab.mk s_.Op 0 0 0 0 0 0 0 false))=true then
    some true
   else
    some false
  else
   some false
 else
  if (y1==2)=true then
   if (decide (s_.B<0))=true then
    some false
   else
    if (decide (s_.B≥regs))=true then
     some false
    else
     (cU n s_.Op).bind fun y5 =>
     if y5=true then
      if (ab.beq s_ (ab.mk s_.Op 0 s_.B 0 0 0 0 0 false))=true then
       some true
      else
       some false
     else
      some false
  else
   if (y1==3)=true then
    if (decide (s_.A_<0))=true then
     some false
    else
     if (decide (s_.A_≥regs))=true then
      some false
     else
      if (decide (s_.B<0))=true then
       some false
      else
       if (decide (s_.B≥regs))=true then
        some false
       else
        (cU n s_.Op).bind fun y7 =>
        if y7=true then
         if (ab.beq s_ (ab.mk s_.Op s_.A_ s_.B 0 0 0 0 0 false))=true then
          some true
         else
          some false
        else
         some false
   else
    if (y1==17)=true then
     if (decide (s_.A_<0))=true then
      some false
     else
      if (decide (s_.A_≥regs))=true then
       some false
      else
       (cU n s_.Op).bind fun y5 =>
       if y5=true then
        if (ab.beq s_ (ab.mk s_.Op s_.A_ 0 0 0 s_.Imm 0 0 false))=true then
         some true
        else
         some false
       else
        some false
    else
     if (y1==39)=true then
      if (decide (s_.A_<0))=true then
       some false
      else
       if (decide (s_.A_≥regs))=true then
        some false
       else
        if (decide (s_.B<0))=true then
         some false
        else
         if (decide (s_.B≥regs))=true then
          some false
         else
          if (decide (s_.C_<0))=true then
           some false
          else
           if (decide (s_.C_≥regs))=true then
            some false
           else
            (cU n s_.Op).bind fun y9 =>
            if y9=true then
             if (ab.beq s_ (ab.mk s_.Op s_.A_ s_.B s_.C_ 0 0 (mF (mG s_.Bin 1) 13) 0 false))=true then
              some true
             else
              some false
            else
             some false
     else
      if (y1==64)=true then
       (cU n s_.Op).bind fun y3 =>
       if y3=true then
        if (ab.beq s_ (ab.mk s_.Op 0 0 0 0 0 0 (mF (mG s_.To 0) (cn .i64 steps 1)) false))=true then
         some true
        else
         some false
       else
        some false
      else
       if (y1==66)=true then
        if (decide (s_.B<0))=true then
         some false
        else
         if (decide (s_.B≥regs))=true then
          some false
         else
          (cU n s_.Op).bind fun y5 =>
          if y5=true then
           if (ab.beq s_ (ab.mk s_.Op 0 s_.B 0 0 0 0 (mF (mG s_.To 0) (cn .i64 steps 1)) false))=true then
            some true
           else
            some false
          else
           some false
       else
        if (y1==147)=true then
         if (decide (s_.A_<0))=true then
          some false
         else
          if (decide (s_.A_≥regs))=true then
           some false
          else
           if (decide (s_.B<0))=true then
            some false
           else
            if (decide (s_.B≥regs))=true then
             some false
            else
             if s_.Shared=true then
              (cU n s_.Op).bind fun y8 =>
              if y8=true then
               if (ab.beq s_ (ab.mk s_.Op s_.A_ s_.B 0 0 s_.Imm 0 0 true))=true then
                some true
               else
                some false
              else
               some false
             else
              (cU n s_.Op).bind fun y8 =>
              if y8=true then
               if (ab.beq s_ (ab.mk s_.Op s_.A_ s_.B 0 0 s_.Imm 0 0 (s_.Op==6)))=true then
                some true
               else
                some false
              else
               some false
        else
         if (y1==150)=true then
          if (decide (s_.B<0))=true then
           some false
          else
           if (decide (s_.B≥regs))=true then
            some false
           else
            if (decide (s_.C_<0))=true then
             some false
            else
             if (decide (s_.C_≥regs))=true then
              some false
             else
              if s_.Shared=true then
               (cU n s_.Op).bind fun y8 =>
               if y8=true then
                if (ab.beq s_ (ab.mk s_.Op 0 s_.B s_.C_ 0 s_.Imm 0 0 true))=true then
                 some true
                else
                 some false
               else
                some false
              else
               (cU n s_.Op).bind fun y8 =>
               if y8=true then
                if (ab.beq s_ (ab.mk s_.Op 0 s_.B s_.C_ 0 s_.Imm 0 0 (s_.Op==6)))=true then
                 some true
                else
                 some false
               else
                some false
         else
          if (y1==159)=true then
           if (decide (s_.A_<0))=true then
            some false
           else
            if (decide (s_.A_≥regs))=true then
             some false
            else
             if (decide (s_.B<0))=true then
              some false
             else
              if (decide (s_.B≥regs))=true then
               some false
              else
               if (decide (s_.C_<0))=true then
                some false
               else
                if (decide (s_.C_≥regs))=true then
                 some false
                else
                 if (decide (s_.D<0))=true then
                  some false
                 else
                  if (decide (s_.D≥regs))=true then
                   some false
                  else
                   if s_.Shared=true then
                    (cU n s_.Op).bind fun y12 =>
                    if y12=true then
                     if (ab.beq s_ (ab.mk s_.Op s_.A_ s_.B s_.C_ s_.D s_.Imm 0 0 true))=true then
                      some true
                     else
                      some false
                    else
                     some false
                   else
                    (cU n s_.Op).bind fun y12 =>
                    if y12=true then
                     if (ab.beq s_ (ab.mk s_.Op s_.A_ s_.B s_.C_ s_.D s_.Imm 0 0 (s_.Op==6)))=true then
                      some true
                     else
                      some false
                    else
                     some false
          else
           none
def lK (n:Nat) (s_:ab) (a:Int) (a_:(List ab)) (a_A:Int):Option Bool :=
 (va n s_ a a_A).bind fun y1 =>
 some (!y1)
def bk (n:Nat) (s_:(List ab)) (f:Int) (f_:(List ab)) (f_A:Int) (sa:Int):Option (Int⊕(Unit⊕Int)) :=
 if (decide (sa<(s_.length:Int)))=true then
  (az s_ sa).bind fun xa2 =>
  (lK n xa2 f f_ f_A).bind fun ya3 =>
  if ya3=true then
   some (.inr (.inr sa))
  else
   some (.inl (ae .i64 sa 1))
 else
  some (.inr (.inl ()))
def bN (n:Nat) (s_:(List ab)) (f:Int) (f_:(List ab)) (f_A:Int):Option Int :=
 (iter (fun s=>bk n s_ f f_ f_A s) n 0).bind fun t1 =>
 match t1 with
 | .inl w2 =>
  some (-1)
 | .inr w2 =>
  some w2
def aJ (n:Nat) (s_:(List ab)) (f:Int) (f_:(List ab)) (f_A:Int):Option Bool :=
 (bN n s_ f f_ f_A).bind fun y1 =>
 some (decide (y1≥0))
def ry (n:Nat) (n_:Int) (oA:(List (Option (List Int)))):Option (List Int) :=
 grd (decide ((0:Int)≤(i4 .i64 (ae .i64 n_ 63) 64))&&decide ((i4 .i64 (ae .i64 n_ 63) 64)≤(i4 .i64 (ae .i64 n_ 63) 64))&&decide (8 * (i4 .i64 (ae .i64 n_ 63) 64)≤140737488355328)&&decide ((i4 .i64 (ae .i64 n_ 63) 64)≤140737488355328)&&Nat.blt 0 1) <|
 some (List.replicate ((i4 .i64 (ae .i64 n_ 63) 64)).toNat (0:Int))
def Ax (n:Nat) (oA:(List (Option (List Int)))) (oB:Nat) (oC:(List Int)):Option Unit :=
 grd (dU oC) <|
 grd (Nat.ble (oC.length * 8) 140737488355328) <|
 some ()
def m3 (n:Nat) (s_:ab):Option (Int×Bool) :=
 (dx n s_.Op).bind fun y1 =>
 if ((gd .i64 y1 1)==0)=true then
  some (0,false)
 else
  some (s_.A_,true)
def Hh (n:Nat) (n_:Int) (oA:(List (Option (List Int)))) (oB:(List Int)):Option (List Int) :=
 (az oB (i4 .i64 n_ 64)).bind fun x1 =>
 grd (decide ((0:Int)≤(rx .i64 n_ 64))) <|
 some (oB.set ((i4 .i64 n_ 64)).toNat (IH .u64 x1 (Cb .u64 1 (rx .i64 n_ 64))))
def j6 (n:Nat):Option Unit :=
 some ()
def l7 (n:Nat):Option Unit :=
 (j6 n).bind fun y1 =>
 some ()
def cmp_isNaN_int (n:Nat) (x:Int):Option Bool :=
 some (x != x)
def cmp_Less_int (n:Nat) (x:Int) (y:Int):Option Bool :=
 (cmp_isNaN_int n x).bind fun y1 =>
 if y1=true then
  (cmp_isNaN_int n y).bind fun y3 =>
  if (!y3)=true then
   some true
  else
   some (decide (x<y))
 else
  some (decide (x<y))
def cL (n:Nat) (oA:Int) (oB:Int):Option (Int×Int) :=
 (cmp_Less_int n oB oA).bind fun y1 =>
 if y1=true then
  some (oB,oA)
 else
  some (oA,oB)
def dL (n:Nat) (oA:Int) (oB:Int):Option (Int×Int) :=
 (cL n oA oB).bind fun y1 =>
 some (y1.1,y1.2)
def bv (n:Nat) (oA:Int) (oB:Int):Option (Int×Int) :=
 (l7 n).bind fun y1 =>
 (dL n oA oB).bind fun y2 =>
 some (y2.1,y2.2)
def aE (n:Nat) (oA:Int) (oB:Int):Option (Int⊕Unit) :=
 if (oB==oA)=true then
  some (.inl 0)
 else
  some (.inr ())
def bX (n:Nat) (oA:Int) (oB:Int):Option Unit :=
 some ()
def bO (n:Nat) (oA:Int) (oB:Int):Option Unit :=
 some ()
def mH (n:Nat):Option Unit :=
 some ()
def od (n:Nat):Option Unit :=
 (mH n).bind fun y1 =>
 some ()
def dX (n:Nat) (oA:Int):Option Unit :=
 some ()
def e_ (n:Nat) (oA:Int):Option Unit :=
 (dX n oA).bind fun y1 =>
 some ()
def aZ (n:Nat) (oA:Int):Option Unit :=
 (od n).bind fun y1 =>
 (e_ n oA).bind fun y2 =>
 some ()
def aQ (n:Nat) (oA:Int):Option Unit :=
 some ()
def ba (n:Nat) (oA:Int):Option Unit :=
 some ()
def mI (n:Nat):Option Unit :=
 some ()
def oe (n:Nat):Option Unit :=
 (mI n).bind fun y1 =>
 some ()
def dY (n:Nat):Option Unit :=
 some ()
def fa (n:Nat):Option Unit :=
 (dY n).bind fun y1 =>
 some ()
def aM (n:Nat):Option Unit :=
 (oe n).bind fun y1 =>
 (fa n).bind fun y2 =>
 some ()
def ay (n:Nat):Option Unit :=
 some ()
def aN (n:Nat):Option Unit :=
 some ()
def gK (n:Nat) (c:aj) (at_:Int):Option (List Int) :=
 if (decide (at_<0))=true then
  some ([]:List Int)
 else
  if (decide (at_≥(c.Steps.length:Int)))=true then
   some ([]:List Int)
  else
   (az c.Steps at_).bind fun x3 =>
   if (x3.Op != 8)=true then
    if (x3.Op != 10)=true then
     if (decide ((ae .i64 at_ 1)<(c.Steps.length:Int)))=true then
      (dx n x3.Op).bind fun y7 =>
      if ((gd .i64 y7 64) != 0)=true then
       if (decide (x3.To≥0))=true then
        if (decide (x3.To<(c.Steps.length:Int)))=true then
         (bv n (ae .i64 at_ 1) x3.To).bind fun y11 =>
         (aE n y11.1 y11.2).bind fun y12 =>
         match y12 with
         | .inl wa13 =>
          (bX n y11.1 wa13).bind fun y14 =>
          some ([y11.1]:List Int)
         | .inr wb13 =>
          (bO n y11.1 y11.2).bind fun y14 =>
          some ([y11.1,y11.2]:List Int)
        else
         (aZ n (ae .i64 at_ 1)).bind fun y11 =>
         (aQ n (ae .i64 at_ 1)).bind fun y12 =>
         (ba n (ae .i64 at_ 1)).bind fun y13 =>
         some ([(ae .i64 at_ 1)]:List Int)
       else
        (aZ n (ae .i64 at_ 1)).bind fun y10 =>
        (aQ n (ae .i64 at_ 1)).bind fun y11 =>
        (ba n (ae .i64 at_ 1)).bind fun y12 =>
        some ([(ae .i64 at_ 1)]:List Int)
      else
       (aZ n (ae .i64 at_ 1)).bind fun y9 =>
       (aQ n (ae .i64 at_ 1)).bind fun y10 =>
       (ba n (ae .i64 at_ 1)).bind fun y11 =>
       some ([(ae .i64 at_ 1)]:List Int)
     else
      (dx n x3.Op).bind fun y7 =>
      if ((gd .i64 y7 64) != 0)=true then
       if (decide (x3.To≥0))=true then
        if (decide (x3.To<(c.Steps.length:Int)))=true then
         (aZ n x3.To).bind fun y11 =>
         (aQ n x3.To).bind fun y12 =>
         (ba n x3.To).bind fun y13 =>
         some ([x3.To]:List Int)
        else
         (aM n).bind fun y11 =>
         (ay n).bind fun y12 =>
         (aN n).bind fun y13 =>
         some ([]:List Int)
       else
        (aM n).bind fun y10 =>
        (ay n).bind fun y11 =>
        (aN n).bind fun y12 =>
        some ([]:List Int)
      else
       (aM n).bind fun y9 =>
       (ay n).bind fun y10 =>
       (aN n).bind fun y11 =>
       some ([]:List Int)
    else
     (dx n x3.Op).bind fun y6 =>
     if ((gd .i64 y6 64) != 0)=true then
      if (decide (x3.To≥0))=true then
       if (decide (x3.To<(c.Steps.length:Int)))=true then
        (aZ n x3.To).bind fun y10 =>
        (aQ n x3.To).bind fun y11 =>
        (ba n x3.To).bind fun y12 =>
        some ([x3.To]:List Int)
       else
        (aM n).bind fun y10 =>
        (ay n).bind fun y11 =>
        (aN n).bind fun y12 =>
        some ([]:List Int)
      else
       (aM n).bind fun y9 =>
       (ay n).bind fun y10 =>
       (aN n).bind fun y11 =>
       some ([]:List Int)
     else
      (aM n).bind fun y8 =>
      (ay n).bind fun y9 =>
      (aN n).bind fun y10 =>
      some ([]:List Int)
   else
    (dx n x3.Op).bind fun y5 =>
    if ((gd .i64 y5 64) != 0)=true then
     if (decide (x3.To≥0))=true then
      if (decide (x3.To<(c.Steps.length:Int)))=true then
       (aZ n x3.To).bind fun y9 =>
       (aQ n x3.To).bind fun y10 =>
       (ba n x3.To).bind fun y11 =>
       some ([x3.To]:List Int)
      else
       (aM n).bind fun y9 =>
       (ay n).bind fun y10 =>
       (aN n).bind fun y11 =>
       some ([]:List Int)
     else
      (aM n).bind fun y8 =>
      (ay n).bind fun y9 =>
      (aN n).bind fun y10 =>
      some ([]:List Int)
    else
     (aM n).bind fun y7 =>
     (ay n).bind fun y8 =>
     (aN n).bind fun y9 =>
     some ([]:List Int)
def zw (n:Nat) (oA:(List (Option (List Int)))) (oB:(List Int)):Option Unit :=
 grd (dU oB) <|
 grd (Nat.ble (oB.length * 8) 140737488355328) <|
 some ()
def rz (n:Nat) (oA:(List (Option (List Int)))) (oB:Nat) (oC:(List Int)) (sa:(List Int)×Bool×Int):Option (((List Int)×Bool×Int)⊕((List Int)×Bool)) :=
 if (decide (sa.2.2<(oC.length:Int)))=true then
  (az oC sa.2.2).bind fun xa2 =>
  if sa.2.1=true then
   (az sa.1 sa.2.2).bind fun xa4 =>
   some (.inl ((sa.1.set (sa.2.2).toNat (gd .u64 xa4 xa2)),true,(ae .i64 sa.2.2 1)))
  else
   (az sa.1 sa.2.2).bind fun xa4 =>
   some (.inl ((sa.1.set (sa.2.2).toNat (gd .u64 xa4 xa2)),((gd .u64 xa4 xa2) != xa4),(ae .i64 sa.2.2 1)))
 else
  some (.inr (sa.1,sa.2.1))
def FB (n:Nat) (oA:(List (Option (List Int)))) (oB:Nat) (oC:(List Int)) (oD:(List Int)):Option (Bool×(List Int)) :=
 (iter (fun s=>rz n oA oB oC s) n (oD,false,0)).bind fun t1 =>
 some (t1.2,t1.1)
def dM (n:Nat) (oA:(List (Option (List Int)))) (oB:(List Int)) (oC:(List Int)):Option Unit :=
 grd (dU oC) <|
 grd (Nat.ble (oC.length * 8) 140737488355328) <|
 some ()
def eL (n:Nat) (oA:(List (Option (List Int)))) (oB:Nat) (oC:(List Int)) (oD:(List Int)) (sa:(List Int)×Bool×Int):Option (((List Int)×Bool×Int)⊕((List Int)×Bool)) :=
 if (decide (sa.2.2<(oD.length:Int)))=true then
  (az oD sa.2.2).bind fun xa2 =>
  if sa.2.1=true then
   (az sa.1 sa.2.2).bind fun xa4 =>
   some (.inl ((sa.1.set (sa.2.2).toNat (gd .u64 xa4 xa2)),true,(ae .i64 sa.2.2 1)))
  else
   (az sa.1 sa.2.2).bind fun xa4 =>
   some (.inl ((sa.1.set (sa.2.2).toNat (gd .u64 xa4 xa2)),((gd .u64 xa4 xa2) != xa4),(ae .i64 sa.2.2 1)))
 else
  some (.inr (sa.1,sa.2.1))
def gW (n:Nat) (oA:(List (Option (List Int)))) (oB:Nat) (oC:(List Int)) (oD:(List Int)) (oE:(List Int)):Option (Bool×(List Int)) :=
 (iter (fun s=>eL n oA oB oC oD s) n (oE,false,0)).bind fun t1 =>
 some (t1.2,t1.1)
def dN (n:Nat) (oA:(List (Option (List Int)))) (oB:Nat) (oC:(List Int)) (oD:(List Int)):Option Unit :=
 grd (dU oD) <|
 grd (Nat.ble (oD.length * 8) 140737488355328) <|
 some ()
def iB (n:Nat) (n_:Int) (oA:(List (Option (List Int)))) (oB:(List Int)) (oC:(List Int)):Option (List Int) :=
 (az oC (i4 .i64 n_ 64)).bind fun x1 =>
 grd (decide ((0:Int)≤(rx .i64 n_ 64))) <|
 some (oC.set ((i4 .i64 n_ 64)).toNat (IH .u64 x1 (Cb .u64 1 (rx .i64 n_ 64))))
def ge (n:Nat):Option Unit :=
 some ()
def iC (n:Nat):Option Unit :=
 (ge n).bind fun y1 =>
 some ()
def bP (n:Nat) (oA:Int) (oB:Int) (oC:Int):Option (Int×Int×Int) :=
 (cmp_Less_int n oB oA).bind fun y1 =>
 if y1=true then
  (cmp_Less_int n oC oA).bind fun y3 =>
  if y3=true then
   (cmp_Less_int n oC oB).bind fun y5 =>
   if y5=true then
    some (oC,oB,oA)
   else
    some (oB,oC,oA)
  else
   some (oB,oA,oC)
 else
  (cmp_Less_int n oC oB).bind fun y3 =>
  if y3=true then
   (cmp_Less_int n oC oA).bind fun y5 =>
   if y5=true then
    some (oC,oA,oB)
   else
    some (oA,oC,oB)
  else
   some (oA,oB,oC)
def cD (n:Nat) (oA:Int) (oB:Int) (oC:Int):Option (Int×Int×Int) :=
 (bP n oA oB oC).bind fun y1 =>
 some (y1.1,y1.2.1,y1.2.2)
def bD (n:Nat) (oA:Int) (oB:Int) (oC:Int):Option (Int×Int×Int) :=
 (iC n).bind fun y1 =>
 (cD n oA oB oC).bind fun y2 =>
 some (y2.1,y2.2.1,y2.2.2)
def bA (n:Nat) (oA:Int) (oB:Int) (oC:Int):Option ((Int×Int)⊕((Int×Int)⊕Unit)) :=
 if (oB==oA)=true then
  if (oC != oB)=true then
   some (.inl (oC,0))
  else
   some (.inr (.inl (0,0)))
 else
  if (oC==oB)=true then
   some (.inl (oB,0))
  else
   some (.inr (.inr ()))
def dO (n:Nat) (oA:Int) (oB:Int) (oC:Int):Option Unit :=
 some ()
def dQ (n:Nat) (oA:Int) (oB:Int) (oC:Int):Option Unit :=
 some ()
def dS (n:Nat) (oA:Int) (oB:Int) (oC:Int):Option Unit :=
 some ()
def jc (n:Nat) (s_:ab):Option (List Int) :=
 (dx n s_.Op).bind fun y1 =>
 if (y1==0)=true then
  (aM n).bind fun y3 =>
  (ay n).bind fun y4 =>
  (aN n).bind fun y5 =>
  some ([]:List Int)
 else
  if (y1==2)=true then
   (aZ n s_.B).bind fun y3 =>
   (aQ n s_.B).bind fun y4 =>
   (ba n s_.B).bind fun y5 =>
   some ([s_.B]:List Int)
  else
   if (y1==3)=true then
    (aZ n s_.B).bind fun y3 =>
    (aQ n s_.B).bind fun y4 =>
    (ba n s_.B).bind fun y5 =>
    some ([s_.B]:List Int)
   else
    if (y1==17)=true then
     (aM n).bind fun y3 =>
     (ay n).bind fun y4 =>
     (aN n).bind fun y5 =>
     some ([]:List Int)
    else
     if (y1==39)=true then
      (bv n s_.B s_.C_).bind fun y3 =>
      (aE n y3.1 y3.2).bind fun y4 =>
      match y4 with
      | .inl wa5 =>
       (bX n y3.1 wa5).bind fun y6 =>
       some ([y3.1]:List Int)
      | .inr wb5 =>
       (bO n y3.1 y3.2).bind fun y6 =>
       some ([y3.1,y3.2]:List Int)
     else
      if (y1==64)=true then
       (aM n).bind fun y3 =>
       (ay n).bind fun y4 =>
       (aN n).bind fun y5 =>
       some ([]:List Int)
      else
       if (y1==66)=true then
        (aZ n s_.B).bind fun y3 =>
        (aQ n s_.B).bind fun y4 =>
        (ba n s_.B).bind fun y5 =>
        some ([s_.B]:List Int)
       else
        if (y1==147)=true then
         (aZ n s_.B).bind fun y3 =>
         (aQ n s_.B).bind fun y4 =>
         (ba n s_.B).bind fun y5 =>
         some ([s_.B]:List Int)
        else
         if (y1==150)=true then
          (bv n s_.B s_.C_).bind fun y3 =>
          (aE n y3.1 y3.2).bind fun y4 =>
          match y4 with
          | .inl wa5 =>
           (bX n y3.1 wa5).bind fun y6 =>
           some ([y3.1]:List Int)
          | .inr wb5 =>
           (bO n y3.1 y3.2).bind fun y6 =>
           some ([y3.1,y3.2]:List Int)
         else
          if (y1==159)=true then
           (bD n s_.B s_.C_ s_.D).bind fun y3 =>
           (bA n y3.1 y3.2.1 y3.2.2).bind fun y4 =>
           match y4 with
           | .inl wa5 =>
            (dO n y3.1 wa5.1 wa5.2).bind fun y6 =>
            some ([y3.1,wa5.1]:List Int)
           | .inr (.inl wb5) =>
            (dQ n y3.1 wb5.1 wb5.2).bind fun y6 =>
            some ([y3.1]:List Int)
           | .inr (.inr wc5) =>
            (dS n y3.1 y3.2.1 y3.2.2).bind fun y6 =>
            some ([y3.1,y3.2.1,y3.2.2]:List Int)
          else
           none
def lL (n:Nat) (s_:(List Int)) (n_:Int):Option Bool :=
 (az s_ (i4 .i64 n_ 64)).bind fun x1 =>
 grd (decide ((0:Int)≤(rx .i64 n_ 64))) <|
 some ((gd .u64 (FA .u64 x1 (rx .i64 n_ 64)) 1)==1)
def fb (n:Nat) (r_:Int) (oA:(List (Option (List Int)))) (oB:Nat) (oC:Int) (oD:(List Int)):Option Bool :=
 (az oA oC).bind fun x1 =>
 grd (Nat.beq ((oC).toNat) oB&&Nat.blt oB oA.length) <|
 (lL n oD r_).bind fun y3 =>
 some (!y3)
def ct (n:Nat) (s_:(List Int)) (oA:(List (Option (List Int)))) (oB:Nat) (oC:Int) (oD:(List Int)) (sa:Int):Option (Int⊕(Unit⊕Int)) :=
 if (decide (sa<(s_.length:Int)))=true then
  (az s_ sa).bind fun xa2 =>
  (fb n xa2 oA oB oC oD).bind fun ya3 =>
  if ya3=true then
   some (.inr (.inr sa))
  else
   some (.inl (ae .i64 sa 1))
 else
  some (.inr (.inl ()))
def dZ (n:Nat) (s_:(List Int)) (oA:(List (Option (List Int)))) (oB:Nat) (oC:Int) (oD:(List Int)):Option Int :=
 (iter (fun s=>ct n s_ oA oB oC oD s) n 0).bind fun t1 =>
 match t1 with
 | .inl w2 =>
  some (-1)
 | .inr w2 =>
  some w2
def cu (n:Nat) (s_:(List Int)) (oA:(List (Option (List Int)))) (oB:Nat) (oC:Int) (oD:(List Int)):Option Bool :=
 (dZ n s_ oA oB oC oD).bind fun y1 =>
 some (decide (y1≥0))
def dk (n:Nat) (c:aj) (sb:(List (Option (List Int)))×(List Int)×(List Int)×(List Int)×Int×Int):Option (((List (Option (List Int)))×(List Int)×(List Int)×(List Int)×Int×Int)⊕((List (Option (List Int)))×(List Int))) :=
 if (decide (sb.2.2.2.2.2<sb.2.2.2.2.1))=true then
  (az sb.2.2.2.1 sb.2.2.2.2.2).bind fun xb2 =>
  (az sb.1 xb2).bind fun xb3 =>
  matchO xb3 (
   (dM n sb.1 sb.2.1 sb.2.2.1).bind fun yb5 =>
   grd (Nat.ble ((sb.2.1.length + 1) * 8) 140737488355328) <|
   some (.inl ((sb.1.set (xb2).toNat (some sb.2.2.1)),(sb.2.1++([xb2]:List Int)),sb.2.2.1,sb.2.2.2.1,sb.2.2.2.2.1,(ae .i64 sb.2.2.2.2.2 1)))) fun zb4 =>
   grd (dU zb4) <|
   (gW n sb.1 ((xb2).toNat) sb.2.1 sb.2.2.1 zb4).bind fun yb7 =>
   if (!yb7.1)=true then
    some (.inl ((sb.1.set (xb2).toNat (some yb7.2)),sb.2.1,sb.2.2.1,sb.2.2.2.1,sb.2.2.2.2.1,(ae .i64 sb.2.2.2.2.2 1)))
   else
    grd (Nat.ble ((sb.2.1.length + 1) * 8) 140737488355328) <|
    some (.inl ((sb.1.set (xb2).toNat (some yb7.2)),(sb.2.1++([xb2]:List Int)),sb.2.2.1,sb.2.2.2.1,sb.2.2.2.2.1,(ae .i64 sb.2.2.2.2.2 1)))
 else
  some (.inr (sb.1,sb.2.1))
def fN (n:Nat) (c:aj) (sa:(List (Option (List Int)))×(List Int)):Option (((List (Option (List Int)))×(List Int))⊕((List (Option (List Int))))) :=
 if (decide ((sa.2.length:Int)>0))=true then
  (az sa.2 (cn .i64 (sa.2.length:Int) 1)).bind fun xa2 =>
  grd (decide ((0:Int)≤(cn .i64 (sa.2.length:Int) 1))&&decide ((cn .i64 (sa.2.length:Int) 1)≤(sa.2.length:Int))) <|
  (az sa.1 xa2).bind fun xa4 =>
  matchO xa4 (
   none) fun za5 =>
   (dN n sa.1 ((xa2).toNat) (sa.2.take (((cn .i64 (sa.2.length:Int) 1)).toNat)) za5).bind fun ya7 =>
   (az c.Steps xa2).bind fun xa8 =>
   (m3 n xa8).bind fun ya9 =>
   if ya9.2=true then
    (iB n ya9.1 (sa.1.set (xa2).toNat (some za5)) (sa.2.take (((cn .i64 (sa.2.length:Int) 1)).toNat)) za5).bind fun ya11 =>
    (gK n c xa2).bind fun ya12 =>
    (iter (fun s=>dk n c s) n ((sa.1.set (xa2).toNat (some za5)),(sa.2.take (((cn .i64 (sa.2.length:Int) 1)).toNat)),ya11,ya12,(ya12.length:Int),0)).bind fun ta13 =>
    some (.inl (ta13.1,ta13.2))
   else
    (gK n c xa2).bind fun ya11 =>
    (iter (fun s=>dk n c s) n ((sa.1.set (xa2).toNat (some za5)),(sa.2.take (((cn .i64 (sa.2.length:Int) 1)).toNat)),za5,ya11,(ya11.length:Int),0)).bind fun ta12 =>
    some (.inl (ta12.1,ta12.2))
 else
  some (.inr sa.1)
def fO (n:Nat) (c:aj) (sa:(List (Option (List Int)))×Int):Option (((List (Option (List Int)))×Int)⊕(Unit⊕Unit)) :=
 if (decide (sa.2<(c.Steps.length:Int)))=true then
  (az c.Steps sa.2).bind fun xa2 =>
  (az sa.1 sa.2).bind fun xa3 =>
  matchO xa3 (
   some (.inl (sa.1,(ae .i64 sa.2 1)))) fun za4 =>
   grd (dU za4) <|
   (jc n xa2).bind fun ya7 =>
   (cu n ya7 sa.1 ((sa.2).toNat) sa.2 za4).bind fun ya8 =>
   if ya8=true then
    some (.inr (.inr ()))
   else
    some (.inl ((sa.1.set (sa.2).toNat (some za4)),(ae .i64 sa.2 1)))
 else
  some (.inr (.inl ()))
def ib (n:Nat) (c:aj):Option Bool :=
 grd (decide ((0:Int)≤(c.Steps.length:Int))&&decide ((c.Steps.length:Int)≤(c.Steps.length:Int))&&decide (24 * (c.Steps.length:Int)≤140737488355328)&&decide ((c.Steps.length:Int)≤140737488355328)&&Nat.blt 0 1) <|
 (ry n c.Regs (List.replicate ((c.Steps.length:Int)).toNat (none:Option (List Int)))).bind fun y2 =>
 (az (List.replicate ((c.Steps.length:Int)).toNat (none:Option (List Int))) 0).bind fun x3 =>
 (iter (fun s=>fN n c s) n (((List.replicate ((c.Steps.length:Int)).toNat (none:Option (List Int))).set 0 (some y2)),([0]:List Int))).bind fun t4 =>
 (iter (fun s=>fO n c s) n (t4,0)).bind fun t5 =>
 match t5 with
 | .inl w6 =>
  some true
 | .inr w6 =>
  some false
def ft (n:Nat) (c:aj):Option Int :=
 if (decide (c.Regs<0))=true then
  some 2
 else
  if (decide (c.Regs>1024))=true then
   some 2
  else
   if (decide ((c.Steps.length:Int)<1))=true then
    some 2
   else
    if (decide ((c.Steps.length:Int)>4096))=true then
     some 2
    else
     (az c.Steps (cn .i64 (c.Steps.length:Int) 1)).bind fun x5 =>
     if (x5.Op != 8)=true then
      if (x5.Op != 10)=true then
       some 2
      else
       (aJ n c.Steps c.Regs c.Steps (c.Steps.length:Int)).bind fun y8 =>
       if y8=true then
        some 2
       else
        if (decide (c.Regs>0))=true then
         (ib n c).bind fun y11 =>
         if (!y11)=true then
          some 2
         else
          some 0
        else
         some 0
     else
      (aJ n c.Steps c.Regs c.Steps (c.Steps.length:Int)).bind fun y7 =>
      if y7=true then
       some 2
      else
       if (decide (c.Regs>0))=true then
        (ib n c).bind fun y10 =>
        if (!y10)=true then
         some 2
        else
         some 0
       else
        some 0
def fc (n:Nat) (s_:ab):Option Bool :=
 some (s_.Op==7)
def kP (n:Nat) (i:Int) (oA:Int) (oB:(List ab)) (oC:(List Int)):Option Bool :=
 (az oB i).bind fun x1 =>
 (fc n x1).bind fun y2 =>
 some y2
def b8 (n:Nat) (s_:(List ab)) (oA:Int) (oB:(List ab)) (oC:(List Int)) (oD:Int):Option Unit :=
 grd (dU s_) <|
 grd (Nat.ble (s_.length * 72) 140737488355328) <|
 some ()
def j7 (n:Nat) (i:Int) (oA:Int) (oB:(List ab)) (oC:(List Int)) (oD:Int) (oE:(List ab)):Option Bool :=
 (az oB i).bind fun x1 =>
 (fc n x1).bind fun y2 =>
 some y2
def dy (n:Nat) (a:ab) (oA:Int) (oB:(List ab)) (oC:(List Int)) (oD:Int) (oE:(List ab)):Option (Bool×Int) :=
 (j7 n (ae .i64 oD 1) oA oB oC (ae .i64 oD 1) oE).bind fun y1 =>
 some (y1,(ae .i64 oD 1))
def bf (n:Nat) (oA:Int) (oB:(List ab)) (oC:(List Int)) (oE:(List ab)) (sa:Int×Int):Option ((Int×Int)⊕(Int⊕(Int×Int))) :=
 if (decide (sa.2<(oE.length:Int)))=true then
  (az oE sa.2).bind fun xa2 =>
  (dy n xa2 oA oB oC sa.1 oE).bind fun ya3 =>
  if ya3.1=true then
   some (.inr (.inr (ya3.2,sa.2)))
  else
   some (.inl (ya3.2,(ae .i64 sa.2 1)))
 else
  some (.inr (.inl sa.1))
def bo (n:Nat) (oA:Int) (oB:(List ab)) (oC:(List Int)) (oD:Int) (oE:(List ab)):Option (Int×Int) :=
 (iter (fun s=>bf n oA oB oC oE s) n (oD,0)).bind fun t1 =>
 match t1 with
 | .inl w2 =>
  some ((-1),w2)
 | .inr w2 =>
  some (w2.2,w2.1)
def aT (n:Nat) (oA:Int) (oB:(List ab)) (oC:(List Int)) (sa:(List ab)×Int×Int×Int):Option (((List ab)×Int×Int×Int)⊕((List ab)×Int×Int)) :=
 if (decide (sa.2.2.2<(sa.1.length:Int)))=true then
  (az sa.1 sa.2.2.2).bind fun xa2 =>
  (dy n xa2 oA oB oC sa.2.1 sa.1).bind fun ya3 =>
  if (!ya3.1)=true then
   (az sa.1 sa.2.2.1).bind fun xa5 =>
   some (.inl ((sa.1.set (sa.2.2.1).toNat xa2),ya3.2,(ae .i64 sa.2.2.1 1),(ae .i64 sa.2.2.2 1)))
  else
   some (.inl (sa.1,ya3.2,sa.2.2.1,(ae .i64 sa.2.2.2 1)))
 else
  some (.inr (sa.1,sa.2.1,sa.2.2.1))
def bp (n:Nat) (oA:Int) (oB:(List ab)) (oC:(List Int)) (oD:Int) (oE:(List ab)):Option (Int⊕(Nat×Nat×Int×(List ab))) :=
 (bo n oA oB oC oD oE).bind fun y1 =>
 if (y1.1==(-1))=true then
  some (.inl y1.2)
 else
  (iter (fun s=>aT n oA oB oC s) n (oE,y1.2,y1.1,(ae .i64 y1.1 1))).bind fun t3 =>
  grd (decide ((0:Int)≤t3.2.2)&&decide (t3.2.2≤(t3.1.length:Int))) <|
  grd (Nat.ble (((t3.2.2).toNat) + (t3.1.length - (t3.2.2).toNat)) t3.1.length) <|
  grd (decide ((0:Int)≤t3.2.2)&&decide (t3.2.2≤((t3.1.take ((t3.2.2).toNat)++(List.replicate (t3.1.length - (t3.2.2).toNat) (ab.mk 0 0 0 0 0 0 0 0 false)++t3.1.drop (((t3.2.2).toNat) + (t3.1.length - (t3.2.2).toNat)))).length:Int))) <|
  some (.inr ((t3.2.2).toNat,((t3.1.take ((t3.2.2).toNat)++(List.replicate (t3.1.length - (t3.2.2).toNat) (ab.mk 0 0 0 0 0 0 0 0 false)++t3.1.drop (((t3.2.2).toNat) + (t3.1.length - (t3.2.2).toNat)))).length - (t3.2.2).toNat),t3.2.1,(t3.1.take ((t3.2.2).toNat)++(List.replicate (t3.1.length - (t3.2.2).toNat) (ab.mk 0 0 0 0 0 0 0 0 false)++t3.1.drop (((t3.2.2).toNat) + (t3.1.length - (t3.2.2).toNat))))))
def ce (n:Nat) (oA:Int) (oB:(List ab)) (oC:(List Int)) (oD:Int) (oE:(List ab)):Option (Nat×Nat) :=
 grd ((decide ((0:Int)≤(oE.length:Int))&&decide ((oE.length:Int)≤(oE.length:Int))&&decide ((oE.length:Int)≤(oE.length:Int)))&&!((oE.length:Int)==0)) <|
 some (((oE.length:Int)).toNat,0)
def eE (n:Nat) (oA:Int) (oB:(List ab)) (oC:(List Int)) (oD:Int) (oE:(List ab)) (sa:(List ab)×Int):Option (((List ab)×Int)⊕((List ab))) :=
 if (decide (sa.2<(oE.length:Int)))=true then
  (az sa.1 sa.2).bind fun xa2 =>
  if (xa2.Op==8)=true then
   (az oC xa2.To).bind fun xa4 =>
   some (.inl ((sa.1.set (sa.2).toNat (ab.mk xa2.Op xa2.A_ xa2.B xa2.C_ xa2.D xa2.Imm xa2.Bin xa4 xa2.Shared)),(ae .i64 sa.2 1)))
  else
   if (xa2.Op==9)=true then
    (az oC xa2.To).bind fun xa5 =>
    some (.inl ((sa.1.set (sa.2).toNat (ab.mk xa2.Op xa2.A_ xa2.B xa2.C_ xa2.D xa2.Imm xa2.Bin xa5 xa2.Shared)),(ae .i64 sa.2 1)))
   else
    some (.inl (sa.1,(ae .i64 sa.2 1)))
 else
  some (.inr sa.1)
def fu (n:Nat) (oA:Int) (oB:(List ab)) (oC:(List Int)) (oD:Int) (oE:(List ab)):Option (Nat×Nat×(List ab)) :=
 (iter (fun s=>eE n oA oB oC oD oE s) n (oE,0)).bind fun t1 =>
 (ce n oA oB oC oD t1).bind fun y2 =>
 some (y2.1,y2.2,t1)
def d1 (n:Nat) (c:aj) (oA:Int) (oB:(List ab)) (sa:(List Int)×Int×Int):Option (((List Int)×Int×Int)⊕((List Int))) :=
 if (decide (sa.2.1<(c.Steps.length:Int)))=true then
  (az sa.1 sa.2.1).bind fun xa2 =>
  (kP n sa.2.1 oA oB (sa.1.set (sa.2.1).toNat sa.2.2)).bind fun ya3 =>
  if (!ya3)=true then
   some (.inl ((sa.1.set (sa.2.1).toNat sa.2.2),(ae .i64 sa.2.1 1),(ae .i64 sa.2.2 1)))
  else
   some (.inl ((sa.1.set (sa.2.1).toNat sa.2.2),(ae .i64 sa.2.1 1),sa.2.2))
 else
  some (.inr sa.1)
def j8 (n:Nat) (c:aj) (oA:Int) (oB:(List ab)):Option (Int×Nat×Nat×(List Int)×Int×(List ab)) :=
 grd (decide ((0:Int)≤(c.Steps.length:Int))&&decide ((c.Steps.length:Int)≤(c.Steps.length:Int))&&decide (8 * (c.Steps.length:Int)≤140737488355328)&&decide ((c.Steps.length:Int)≤140737488355328)&&Nat.blt 0 1) <|
 (iter (fun s=>d1 n c oA oB s) n ((List.replicate ((c.Steps.length:Int)).toNat (0:Int)),0,0)).bind fun t2 =>
 (b8 n c.Steps oA oB t2 (-1)).bind fun y3 =>
 (bp n oA oB t2 (-1) c.Steps).bind fun y4 =>
 match y4 with
 | .inl wa5 =>
  (fu n oA oB t2 wa5 c.Steps).bind fun y6 =>
  some (c.Regs,y6.1,y6.2.1,t2,wa5,y6.2.2)
 | .inr wb5 =>
  (fu n oA oB t2 wb5.2.2.1 (wb5.2.2.2.take wb5.1)).bind fun y6 =>
  some (c.Regs,y6.1,y6.2.1,t2,wb5.2.2.1,y6.2.2)
def g8 (n:Nat) (c:aj):Option (aj×Int) :=
 (ft n c).bind fun y1 =>
 if (y1 != 0)=true then
  some ((aj.mk 0 ([]:List ab)),y1)
 else
  (j8 n c c.Regs c.Steps).bind fun y3 =>
  some ((aj.mk y3.1 ((y3.2.2.2.2.2.drop 0).take y3.2.1)),0)
def jd (n:Nat) (s_:ab):Option Bool :=
 if (s_.Op==6)=true then
  some true
 else
  if s_.Shared=true then
   (dx n s_.Op).bind fun y3 =>
   some ((gd .i64 y3 128) != 0)
  else
   some false
def eM (n:Nat) (s_:Int) (x:ab):Option Int :=
 (jd n x).bind fun y1 =>
 if y1=true then
  some 2
 else
  if (x.Op==7)=true then
   some 1
  else
   some s_
def Cc (n:Nat) (s_:Nat) (o:Int) (oA:(List Int)):Option (Bool×(List Int)) :=
 (az oA ((s_:Nat):Int)).bind fun x1 =>
 if (decide (o≤x1))=true then
  some (false,oA)
 else
  some (true,(oA.set s_ o))
def eC (n:Nat) (s_:Nat) (o:Int) (oA:(List Int)) (oB:(List Int)):Option (Bool×(List Int)) :=
 (az oA ((s_:Nat):Int)).bind fun x1 =>
 if (decide (o≤x1))=true then
  some (false,oA)
 else
  some (true,(oA.set s_ o))
def fe (n:Nat) (c:aj) (sb:(List Int)×(List Int)×(List Int)×Int×Int×Int):Option (((List Int)×(List Int)×(List Int)×Int×Int×Int)⊕((List Int)×(List Int))) :=
 if (decide (sb.2.2.2.2.1<sb.2.2.2.1))=true then
  (az sb.2.2.1 sb.2.2.2.2.1).bind fun xb2 =>
  (az sb.1 xb2).bind fun xb3 =>
  (eC n ((xb2).toNat) sb.2.2.2.2.2 sb.1 sb.2.1).bind fun yb4 =>
  if yb4.1=true then
   grd (Nat.ble ((sb.2.1.length + 1) * 8) 140737488355328) <|
   some (.inl (yb4.2,(sb.2.1++([xb2]:List Int)),sb.2.2.1,sb.2.2.2.1,(ae .i64 sb.2.2.2.2.1 1),sb.2.2.2.2.2))
  else
   some (.inl (yb4.2,sb.2.1,sb.2.2.1,sb.2.2.2.1,(ae .i64 sb.2.2.2.2.1 1),sb.2.2.2.2.2))
 else
  some (.inr (sb.1,sb.2.1))
def ff (n:Nat) (c:aj) (sa:(List Int)×(List Int)):Option (((List Int)×(List Int))⊕((List Int))) :=
 if (decide ((sa.2.length:Int)>0))=true then
  (az sa.2 (cn .i64 (sa.2.length:Int) 1)).bind fun xa2 =>
  grd (decide ((0:Int)≤(cn .i64 (sa.2.length:Int) 1))&&decide ((cn .i64 (sa.2.length:Int) 1)≤(sa.2.length:Int))) <|
  (az sa.1 xa2).bind fun xa4 =>
  (az c.Steps xa2).bind fun xa5 =>
  (eM n xa4 xa5).bind fun ya6 =>
  (gK n c xa2).bind fun ya7 =>
  (iter (fun s=>fe n c s) n (sa.1,(sa.2.take (((cn .i64 (sa.2.length:Int) 1)).toNat)),ya7,(ya7.length:Int),0,ya6)).bind fun ta8 =>
  some (.inl (ta8.1,ta8.2))
 else
  some (.inr sa.1)
def gf (n:Nat) (c:aj):Option (List Int) :=
 grd (decide ((0:Int)≤(c.Steps.length:Int))&&decide ((c.Steps.length:Int)≤(c.Steps.length:Int))&&decide (8 * (c.Steps.length:Int)≤140737488355328)&&decide ((c.Steps.length:Int)≤140737488355328)&&Nat.blt 0 1) <|
 (az (List.replicate ((c.Steps.length:Int)).toNat (0:Int)) 0).bind fun x2 =>
 (iter (fun s=>ff n c s) n (((List.replicate ((c.Steps.length:Int)).toNat (0:Int)).set 0 1),([0]:List Int))).bind fun t3 =>
 some t3
def dl (n:Nat) (oA:(List ab)) (oB:(List Int)):Option (Nat×Nat) :=
 grd ((decide ((0:Int)≤(oA.length:Int))&&decide ((oA.length:Int)≤(oA.length:Int))&&decide ((oA.length:Int)≤(oA.length:Int)))&&!((oA.length:Int)==0)) <|
 some (((oA.length:Int)).toNat,0)
def iD (n:Nat) (oA:(List ab)) (oB:(List Int)) (sa:(List ab)×Int):Option (((List ab)×Int)⊕((List ab))) :=
 if (decide (sa.2<(oA.length:Int)))=true then
  (az sa.1 sa.2).bind fun xa2 =>
  if (xa2.Op==8)=true then
   (az oB xa2.To).bind fun xa4 =>
   some (.inl ((sa.1.set (sa.2).toNat (ab.mk xa2.Op xa2.A_ xa2.B xa2.C_ xa2.D xa2.Imm xa2.Bin xa4 xa2.Shared)),(ae .i64 sa.2 1)))
  else
   if (xa2.Op==9)=true then
    (az oB xa2.To).bind fun xa5 =>
    some (.inl ((sa.1.set (sa.2).toNat (ab.mk xa2.Op xa2.A_ xa2.B xa2.C_ xa2.D xa2.Imm xa2.Bin xa5 xa2.Shared)),(ae .i64 sa.2 1)))
   else
    some (.inl (sa.1,(ae .i64 sa.2 1)))
 else
  some (.inr sa.1)
def kQ (n:Nat) (oA:(List ab)) (oB:(List Int)):Option (Nat×Nat×(List ab)) :=
 (iter (fun s=>iD n oA oB s) n (oA,0)).bind fun t1 =>
 (dl n t1 oB).bind fun y2 =>
 some (y2.1,y2.2,t1)
def iE (n:Nat) (y1:aj×Int) (y3:(List Int)) (sa:(List ab)×(List Int)×Int):Option (((List ab)×(List Int)×Int)⊕((List ab)×(List Int))) :=
 if (decide (sa.2.2<(y3.length:Int)))=true then
  (az y3 sa.2.2).bind fun xa2 =>
  grd (Nat.ble ((sa.2.1.length + 1) * 8) 140737488355328) <|
  if (xa2==2)=true then
   (az y1.1.Steps sa.2.2).bind fun xa5 =>
   (jd n xa5).bind fun ya6 =>
   if ya6=true then
    grd (Nat.ble ((sa.1.length + 1) * 72) 140737488355328) <|
    grd (Nat.ble (((sa.1++([(ab.mk 7 0 0 0 0 0 0 0 false)]:List ab)).length + 1) * 72) 140737488355328) <|
    some (.inl (((sa.1++([(ab.mk 7 0 0 0 0 0 0 0 false)]:List ab))++([xa5]:List ab)),(sa.2.1++([(sa.1.length:Int)]:List Int)),(ae .i64 sa.2.2 1)))
   else
    grd (Nat.ble ((sa.1.length + 1) * 72) 140737488355328) <|
    some (.inl ((sa.1++([xa5]:List ab)),(sa.2.1++([(sa.1.length:Int)]:List Int)),(ae .i64 sa.2.2 1)))
  else
   (az y1.1.Steps sa.2.2).bind fun xa5 =>
   grd (Nat.ble ((sa.1.length + 1) * 72) 140737488355328) <|
   some (.inl ((sa.1++([xa5]:List ab)),(sa.2.1++([(sa.1.length:Int)]:List Int)),(ae .i64 sa.2.2 1)))
 else
  some (.inr (sa.1,sa.2.1))
def kH (n:Nat) (c:aj):Option (aj×Int) :=
 (g8 n c).bind fun y1 =>
 if (y1.2 != 0)=true then
  some ((aj.mk 0 ([]:List ab)),y1.2)
 else
  (gf n y1.1).bind fun y3 =>
  (iter (fun s=>iE n y1 y3 s) n (([]:List ab),([]:List Int),0)).bind fun t4 =>
  if (decide ((t4.1.length:Int)>4096))=true then
   some ((aj.mk 0 ([]:List ab)),3)
  else
   (kQ n t4.1 t4.2).bind fun y6 =>
   some ((aj.mk y1.1.Regs ((y6.2.2.drop 0).take y6.1)),0)
def vy (n:Nat):Option Unit :=
 some ()
def sK (n:Nat):Option Unit :=
 some ()
def sL (n:Nat):Option Unit :=
 some ()
def sM (n:Nat):Option Unit :=
 some ()
def sN (n:Nat):Option Unit :=
 some ()
def sO (n:Nat):Option Unit :=
 some ()
def sQ (n:Nat):Option Unit :=
 some ()
def sR (n:Nat):Option Unit :=
 some ()
def sS (n:Nat):Option Unit :=
 some ()
def qB (n:Nat):Option Unit :=
 some ()
def qC (n:Nat):Option Unit :=
 some ()
def vb (n:Nat) (s_:ab) (regs:Int) (steps:Int):Option Bool :=
 if (decide (s_.Op<1))=true then
  some false
 else
  if (decide (s_.Op>10))=true then
   some false
  else
   if (s_.Op==0)=true then
    (vy n).bind fun y4 =>
    if (!(ab.beq (ab.mk s_.Op 0 0 0 0 0 0 0 false) s_))=true then
     some false
    else
     some true
   else
    if (s_.Op==1)=true then
     (sK n).bind fun y4 =>
     if (!(ab.beq (ab.mk s_.Op s_.A_ 0 0 0 s_.Imm 0 0 false) s_))=true then
      some false
     else
      if (decide (s_.A_<0))=true then
       some false
      else
       if (decide (s_.A_≥regs))=true then
        some false
       else
        some true
    else
     if (s_.Op==2)=true then
      (sL n).bind fun y4 =>
      if (!(ab.beq (ab.mk s_.Op s_.A_ s_.B 0 0 0 0 0 false) s_))=true then
       some false
      else
       if (decide (s_.A_<0))=true then
        some false
       else
        if (decide (s_.A_≥regs))=true then
         some false
        else
         if (decide (s_.B<0))=true then
          some false
         else
          if (decide (s_.B≥regs))=true then
           some false
          else
           some true
     else
      if (s_.Op==3)=true then
       (sM n).bind fun y4 =>
       if (decide (s_.Bin<1))=true then
        some false
       else
        if (decide (s_.Bin>13))=true then
         some false
        else
         if (!(ab.beq (ab.mk s_.Op s_.A_ s_.B s_.C_ 0 0 s_.Bin 0 false) s_))=true then
          some false
         else
          if (decide (s_.A_<0))=true then
           some false
          else
           if (decide (s_.A_≥regs))=true then
            some false
           else
            if (decide (s_.B<0))=true then
             some false
            else
             if (decide (s_.B≥regs))=true then
              some false
             else
              if (decide (s_.C_<0))=true then
               some false
              else
               if (decide (s_.C_≥regs))=true then
                some false
               else
                some true
      else
       if (s_.Op==4)=true then
        (sN n).bind fun y4 =>
        if (!(ab.beq (ab.mk s_.Op s_.A_ s_.B 0 0 s_.Imm 0 0 s_.Shared) s_))=true then
         some false
        else
         if (decide (s_.A_<0))=true then
          some false
         else
          if (decide (s_.A_≥regs))=true then
           some false
          else
           if (decide (s_.B<0))=true then
            some false
           else
            if (decide (s_.B≥regs))=true then
             some false
            else
             some true
       else
        if (s_.Op==5)=true then
         (sO n).bind fun y4 =>
         if (!(ab.beq (ab.mk s_.Op 0 s_.B s_.C_ 0 s_.Imm 0 0 s_.Shared) s_))=true then
          some false
         else
          if (decide (s_.B<0))=true then
           some false
          else
           if (decide (s_.B≥regs))=true then
            some false
           else
            if (decide (s_.C_<0))=true then
             some false
            else
             if (decide (s_.C_≥regs))=true then
              some false
             else
              some true
        else
         if (s_.Op==6)=true then
          (sQ n).bind fun y4 =>
          if (!s_.Shared)=true then
           some false
          else
           if (!(ab.beq (ab.mk s_.Op s_.A_ s_.B s_.C_ s_.D s_.Imm 0 0 s_.Shared) s_))=true then
            some false
           else
            if (decide (s_.A_<0))=true then
             some false
            else
             if (decide (s_.A_≥regs))=true then
              some false
             else
              if (decide (s_.B<0))=true then
               some false
              else
               if (decide (s_.B≥regs))=true then
                some false
               else
                if (decide (s_.C_<0))=true then
                 some false
                else
                 if (decide (s_.C_≥regs))=true then
                  some false
                 else
                  if (decide (s_.D<0))=true then
                   some false
                  else
                   if (decide (s_.D≥regs))=true then
                    some false
                   else
                    some true
         else
          if (s_.Op==7)=true then
           (sR n).bind fun y4 =>
           if (!(ab.beq (ab.mk s_.Op 0 0 0 0 0 0 0 false) s_))=true then
            some false
           else
            some true
          else
           if (s_.Op==8)=true then
            (sS n).bind fun y4 =>
            if (decide (s_.To<0))=true then
             some false
            else
             if (decide (s_.To≥steps))=true then
              some false
             else
              if (!(ab.beq (ab.mk s_.Op 0 0 0 0 0 0 s_.To false) s_))=true then
               some false
              else
               some true
           else
            if (s_.Op==9)=true then
             (qB n).bind fun y4 =>
             if (decide (s_.To<0))=true then
              some false
             else
              if (decide (s_.To≥steps))=true then
               some false
              else
               if (!(ab.beq (ab.mk s_.Op 0 s_.B 0 0 0 0 s_.To false) s_))=true then
                some false
               else
                if (decide (s_.B<0))=true then
                 some false
                else
                 if (decide (s_.B≥regs))=true then
                  some false
                 else
                  some true
            else
             if (s_.Op==10)=true then
              (qC n).bind fun y4 =>
              if (!(ab.beq (ab.mk s_.Op 0 s_.B 0 0 0 0 0 false) s_))=true then
               some false
              else
               if (decide (s_.B<0))=true then
                some false
               else
                if (decide (s_.B≥regs))=true then
                 some false
                else
                 some true
             else
              none
def kR (n:Nat) (op:Int):Option (Bool×Bool×Bool×Bool) :=
 if (op==1)=true then
  some (false,false,false,true)
 else
  if (op==2)=true then
   some (true,false,false,true)
  else
   if (op==4)=true then
    some (true,false,false,true)
   else
    if (op==3)=true then
     some (true,true,false,true)
    else
     if (op==5)=true then
      some (true,true,false,false)
     else
      if (op==6)=true then
       some (true,true,true,true)
      else
       if (op==9)=true then
        some (true,false,false,false)
       else
        if (op==10)=true then
         some (true,false,false,false)
        else
         some (false,false,false,false)
def m4 (n:Nat) (s_:ab):Option (Int×Bool) :=
 (kR n s_.Op).bind fun y1 =>
 if (!y1.2.2.2)=true then
  some (0,false)
 else
  some (s_.A_,true)
def m5 (n:Nat) (l:(List Int)) (n_:Int) (sa:Int):Option (Int⊕Int) :=
 if (decide (sa<(l.length:Int)))=true then
  (az l sa).bind fun xa2 =>
  if (decide (xa2<n_))=true then
   some (.inl (ae .i64 sa 1))
  else
   some (.inr sa)
 else
  some (.inr sa)
def c6 (n:Nat) (l:(List Int)) (n_:Int):Option (List Int) :=
 (iter (fun s=>m5 n l n_ s) n 0).bind fun t1 =>
 if (decide (t1<(l.length:Int)))=true then
  (az l t1).bind fun x3 =>
  if (x3==n_)=true then
   some l
  else
   grd (decide ((0:Int)≤t1)&&decide (t1≤(l.length:Int))) <|
   grd (Nat.ble ((l.take (t1).toNat).length * 8) 140737488355328) <|
   grd (Nat.ble (((l.take (t1).toNat).length + 1) * 8) 140737488355328) <|
   grd (decide ((0:Int)≤t1)&&decide (t1≤(l.length:Int))) <|
   grd (Nat.ble ((((l.take (t1).toNat)++([n_]:List Int)).length + (l.drop (t1).toNat).length) * 8) 140737488355328) <|
   some (((l.take (t1).toNat)++([n_]:List Int))++(l.drop (t1).toNat))
 else
  grd (decide ((0:Int)≤t1)&&decide (t1≤(l.length:Int))) <|
  grd (Nat.ble ((l.take (t1).toNat).length * 8) 140737488355328) <|
  grd (Nat.ble (((l.take (t1).toNat).length + 1) * 8) 140737488355328) <|
  grd (decide ((0:Int)≤t1)&&decide (t1≤(l.length:Int))) <|
  grd (Nat.ble ((((l.take (t1).toNat)++([n_]:List Int)).length + (l.drop (t1).toNat).length) * 8) 140737488355328) <|
  some (((l.take (t1).toNat)++([n_]:List Int))++(l.drop (t1).toNat))
def fP (n:Nat) (c:aj) (at_:Int):Option (List Int) :=
 if (decide (at_<0))=true then
  some ([]:List Int)
 else
  if (decide (at_≥(c.Steps.length:Int)))=true then
   some ([]:List Int)
  else
   (az c.Steps at_).bind fun x3 =>
   if (x3.Op != 8)=true then
    if (x3.Op != 10)=true then
     if (decide ((ae .i64 at_ 1)<(c.Steps.length:Int)))=true then
      (c6 n ([]:List Int) (ae .i64 at_ 1)).bind fun y7 =>
      if (x3.Op==8)=true then
       if (decide (x3.To≥0))=true then
        if (decide (x3.To<(c.Steps.length:Int)))=true then
         (c6 n y7 x3.To).bind fun y11 =>
         some y11
        else
         some y7
       else
        some y7
      else
       if (x3.Op==9)=true then
        if (decide (x3.To≥0))=true then
         if (decide (x3.To<(c.Steps.length:Int)))=true then
          (c6 n y7 x3.To).bind fun y12 =>
          some y12
         else
          some y7
        else
         some y7
       else
        some y7
     else
      if (x3.Op==8)=true then
       if (decide (x3.To≥0))=true then
        if (decide (x3.To<(c.Steps.length:Int)))=true then
         (c6 n ([]:List Int) x3.To).bind fun y10 =>
         some y10
        else
         some ([]:List Int)
       else
        some ([]:List Int)
      else
       if (x3.Op==9)=true then
        if (decide (x3.To≥0))=true then
         if (decide (x3.To<(c.Steps.length:Int)))=true then
          (c6 n ([]:List Int) x3.To).bind fun y11 =>
          some y11
         else
          some ([]:List Int)
        else
         some ([]:List Int)
       else
        some ([]:List Int)
    else
     if (x3.Op==8)=true then
      if (decide (x3.To≥0))=true then
       if (decide (x3.To<(c.Steps.length:Int)))=true then
        (c6 n ([]:List Int) x3.To).bind fun y9 =>
        some y9
       else
        some ([]:List Int)
      else
       some ([]:List Int)
     else
      if (x3.Op==9)=true then
       if (decide (x3.To≥0))=true then
        if (decide (x3.To<(c.Steps.length:Int)))=true then
         (c6 n ([]:List Int) x3.To).bind fun y10 =>
         some y10
        else
         some ([]:List Int)
       else
        some ([]:List Int)
      else
       some ([]:List Int)
   else
    if (x3.Op==8)=true then
     if (decide (x3.To≥0))=true then
      if (decide (x3.To<(c.Steps.length:Int)))=true then
       (c6 n ([]:List Int) x3.To).bind fun y8 =>
       some y8
      else
       some ([]:List Int)
     else
      some ([]:List Int)
    else
     if (x3.Op==9)=true then
      if (decide (x3.To≥0))=true then
       if (decide (x3.To<(c.Steps.length:Int)))=true then
        (c6 n ([]:List Int) x3.To).bind fun y9 =>
        some y9
       else
        some ([]:List Int)
      else
       some ([]:List Int)
     else
      some ([]:List Int)
def pA (n:Nat) (s_:ab):Option (List Int) :=
 (kR n s_.Op).bind fun y1 =>
 if y1.1=true then
  (c6 n ([]:List Int) s_.B).bind fun y3 =>
  if y1.2.1=true then
   (c6 n y3 s_.C_).bind fun y5 =>
   if y1.2.2.1=true then
    (c6 n y5 s_.D).bind fun y7 =>
    some y7
   else
    some y5
  else
   if y1.2.2.1=true then
    (c6 n y3 s_.D).bind fun y6 =>
    some y6
   else
    some y3
 else
  if y1.2.1=true then
   (c6 n ([]:List Int) s_.C_).bind fun y4 =>
   if y1.2.2.1=true then
    (c6 n y4 s_.D).bind fun y6 =>
    some y6
   else
    some y4
  else
   if y1.2.2.1=true then
    (c6 n ([]:List Int) s_.D).bind fun y5 =>
    some y5
   else
    some ([]:List Int)
def fQ (n:Nat) (c:aj) (se:(List (Option (List Bool)))×(List Bool)×Int×Int×Bool×Int×(List Int)):Option (((List (Option (List Bool)))×(List Bool)×Int×Int×Bool×Int×(List Int))⊕((List (Option (List Bool)))×(List Bool)×Int×Bool×Int×(List Int))) :=
 if (decide (se.2.2.2.1<c.Regs))=true then
  (az se.2.2.2.2.2.2 se.2.2.1).bind fun xe2 =>
  (az se.1 xe2).bind fun xe3 =>
  matchO xe3 (
   none) fun ze4 =>
   (az ze4 se.2.2.2.1).bind fun xe6 =>
   if xe6=true then
    (az se.2.1 se.2.2.2.1).bind fun xe8 =>
    if (!xe8)=true then
     some (.inl ((se.1.set (xe2).toNat (some (ze4.set (se.2.2.2.1).toNat false))),se.2.1,se.2.2.1,(ae .i64 se.2.2.2.1 1),true,se.2.2.2.2.2.1,se.2.2.2.2.2.2))
    else
     some (.inl (se.1,se.2.1,se.2.2.1,(ae .i64 se.2.2.2.1 1),se.2.2.2.2.1,se.2.2.2.2.2.1,se.2.2.2.2.2.2))
   else
    some (.inl (se.1,se.2.1,se.2.2.1,(ae .i64 se.2.2.2.1 1),se.2.2.2.2.1,se.2.2.2.2.2.1,se.2.2.2.2.2.2))
 else
  some (.inr (se.1,se.2.1,se.2.2.1,se.2.2.2.2.1,se.2.2.2.2.2.1,se.2.2.2.2.2.2))
def dm (n:Nat) (c:aj) (sd:(List (Option (List Bool)))×(List Bool)×Int×Bool×Int×(List Int)):Option (((List (Option (List Bool)))×(List Bool)×Int×Bool×Int×(List Int))⊕((List (Option (List Bool)))×Bool×Int)) :=
 if (decide (sd.2.2.1<(sd.2.2.2.2.2.length:Int)))=true then
  (az sd.2.2.2.2.2 sd.2.2.1).bind fun xd2 =>
  (az sd.1 xd2).bind fun xd3 =>
  matchO xd3 (
   grd (Nat.ble (sd.2.1.length * 1) 140737488355328) <|
   some (.inl ((sd.1.set (xd2).toNat (some sd.2.1)),sd.2.1,(ae .i64 sd.2.2.1 1),true,sd.2.2.2.2.1,sd.2.2.2.2.2))) fun zd4 =>
   (iter (fun s=>fQ n c s) n (sd.1,sd.2.1,sd.2.2.1,0,sd.2.2.2.1,sd.2.2.2.2.1,sd.2.2.2.2.2)).bind fun td6 =>
   some (.inl (td6.1,td6.2.1,(ae .i64 td6.2.2.1 1),td6.2.2.2.1,td6.2.2.2.2.1,td6.2.2.2.2.2))
 else
  some (.inr (sd.1,sd.2.2.2.1,sd.2.2.2.2.1))
def fR (n:Nat) (c:aj) (sb:(List (Option (List Bool)))×Bool×Int):Option (((List (Option (List Bool)))×Bool×Int)⊕((List (Option (List Bool)))×Bool)) :=
 if (decide (sb.2.2<(c.Steps.length:Int)))=true then
  (az sb.1 sb.2.2).bind fun xb2 =>
  matchO xb2 (
   some (.inl (sb.1,sb.2.1,(ae .i64 sb.2.2 1)))) fun zb3 =>
   grd (Nat.ble (zb3.length * 1) 140737488355328) <|
   (az c.Steps sb.2.2).bind fun xb6 =>
   (m4 n xb6).bind fun yb7 =>
   if yb7.2=true then
    (az zb3 yb7.1).bind fun xb9 =>
    (fP n c sb.2.2).bind fun yb10 =>
    (iter (fun s=>dm n c s) n (sb.1,(zb3.set (yb7.1).toNat true),0,sb.2.1,sb.2.2,yb10)).bind fun tb11 =>
    some (.inl (tb11.1,tb11.2.1,(ae .i64 tb11.2.2 1)))
   else
    (fP n c sb.2.2).bind fun yb9 =>
    (iter (fun s=>dm n c s) n (sb.1,zb3,0,sb.2.1,sb.2.2,yb9)).bind fun tb10 =>
    some (.inl (tb10.1,tb10.2.1,(ae .i64 tb10.2.2 1)))
 else
  some (.inr (sb.1,sb.2.1))
def fS (n:Nat) (c:aj) (sa:(List (Option (List Bool)))×Bool):Option (((List (Option (List Bool)))×Bool)⊕((List (Option (List Bool))))) :=
 if sa.2=true then
  (iter (fun s=>fR n c s) n (sa.1,false,0)).bind fun ta2 =>
  some (.inl (ta2.1,ta2.2))
 else
  some (.inr sa.1)
def fT (n:Nat) (c:aj) (t4:((List (Option (List Bool))))) (ya3:(List Int)) (sb:Int×Int):Option ((Int×Int)⊕(Int⊕Unit)) :=
 if (decide (sb.2<(ya3.length:Int)))=true then
  (az t4 sb.1).bind fun xb2 =>
  matchO xb2 (
   some (.inr (.inl sb.1))) fun zb3 =>
   grd (dU zb3) <|
   (az ya3 sb.2).bind fun xb6 =>
   (az zb3 xb6).bind fun xb7 =>
   if (!xb7)=true then
    some (.inr (.inr ()))
   else
    some (.inl (sb.1,(ae .i64 sb.2 1)))
 else
  some (.inr (.inl sb.1))
def fU (n:Nat) (c:aj) (t4:((List (Option (List Bool))))) (sa:Int):Option (Int⊕(Unit⊕Unit)) :=
 if (decide (sa<(c.Steps.length:Int)))=true then
  (az c.Steps sa).bind fun xa2 =>
  (pA n xa2).bind fun ya3 =>
  (iter (fun s=>fT n c t4 ya3 s) n (sa,0)).bind fun ta4 =>
  match ta4 with
  | .inl wa5 =>
   some (.inl (ae .i64 wa5 1))
  | .inr wa5 =>
   some (.inr (.inr ()))
 else
  some (.inr (.inl ()))
def ic (n:Nat) (c:aj):Option Bool :=
 grd (decide ((0:Int)≤(c.Steps.length:Int))&&decide ((c.Steps.length:Int)≤(c.Steps.length:Int))&&decide (24 * (c.Steps.length:Int)≤140737488355328)&&decide ((c.Steps.length:Int)≤140737488355328)&&Nat.blt 0 1) <|
 grd (decide ((0:Int)≤c.Regs)&&decide (c.Regs≤c.Regs)&&decide (1 * c.Regs≤140737488355328)&&decide (c.Regs≤140737488355328)&&Nat.blt 0 1) <|
 (az (List.replicate ((c.Steps.length:Int)).toNat (none:Option (List Bool))) 0).bind fun x3 =>
 (iter (fun s=>fS n c s) n (((List.replicate ((c.Steps.length:Int)).toNat (none:Option (List Bool))).set 0 (some (List.replicate (c.Regs).toNat false))),true)).bind fun t4 =>
 (iter (fun s=>fU n c t4 s) n 0).bind fun t5 =>
 match t5 with
 | .inl w6 =>
  some true
 | .inr w6 =>
  some false
def iF (n:Nat) (c:aj) (sa:Int):Option (Int⊕(Unit⊕Unit)) :=
 if (decide (sa<(c.Steps.length:Int)))=true then
  (az c.Steps sa).bind fun xa2 =>
  (vb n xa2 c.Regs (c.Steps.length:Int)).bind fun ya3 =>
  if (!ya3)=true then
   some (.inr (.inr ()))
  else
   some (.inl (ae .i64 sa 1))
 else
  some (.inr (.inl ()))
def ig (n:Nat) (c:aj):Option Int :=
 if (decide (c.Regs<0))=true then
  some 2
 else
  if (decide (c.Regs>1024))=true then
   some 2
  else
   if (decide ((c.Steps.length:Int)<1))=true then
    some 2
   else
    if (decide ((c.Steps.length:Int)>4096))=true then
     some 2
    else
     (iter (fun s=>iF n c s) n 0).bind fun t5 =>
     match t5 with
     | .inl w6 =>
      (az c.Steps (cn .i64 (c.Steps.length:Int) 1)).bind fun x7 =>
      if (x7.Op != 8)=true then
       if (x7.Op != 10)=true then
        some 2
       else
        (ic n c).bind fun y10 =>
        if (!y10)=true then
         some 2
        else
         some 0
      else
       (ic n c).bind fun y9 =>
       if (!y9)=true then
        some 2
       else
        some 0
     | .inr w6 =>
      some 2
def jL (n:Nat) (c:aj) (br:(List Bool)) (put:(List Bool)) (sa:(List Int)×Int×Int):Option (((List Int)×Int×Int)⊕((List Int))) :=
 if (decide (sa.2.2<(c.Steps.length:Int)))=true then
  (az sa.1 sa.2.2).bind fun xa2 =>
  (az put sa.2.2).bind fun xa3 =>
  if xa3=true then
   (az br sa.2.2).bind fun xa5 =>
   if (!xa5)=true then
    some (.inl ((sa.1.set (sa.2.2).toNat sa.2.1),(ae .i64 (ae .i64 sa.2.1 1) 1),(ae .i64 sa.2.2 1)))
   else
    some (.inl ((sa.1.set (sa.2.2).toNat sa.2.1),(ae .i64 sa.2.1 1),(ae .i64 sa.2.2 1)))
  else
   (az br sa.2.2).bind fun xa5 =>
   if (!xa5)=true then
    some (.inl ((sa.1.set (sa.2.2).toNat sa.2.1),(ae .i64 sa.2.1 1),(ae .i64 sa.2.2 1)))
   else
    some (.inl ((sa.1.set (sa.2.2).toNat sa.2.1),sa.2.1,(ae .i64 sa.2.2 1)))
 else
  some (.inr sa.1)
def jM (n:Nat) (c:aj) (br:(List Bool)) (put:(List Bool)) (t2:((List Int))) (sa:(List ab)×Int):Option (((List ab)×Int)⊕((List ab))) :=
 if (decide (sa.2<(c.Steps.length:Int)))=true then
  (az put sa.2).bind fun xa2 =>
  if xa2=true then
   grd (Nat.ble ((sa.1.length + 1) * 72) 140737488355328) <|
   (az br sa.2).bind fun xa5 =>
   if xa5=true then
    some (.inl ((sa.1++([(ab.mk 7 0 0 0 0 0 0 0 false)]:List ab)),(ae .i64 sa.2 1)))
   else
    (az c.Steps sa.2).bind fun xa7 =>
    if (xa7.Op==8)=true then
     (az t2 xa7.To).bind fun xa9 =>
     grd (Nat.ble (((sa.1++([(ab.mk 7 0 0 0 0 0 0 0 false)]:List ab)).length + 1) * 72) 140737488355328) <|
     some (.inl (((sa.1++([(ab.mk 7 0 0 0 0 0 0 0 false)]:List ab))++([(ab.mk xa7.Op xa7.A_ xa7.B xa7.C_ xa7.D xa7.Imm xa7.Bin xa9 xa7.Shared)]:List ab)),(ae .i64 sa.2 1)))
    else
     if (xa7.Op==9)=true then
      (az t2 xa7.To).bind fun xa10 =>
      grd (Nat.ble (((sa.1++([(ab.mk 7 0 0 0 0 0 0 0 false)]:List ab)).length + 1) * 72) 140737488355328) <|
      some (.inl (((sa.1++([(ab.mk 7 0 0 0 0 0 0 0 false)]:List ab))++([(ab.mk xa7.Op xa7.A_ xa7.B xa7.C_ xa7.D xa7.Imm xa7.Bin xa10 xa7.Shared)]:List ab)),(ae .i64 sa.2 1)))
     else
      grd (Nat.ble (((sa.1++([(ab.mk 7 0 0 0 0 0 0 0 false)]:List ab)).length + 1) * 72) 140737488355328) <|
      some (.inl (((sa.1++([(ab.mk 7 0 0 0 0 0 0 0 false)]:List ab))++([xa7]:List ab)),(ae .i64 sa.2 1)))
  else
   (az br sa.2).bind fun xa4 =>
   if xa4=true then
    some (.inl (sa.1,(ae .i64 sa.2 1)))
   else
    (az c.Steps sa.2).bind fun xa6 =>
    if (xa6.Op==8)=true then
     (az t2 xa6.To).bind fun xa8 =>
     grd (Nat.ble ((sa.1.length + 1) * 72) 140737488355328) <|
     some (.inl ((sa.1++([(ab.mk xa6.Op xa6.A_ xa6.B xa6.C_ xa6.D xa6.Imm xa6.Bin xa8 xa6.Shared)]:List ab)),(ae .i64 sa.2 1)))
    else
     if (xa6.Op==9)=true then
      (az t2 xa6.To).bind fun xa9 =>
      grd (Nat.ble ((sa.1.length + 1) * 72) 140737488355328) <|
      some (.inl ((sa.1++([(ab.mk xa6.Op xa6.A_ xa6.B xa6.C_ xa6.D xa6.Imm xa6.Bin xa9 xa6.Shared)]:List ab)),(ae .i64 sa.2 1)))
     else
      grd (Nat.ble ((sa.1.length + 1) * 72) 140737488355328) <|
      some (.inl ((sa.1++([xa6]:List ab)),(ae .i64 sa.2 1)))
 else
  some (.inr sa.1)
def jN (n:Nat) (c:aj) (br:(List Bool)) (put:(List Bool)):Option aj :=
 grd (decide ((0:Int)≤(c.Steps.length:Int))&&decide ((c.Steps.length:Int)≤(c.Steps.length:Int))&&decide (8 * (c.Steps.length:Int)≤140737488355328)&&decide ((c.Steps.length:Int)≤140737488355328)&&Nat.blt 0 1) <|
 (iter (fun s=>jL n c br put s) n ((List.replicate ((c.Steps.length:Int)).toNat (0:Int)),0,0)).bind fun t2 =>
 (iter (fun s=>jM n c br put t2 s) n (([]:List ab),0)).bind fun t3 =>
 some (aj.mk c.Regs t3)
def lM (n:Nat) (c:aj) (sa:(List Bool)×Int):Option (((List Bool)×Int)⊕((List Bool))) :=
 if (decide (sa.2<(sa.1.length:Int)))=true then
  (az c.Steps sa.2).bind fun xa2 =>
  (az sa.1 sa.2).bind fun xa3 =>
  some (.inl ((sa.1.set (sa.2).toNat (xa2.Op==7)),(ae .i64 sa.2 1)))
 else
  some (.inr sa.1)
def og (n:Nat) (c:aj):Option (aj×Int) :=
 (ig n c).bind fun y1 =>
 if (y1 != 0)=true then
  some ((aj.mk 0 ([]:List ab)),2)
 else
  grd (decide ((0:Int)≤(c.Steps.length:Int))&&decide ((c.Steps.length:Int)≤(c.Steps.length:Int))&&decide (1 * (c.Steps.length:Int)≤140737488355328)&&decide ((c.Steps.length:Int)≤140737488355328)&&Nat.blt 0 1) <|
  (iter (fun s=>lM n c s) n ((List.replicate ((c.Steps.length:Int)).toNat false),0)).bind fun t4 =>
  grd (decide ((0:Int)≤(t4.length:Int))&&decide ((t4.length:Int)≤(t4.length:Int))&&decide (1 * (t4.length:Int)≤140737488355328)&&decide ((t4.length:Int)≤140737488355328)&&Nat.blt 0 1) <|
  (jN n c t4 (List.replicate ((t4.length:Int)).toNat false)).bind fun y6 =>
  some (y6,0)
def g9 (n:Nat) (s_:ab):Option Bool :=
 if (s_.Op==6)=true then
  some true
 else
  if (s_.Op==4)=true then
   some s_.Shared
  else
   if (s_.Op==5)=true then
    some s_.Shared
   else
    some false
def lN (n:Nat) (c:aj) (sa:(List Int)×Int):Option (((List Int)×Int)⊕((List Int))) :=
 if (decide (sa.2<(sa.1.length:Int)))=true then
  (az sa.1 sa.2).bind fun xa2 =>
  some (.inl ((sa.1.set (sa.2).toNat (-1)),(ae .i64 sa.2 1)))
 else
  some (.inr sa.1)
def cW (n:Nat) (c:aj) (yb8:(List Int)) (sd:(List Int)×Bool×Int×Int×Int):Option (((List Int)×Bool×Int×Int×Int)⊕((List Int)×Bool×Int)) :=
 if (decide (sd.2.2.2.2<(yb8.length:Int)))=true then
  (az yb8 sd.2.2.2.2).bind fun xd2 =>
  (az sd.1 xd2).bind fun xd3 =>
  if (decide (xd3<sd.2.2.2.1))=true then
   some (.inl ((sd.1.set (xd2).toNat sd.2.2.2.1),true,sd.2.2.1,sd.2.2.2.1,(ae .i64 sd.2.2.2.2 1)))
  else
   some (.inl (sd.1,sd.2.1,sd.2.2.1,sd.2.2.2.1,(ae .i64 sd.2.2.2.2 1)))
 else
  some (.inr (sd.1,sd.2.1,sd.2.2.1))
def jO (n:Nat) (c:aj) (sb:(List Int)×Bool×Int):Option (((List Int)×Bool×Int)⊕((List Int)×Bool)) :=
 if (decide (sb.2.2<(c.Steps.length:Int)))=true then
  (az sb.1 sb.2.2).bind fun xb2 =>
  if (decide (xb2<0))=true then
   some (.inl (sb.1,sb.2.1,(ae .i64 sb.2.2 1)))
  else
   (az c.Steps sb.2.2).bind fun xb4 =>
   (g9 n xb4).bind fun yb5 =>
   if yb5=true then
    if (xb4.Op==7)=true then
     (fP n c sb.2.2).bind fun yb8 =>
     (iter (fun s=>cW n c yb8 s) n (sb.1,sb.2.1,sb.2.2,0,0)).bind fun tb9 =>
     some (.inl (tb9.1,tb9.2.1,(ae .i64 tb9.2.2 1)))
    else
     (fP n c sb.2.2).bind fun yb8 =>
     (iter (fun s=>cW n c yb8 s) n (sb.1,sb.2.1,sb.2.2,1,0)).bind fun tb9 =>
     some (.inl (tb9.1,tb9.2.1,(ae .i64 tb9.2.2 1)))
   else
    if (xb4.Op==7)=true then
     (fP n c sb.2.2).bind fun yb8 =>
     (iter (fun s=>cW n c yb8 s) n (sb.1,sb.2.1,sb.2.2,0,0)).bind fun tb9 =>
     some (.inl (tb9.1,tb9.2.1,(ae .i64 tb9.2.2 1)))
    else
     (fP n c sb.2.2).bind fun yb8 =>
     (iter (fun s=>cW n c yb8 s) n (sb.1,sb.2.1,sb.2.2,xb2,0)).bind fun tb9 =>
     some (.inl (tb9.1,tb9.2.1,(ae .i64 tb9.2.2 1)))
 else
  some (.inr (sb.1,sb.2.1))
def jP (n:Nat) (c:aj) (sa:(List Int)×Bool):Option (((List Int)×Bool)⊕((List Int))) :=
 if sa.2=true then
  (iter (fun s=>jO n c s) n (sa.1,false,0)).bind fun ta2 =>
  some (.inl (ta2.1,ta2.2))
 else
  some (.inr sa.1)
def mJ (n:Nat) (c:aj):Option (List Int) :=
 grd (decide ((0:Int)≤(c.Steps.length:Int))&&decide ((c.Steps.length:Int)≤(c.Steps.length:Int))&&decide (8 * (c.Steps.length:Int)≤140737488355328)&&decide ((c.Steps.length:Int)≤140737488355328)&&Nat.blt 0 1) <|
 (iter (fun s=>lN n c s) n ((List.replicate ((c.Steps.length:Int)).toNat (0:Int)),0)).bind fun t2 =>
 (az t2 0).bind fun x3 =>
 (iter (fun s=>jP n c s) n ((t2.set 0 0),true)).bind fun t4 =>
 some t4
def jC (n:Nat) (y3:(List Int)) (sa:(List Bool)×Int):Option (((List Bool)×Int)⊕((List Bool))) :=
 if (decide (sa.2<(y3.length:Int)))=true then
  (az y3 sa.2).bind fun xa2 =>
  (az sa.1 sa.2).bind fun xa3 =>
  some (.inl ((sa.1.set (sa.2).toNat (xa2==1)),(ae .i64 sa.2 1)))
 else
  some (.inr sa.1)
def hG (n:Nat) (c:aj):Option (Unit⊕(List Bool)) :=
 (ig n c).bind fun y1 =>
 if (y1 != 0)=true then
  some (.inl ())
 else
  (mJ n c).bind fun y3 =>
  grd (decide ((0:Int)≤(y3.length:Int))&&decide ((y3.length:Int)≤(y3.length:Int))&&decide (1 * (y3.length:Int)≤140737488355328)&&decide ((y3.length:Int)≤140737488355328)&&Nat.blt 0 1) <|
  (iter (fun s=>jC n y3 s) n ((List.replicate ((y3.length:Int)).toNat false),0)).bind fun t5 =>
  some (.inr t5)
def je (n:Nat) (y1:aj×Int) (sa:(List Bool)×Int):Option (((List Bool)×Int)⊕((List Bool))) :=
 if (decide (sa.2<(sa.1.length:Int)))=true then
  (az sa.1 sa.2).bind fun xa2 =>
  if xa2=true then
   (az y1.1.Steps sa.2).bind fun xa4 =>
   (g9 n xa4).bind fun ya5 =>
   some (.inl ((sa.1.set (sa.2).toNat ya5),(ae .i64 sa.2 1)))
  else
   some (.inl ((sa.1.set (sa.2).toNat false),(ae .i64 sa.2 1)))
 else
  some (.inr sa.1)
def vc (n:Nat) (c:aj):Option (aj×Int) :=
 (og n c).bind fun y1 =>
 if (y1.2 != 0)=true then
  some ((aj.mk 0 ([]:List ab)),y1.2)
 else
  (hG n y1.1).bind fun y3 =>
  match y3 with
  | .inl wa4 =>
   (iter (fun s=>je n y1 s) n (([]:List Bool),0)).bind fun t5 =>
   grd (decide ((0:Int)≤(t5.length:Int))&&decide ((t5.length:Int)≤(t5.length:Int))&&decide (1 * (t5.length:Int)≤140737488355328)&&decide ((t5.length:Int)≤140737488355328)&&Nat.blt 0 1) <|
   (jN n y1.1 (List.replicate ((t5.length:Int)).toNat false) t5).bind fun y7 =>
   if (decide ((y7.Steps.length:Int)>4096))=true then
    some ((aj.mk 0 ([]:List ab)),3)
   else
    some (y7,0)
  | .inr wb4 =>
   (iter (fun s=>je n y1 s) n (wb4,0)).bind fun t5 =>
   grd (decide ((0:Int)≤(t5.length:Int))&&decide ((t5.length:Int)≤(t5.length:Int))&&decide (1 * (t5.length:Int)≤140737488355328)&&decide ((t5.length:Int)≤140737488355328)&&Nat.blt 0 1) <|
   (jN n y1.1 (List.replicate ((t5.length:Int)).toNat false) t5).bind fun y7 =>
   if (decide ((y7.Steps.length:Int)>4096))=true then
    some ((aj.mk 0 ([]:List ab)),3)
   else
    some (y7,0)
def kS (n:Nat) (l:(List ab)):Option Unit :=
 grd (Nat.ble (l.length * 72) 140737488355328) <|
 some ()
def l8 (n:Nat) (c:aj):Option (Int×(List ab)) :=
 (kS n c.Steps).bind fun y1 =>
 some (c.Regs,c.Steps)
def gX (n:Nat) (c:aj) (y1:(List Int)) (sa:Int):Option (Int⊕(Unit⊕Unit)) :=
 if (decide (sa<(y1.length:Int)))=true then
  (az y1 sa).bind fun xa2 =>
  if (xa2==2)=true then
   (az c.Steps sa).bind fun xa4 =>
   (jd n xa4).bind fun ya5 =>
   if ya5=true then
    some (.inr (.inr ()))
   else
    some (.inl (ae .i64 sa 1))
  else
   some (.inl (ae .i64 sa 1))
 else
  some (.inr (.inl ()))
def gg (n:Nat) (c:aj):Option Bool :=
 (gf n c).bind fun y1 =>
 (iter (fun s=>gX n c y1 s) n 0).bind fun t2 =>
 match t2 with
 | .inl w3 =>
  some true
 | .inr w3 =>
  some false
def ed (n:Nat) (c:aj):Option Bool :=
 (ft n c).bind fun y1 =>
 if (y1==0)=true then
  (gg n c).bind fun y3 =>
  some y3
 else
  some false
def b5 (n:Nat) (s_:(List ab)):Option Unit :=
 grd (dU s_) <|
 grd (Nat.ble (s_.length * 72) 140737488355328) <|
 some ()
def j9 (n:Nat) (k:Int) (oA:Int) (oB:(List Int)):Option Bool :=
 some (k==oA)
def b6 (n:Nat) (s_:(List ab)) (oA:Int) (oB:(List Int)) (oC:Int):Option Unit :=
 grd (dU s_) <|
 grd (Nat.ble (s_.length * 72) 140737488355328) <|
 some ()
def jf (n:Nat) (k:Int) (oA:Int) (oB:(List Int)) (oC:Int) (oD:(List ab)):Option Bool :=
 some (k==oA)
def c9 (n:Nat) (a:ab) (oA:Int) (oB:(List Int)) (oC:Int) (oD:(List ab)):Option (Bool×Int) :=
 (jf n (ae .i64 oC 1) oA oB (ae .i64 oC 1) oD).bind fun y1 =>
 some (y1,(ae .i64 oC 1))
def bg (n:Nat) (oA:Int) (oB:(List Int)) (oD:(List ab)) (sa:Int×Int):Option ((Int×Int)⊕(Int⊕(Int×Int))) :=
 if (decide (sa.2<(oD.length:Int)))=true then
  (az oD sa.2).bind fun xa2 =>
  (c9 n xa2 oA oB sa.1 oD).bind fun ya3 =>
  if ya3.1=true then
   some (.inr (.inr (ya3.2,sa.2)))
  else
   some (.inl (ya3.2,(ae .i64 sa.2 1)))
 else
  some (.inr (.inl sa.1))
def bq (n:Nat) (oA:Int) (oB:(List Int)) (oC:Int) (oD:(List ab)):Option (Int×Int) :=
 (iter (fun s=>bg n oA oB oD s) n (oC,0)).bind fun t1 =>
 match t1 with
 | .inl w2 =>
  some ((-1),w2)
 | .inr w2 =>
  some (w2.2,w2.1)
def aR (n:Nat) (oA:Int) (oB:(List Int)) (sa:(List ab)×Int×Int×Int):Option (((List ab)×Int×Int×Int)⊕((List ab)×Int×Int)) :=
 if (decide (sa.2.2.2<(sa.1.length:Int)))=true then
  (az sa.1 sa.2.2.2).bind fun xa2 =>
  (c9 n xa2 oA oB sa.2.1 sa.1).bind fun ya3 =>
  if (!ya3.1)=true then
   (az sa.1 sa.2.2.1).bind fun xa5 =>
   some (.inl ((sa.1.set (sa.2.2.1).toNat xa2),ya3.2,(ae .i64 sa.2.2.1 1),(ae .i64 sa.2.2.2 1)))
  else
   some (.inl (sa.1,ya3.2,sa.2.2.1,(ae .i64 sa.2.2.2 1)))
 else
  some (.inr (sa.1,sa.2.1,sa.2.2.1))
def bm (n:Nat) (oA:Int) (oB:(List Int)) (oC:Int) (oD:(List ab)):Option (Int⊕(Nat×Nat×Int×(List ab))) :=
 (bq n oA oB oC oD).bind fun y1 =>
 if (y1.1==(-1))=true then
  some (.inl y1.2)
 else
  (iter (fun s=>aR n oA oB s) n (oD,y1.2,y1.1,(ae .i64 y1.1 1))).bind fun t3 =>
  grd (decide ((0:Int)≤t3.2.2)&&decide (t3.2.2≤(t3.1.length:Int))) <|
  grd (Nat.ble (((t3.2.2).toNat) + (t3.1.length - (t3.2.2).toNat)) t3.1.length) <|
  grd (decide ((0:Int)≤t3.2.2)&&decide (t3.2.2≤((t3.1.take ((t3.2.2).toNat)++(List.replicate (t3.1.length - (t3.2.2).toNat) (ab.mk 0 0 0 0 0 0 0 0 false)++t3.1.drop (((t3.2.2).toNat) + (t3.1.length - (t3.2.2).toNat)))).length:Int))) <|
  some (.inr ((t3.2.2).toNat,((t3.1.take ((t3.2.2).toNat)++(List.replicate (t3.1.length - (t3.2.2).toNat) (ab.mk 0 0 0 0 0 0 0 0 false)++t3.1.drop (((t3.2.2).toNat) + (t3.1.length - (t3.2.2).toNat)))).length - (t3.2.2).toNat),t3.2.1,(t3.1.take ((t3.2.2).toNat)++(List.replicate (t3.1.length - (t3.2.2).toNat) (ab.mk 0 0 0 0 0 0 0 0 false)++t3.1.drop (((t3.2.2).toNat) + (t3.1.length - (t3.2.2).toNat))))))
def dn (n:Nat) (oA:Int) (oB:(List Int)) (oC:Int) (oD:(List ab)):Option (Nat×Nat) :=
 grd ((decide ((0:Int)≤(oD.length:Int))&&decide ((oD.length:Int)≤(oD.length:Int))&&decide ((oD.length:Int)≤(oD.length:Int)))&&!((oD.length:Int)==0)) <|
 some (((oD.length:Int)).toNat,0)
def iG (n:Nat) (oA:Int) (oB:(List Int)) (oC:Int) (oD:(List ab)) (sa:(List ab)×Int):Option (((List ab)×Int)⊕((List ab))) :=
 if (decide (sa.2<(oD.length:Int)))=true then
  (az sa.1 sa.2).bind fun xa2 =>
  if (xa2.Op==8)=true then
   (az oB xa2.To).bind fun xa4 =>
   some (.inl ((sa.1.set (sa.2).toNat (ab.mk xa2.Op xa2.A_ xa2.B xa2.C_ xa2.D xa2.Imm xa2.Bin xa4 xa2.Shared)),(ae .i64 sa.2 1)))
  else
   if (xa2.Op==9)=true then
    (az oB xa2.To).bind fun xa5 =>
    some (.inl ((sa.1.set (sa.2).toNat (ab.mk xa2.Op xa2.A_ xa2.B xa2.C_ xa2.D xa2.Imm xa2.Bin xa5 xa2.Shared)),(ae .i64 sa.2 1)))
   else
    some (.inl (sa.1,(ae .i64 sa.2 1)))
 else
  some (.inr sa.1)
def fV (n:Nat) (oA:Int) (oB:(List Int)) (oC:Int) (oD:(List ab)):Option (Nat×Nat×(List ab)) :=
 (iter (fun s=>iG n oA oB oC oD s) n (oD,0)).bind fun t1 =>
 (dn n oA oB oC t1).bind fun y2 =>
 some (y2.1,y2.2,t1)
def dH (n:Nat) (c:aj) (oA:Int) (sa:(List Int)×Int×Int):Option (((List Int)×Int×Int)⊕((List Int))) :=
 if (decide (sa.2.1<(c.Steps.length:Int)))=true then
  (az sa.1 sa.2.1).bind fun xa2 =>
  (j9 n sa.2.1 oA (sa.1.set (sa.2.1).toNat sa.2.2)).bind fun ya3 =>
  if (!ya3)=true then
   some (.inl ((sa.1.set (sa.2.1).toNat sa.2.2),(ae .i64 sa.2.1 1),(ae .i64 sa.2.2 1)))
  else
   some (.inl ((sa.1.set (sa.2.1).toNat sa.2.2),(ae .i64 sa.2.1 1),sa.2.2))
 else
  some (.inr sa.1)
def gh (n:Nat) (c:aj) (oA:Int):Option (Int×Nat×Nat×(List Int)×Int×(List ab)) :=
 grd (decide ((0:Int)≤(c.Steps.length:Int))&&decide ((c.Steps.length:Int)≤(c.Steps.length:Int))&&decide (8 * (c.Steps.length:Int)≤140737488355328)&&decide ((c.Steps.length:Int)≤140737488355328)&&Nat.blt 0 1) <|
 (iter (fun s=>dH n c oA s) n ((List.replicate ((c.Steps.length:Int)).toNat (0:Int)),0,0)).bind fun t2 =>
 (b6 n c.Steps oA t2 (-1)).bind fun y3 =>
 (bm n oA t2 (-1) c.Steps).bind fun y4 =>
 match y4 with
 | .inl wa5 =>
  (fV n oA t2 wa5 c.Steps).bind fun y6 =>
  some (c.Regs,y6.1,y6.2.1,t2,wa5,y6.2.2)
 | .inr wb5 =>
  (fV n oA t2 wb5.2.2.1 (wb5.2.2.2.take wb5.1)).bind fun y6 =>
  some (c.Regs,y6.1,y6.2.1,t2,wb5.2.2.1,y6.2.2)
def iH (n:Nat) (sa:Int×(List ab)×Int):Option ((Int×(List ab)×Int)⊕(Int×(List ab))) :=
 if (decide (sa.2.2<(sa.2.1.length:Int)))=true then
  (az sa.2.1 sa.2.2).bind fun xa2 =>
  (fc n xa2).bind fun ya3 =>
  if (!ya3)=true then
   some (.inl (sa.1,sa.2.1,(ae .i64 sa.2.2 1)))
  else
   (gh n (aj.mk sa.1 sa.2.1) sa.2.2).bind fun ya5 =>
   (gg n (aj.mk ya5.1 ((ya5.2.2.2.2.2.drop 0).take ya5.2.1))).bind fun ya6 =>
   if ya6=true then
    some (.inl (ya5.1,((ya5.2.2.2.2.2.drop 0).take ya5.2.1),0))
   else
    some (.inl (sa.1,sa.2.1,(ae .i64 sa.2.2 1)))
 else
  some (.inr (sa.1,sa.2.1))
def ij (n:Nat) (c:aj):Option (aj×Int) :=
 (ed n c).bind fun y1 =>
 if (!y1)=true then
  some ((aj.mk 0 ([]:List ab)),2)
 else
  (b5 n c.Steps).bind fun y3 =>
  (iter (fun s=>iH n s) n (c.Regs,c.Steps,0)).bind fun t4 =>
  some ((aj.mk t4.1 t4.2),0)
def jD (n:Nat) (c:aj) (y1:(List Int)) (sa:Int):Option (Int⊕(Unit⊕Unit)) :=
 if (decide (sa<(y1.length:Int)))=true then
  (az y1 sa).bind fun xa2 =>
  if (xa2==1)=true then
   (az c.Steps sa).bind fun xa4 =>
   (g9 n xa4).bind fun ya5 =>
   if ya5=true then
    some (.inr (.inr ()))
   else
    some (.inl (ae .i64 sa 1))
  else
   some (.inl (ae .i64 sa 1))
 else
  some (.inr (.inl ()))
def jg (n:Nat) (c:aj):Option Bool :=
 (mJ n c).bind fun y1 =>
 (iter (fun s=>jD n c y1 s) n 0).bind fun t2 =>
 match t2 with
 | .inl w3 =>
  some true
 | .inr w3 =>
  some false
def hH (n:Nat) (c:aj):Option Bool :=
 (ig n c).bind fun y1 =>
 if (y1==0)=true then
  (jg n c).bind fun y3 =>
  some y3
 else
  some false
def kz (n:Nat) (sa:Int×(List ab)×Int):Option ((Int×(List ab)×Int)⊕(Int×(List ab))) :=
 if (decide (sa.2.2<(sa.2.1.length:Int)))=true then
  (az sa.2.1 sa.2.2).bind fun xa2 =>
  if (xa2.Op != 7)=true then
   some (.inl (sa.1,sa.2.1,(ae .i64 sa.2.2 1)))
  else
   grd (decide ((0:Int)≤(sa.2.1.length:Int))&&decide ((sa.2.1.length:Int)≤(sa.2.1.length:Int))&&decide (1 * (sa.2.1.length:Int)≤140737488355328)&&decide ((sa.2.1.length:Int)≤140737488355328)&&Nat.blt 0 1) <|
   (az (List.replicate ((sa.2.1.length:Int)).toNat false) sa.2.2).bind fun xa5 =>
   grd (decide ((0:Int)≤(((List.replicate ((sa.2.1.length:Int)).toNat false).set (sa.2.2).toNat true).length:Int))&&decide ((((List.replicate ((sa.2.1.length:Int)).toNat false).set (sa.2.2).toNat true).length:Int)≤(((List.replicate ((sa.2.1.length:Int)).toNat false).set (sa.2.2).toNat true).length:Int))&&decide (1 * (((List.replicate ((sa.2.1.length:Int)).toNat false).set (sa.2.2).toNat true).length:Int)≤140737488355328)&&decide ((((List.replicate ((sa.2.1.length:Int)).toNat false).set (sa.2.2).toNat true).length:Int)≤140737488355328)&&Nat.blt 0 1) <|
   (jN n (aj.mk sa.1 sa.2.1) ((List.replicate ((sa.2.1.length:Int)).toNat false).set (sa.2.2).toNat true) (List.replicate ((((List.replicate ((sa.2.1.length:Int)).toNat false).set (sa.2.2).toNat true).length:Int)).toNat false)).bind fun ya7 =>
   (jg n ya7).bind fun ya8 =>
   if ya8=true then
    some (.inl (ya7.Regs,ya7.Steps,0))
   else
    some (.inl (sa.1,sa.2.1,(ae .i64 sa.2.2 1)))
 else
  some (.inr (sa.1,sa.2.1))
def pB (n:Nat) (c:aj):Option (aj×Int) :=
 (hH n c).bind fun y1 =>
 if (!y1)=true then
  some ((aj.mk 0 ([]:List ab)),2)
 else
  grd (decide ((0:Int)≤(c.Steps.length:Int))&&decide ((c.Steps.length:Int)≤(c.Steps.length:Int))&&decide (1 * (c.Steps.length:Int)≤140737488355328)&&decide ((c.Steps.length:Int)≤140737488355328)&&Nat.blt 0 1) <|
  grd (decide ((0:Int)≤(c.Steps.length:Int))&&decide ((c.Steps.length:Int)≤(c.Steps.length:Int))&&decide (1 * (c.Steps.length:Int)≤140737488355328)&&decide ((c.Steps.length:Int)≤140737488355328)&&Nat.blt 0 1) <|
  (jN n c (List.replicate ((c.Steps.length:Int)).toNat false) (List.replicate ((c.Steps.length:Int)).toNat false)).bind fun y5 =>
  (iter (fun s=>kz n s) n (y5.Regs,y5.Steps,0)).bind fun t6 =>
  some ((aj.mk t6.1 t6.2),0)
def kT (n:Nat) (l:(List ab)):Option Unit :=
 grd (Nat.ble (l.length * 72) 140737488355328) <|
 some ()
def l_ (n:Nat) (c:aj):Option (Int×(List ab)) :=
 (kT n c.Steps).bind fun y1 =>
 some (c.Regs,c.Steps)
def eD (n:Nat) (a:(List ab)) (b:(List ab)) (sa:Int):Option (Int⊕(Unit⊕Unit)) :=
 if (decide (sa<(a.length:Int)))=true then
  (az a sa).bind fun xa2 =>
  (az b sa).bind fun xa3 =>
  if (!(ab.beq xa2 xa3))=true then
   some (.inr (.inr ()))
  else
   some (.inl (ae .i64 sa 1))
 else
  some (.inr (.inl ()))
def gi (n:Nat) (a:(List ab)) (b:(List ab)):Option Bool :=
 if ((a.length:Int) != (b.length:Int))=true then
  some false
 else
  (iter (fun s=>eD n a b s) n 0).bind fun t2 =>
  match t2 with
  | .inl w3 =>
   some true
  | .inr w3 =>
   some false
def pE (n:Nat) (a:aj) (b:aj):Option Bool :=
 if (a.Regs==b.Regs)=true then
  (gi n a.Steps b.Steps).bind fun y2 =>
  some y2
 else
  some false
def jE (n:Nat) (y4:(List Int)) (sa:(List Bool)×Int):Option (((List Bool)×Int)⊕((List Bool))) :=
 if (decide (sa.2<(y4.length:Int)))=true then
  (az y4 sa.2).bind fun xa2 =>
  (az sa.1 sa.2).bind fun xa3 =>
  some (.inl ((sa.1.set (sa.2).toNat (xa2==2)),(ae .i64 sa.2 1)))
 else
  some (.inr sa.1)
def hU (n:Nat) (c:aj):Option (List Bool) :=
 (ft n c).bind fun y1 =>
 if (y1 != 0)=true then
  some ([]:List Bool)
 else
  grd (decide ((0:Int)≤(c.Steps.length:Int))&&decide ((c.Steps.length:Int)≤(c.Steps.length:Int))&&decide (1 * (c.Steps.length:Int)≤140737488355328)&&decide ((c.Steps.length:Int)≤140737488355328)&&Nat.blt 0 1) <|
  (gf n c).bind fun y4 =>
  (iter (fun s=>jE n y4 s) n ((List.replicate ((c.Steps.length:Int)).toNat false),0)).bind fun t5 =>
  some t5
def kU (n:Nat) (y3:(List Int)) (sa:(List Bool)×Int):Option (((List Bool)×Int)⊕((List Bool))) :=
 if (decide (sa.2<(y3.length:Int)))=true then
  (az y3 sa.2).bind fun xa2 =>
  (az sa.1 sa.2).bind fun xa3 =>
  some (.inl ((sa.1.set (sa.2).toNat (xa2==1)),(ae .i64 sa.2 1)))
 else
  some (.inr sa.1)
def lO (n:Nat) (c:aj):Option (Unit⊕(List Bool)) :=
 (ig n c).bind fun y1 =>
 if (y1 != 0)=true then
  some (.inl ())
 else
  (mJ n c).bind fun y3 =>
  grd (decide ((0:Int)≤(y3.length:Int))&&decide ((y3.length:Int)≤(y3.length:Int))&&decide (1 * (y3.length:Int)≤140737488355328)&&decide ((y3.length:Int)≤140737488355328)&&Nat.blt 0 1) <|
  (iter (fun s=>kU n y3 s) n ((List.replicate ((y3.length:Int)).toNat false),0)).bind fun t5 =>
  some (.inr t5)
def gj (n:Nat) (a:(List Bool)) (b:(List Bool)) (sa:Int):Option (Int⊕(Unit⊕Unit)) :=
 if (decide (sa<(a.length:Int)))=true then
  (az a sa).bind fun xa2 =>
  (az b sa).bind fun xa3 =>
  if (!(xa2==xa3))=true then
   some (.inr (.inr ()))
  else
   some (.inl (ae .i64 sa 1))
 else
  some (.inr (.inl ()))
def gL (n:Nat) (a:(List Bool)) (b:(List Bool)):Option Bool :=
 if ((a.length:Int) != (b.length:Int))=true then
  some false
 else
  (iter (fun s=>gj n a b s) n 0).bind fun t2 =>
  match t2 with
  | .inl w3 =>
   some true
  | .inr w3 =>
   some false
def ef (n:Nat) (c:aj) (y1:(List Bool)) (sa:(List Int)×Int):Option (((List Int)×Int)⊕((List Int))) :=
 if (decide (sa.2<(y1.length:Int)))=true then
  (az y1 sa.2).bind fun xa2 =>
  if (!xa2)=true then
   (az c.Steps sa.2).bind fun xa4 =>
   (fc n xa4).bind fun ya5 =>
   if ya5=true then
    grd (Nat.ble ((sa.1.length + 1) * 8) 140737488355328) <|
    some (.inl ((sa.1++([sa.2]:List Int)),(ae .i64 sa.2 1)))
   else
    some (.inl (sa.1,(ae .i64 sa.2 1)))
  else
   some (.inl (sa.1,(ae .i64 sa.2 1)))
 else
  some (.inr sa.1)
def eF (n:Nat) (c:aj):Option (List Int) :=
 (hU n c).bind fun y1 =>
 (iter (fun s=>ef n c y1 s) n (([]:List Int),0)).bind fun t2 =>
 some t2
def dB (n:Nat) (c:aj) (sa:(List Bool)×(List Int)×Int):Option (((List Bool)×(List Int)×Int)⊕((List Bool)×(List Int))) :=
 if (decide (sa.2.2<(sa.1.length:Int)))=true then
  (az sa.1 sa.2.2).bind fun xa2 =>
  if (!xa2)=true then
   (az c.Steps sa.2.2).bind fun xa4 =>
   if (xa4.Op==7)=true then
    grd (Nat.ble ((sa.2.1.length + 1) * 8) 140737488355328) <|
    some (.inl (sa.1,(sa.2.1++([sa.2.2]:List Int)),(ae .i64 sa.2.2 1)))
   else
    some (.inl (sa.1,sa.2.1,(ae .i64 sa.2.2 1)))
  else
   some (.inl (sa.1,sa.2.1,(ae .i64 sa.2.2 1)))
 else
  some (.inr (sa.1,sa.2.1))
def gk (n:Nat) (c:aj):Option (List Int) :=
 (hG n c).bind fun y1 =>
 match y1 with
 | .inl wa2 =>
  (iter (fun s=>dB n c s) n (([]:List Bool),([]:List Int),0)).bind fun t3 =>
  some t3.2
 | .inr wb2 =>
  (iter (fun s=>dB n c s) n (wb2,([]:List Int),0)).bind fun t3 =>
  some t3.2
def gY (n:Nat) (a:(List Int)) (b:(List Int)) (sa:Int):Option (Int⊕(Unit⊕Unit)) :=
 if (decide (sa<(a.length:Int)))=true then
  (az a sa).bind fun xa2 =>
  (az b sa).bind fun xa3 =>
  if (xa2 != xa3)=true then
   some (.inr (.inr ()))
  else
   some (.inl (ae .i64 sa 1))
 else
  some (.inr (.inl ()))
def gl (n:Nat) (a:(List Int)) (b:(List Int)):Option Bool :=
 if ((a.length:Int) != (b.length:Int))=true then
  some false
 else
  (iter (fun s=>gY n a b s) n 0).bind fun t2 =>
  match t2 with
  | .inl w3 =>
   some true
  | .inr w3 =>
   some false
def iI (n:Nat) (c:aj) (sa:Int×Int):Option ((Int×Int)⊕Int) :=
 if (decide (sa.1<(c.Steps.length:Int)))=true then
  (az c.Steps sa.1).bind fun xa2 =>
  (fc n xa2).bind fun ya3 =>
  if ya3=true then
   some (.inl ((ae .i64 sa.1 1),(ae .i64 sa.2 1)))
  else
   some (.inl ((ae .i64 sa.1 1),sa.2))
 else
  some (.inr sa.2)
def eK (n:Nat) (c:aj):Option Int :=
 (ft n c).bind fun y1 =>
 if (y1 != 0)=true then
  some 0
 else
  (iter (fun s=>iI n c s) n (0,0)).bind fun t3 =>
  some t3
def kA (n:Nat) (c:aj) (sa:Int×Int):Option ((Int×Int)⊕Int) :=
 if (decide (sa.2<(c.Steps.length:Int)))=true then
  (az c.Steps sa.2).bind fun xa2 =>
  if (xa2.Op==7)=true then
   some (.inl ((ae .i64 sa.1 1),(ae .i64 sa.2 1)))
  else
   some (.inl (sa.1,(ae .i64 sa.2 1)))
 else
  some (.inr sa.1)
def kI (n:Nat) (c:aj):Option Int :=
 (ig n c).bind fun y1 =>
 if (y1 != 0)=true then
  some 0
 else
  (iter (fun s=>kA n c s) n (0,0)).bind fun t3 =>
  some t3
def fW (n:Nat) (c:aj):Option Bool :=
 (sJ n).bind fun y1 =>
 if (!y1)=true then
  some false
 else
  (m2 n c 150).bind fun y3 =>
  if (!y3)=true then
   some true
  else
   (ky n c).bind fun y5 =>
   (kH n (aj.mk y5.1 y5.2)).bind fun y6 =>
   (vc n c).bind fun y7 =>
   (l8 n c).bind fun y8 =>
   (ij n (aj.mk y8.1 y8.2)).bind fun y9 =>
   (pB n c).bind fun y10 =>
   (l_ n c).bind fun y11 =>
   (g8 n (aj.mk y11.1 y11.2)).bind fun y12 =>
   (og n c).bind fun y13 =>
   (pE n y6.1 y7.1).bind fun y14 =>
   if y14=true then
    if (y6.2==y7.2)=true then
     (pE n y9.1 y10.1).bind fun y17 =>
     if y17=true then
      if (y9.2==y10.2)=true then
       (pE n y12.1 y13.1).bind fun y20 =>
       if y20=true then
        if (y12.2==y13.2)=true then
         (hU n c).bind fun y23 =>
         (lO n c).bind fun y24 =>
         match y24 with
         | .inl wa25 =>
          (gL n y23 ([]:List Bool)).bind fun y26 =>
          if y26=true then
           (ed n c).bind fun y28 =>
           (hH n c).bind fun y29 =>
           if (y28==y29)=true then
            (eF n c).bind fun y31 =>
            (gk n c).bind fun y32 =>
            (gl n y31 y32).bind fun y33 =>
            if y33=true then
             (eK n c).bind fun y35 =>
             (kI n c).bind fun y36 =>
             some (y35==y36)
            else
             some false
           else
            some false
          else
           some false
         | .inr wb25 =>
          (gL n y23 wb25).bind fun y26 =>
          if y26=true then
           (ed n c).bind fun y28 =>
           (hH n c).bind fun y29 =>
           if (y28==y29)=true then
            (eF n c).bind fun y31 =>
            (gk n c).bind fun y32 =>
            (gl n y31 y32).bind fun y33 =>
            if y33=true then
             (eK n c).bind fun y35 =>
             (kI n c).bind fun y36 =>
             some (y35==y36)
            else
             some false
           else
            some false
          else
           some false
        else
         some false
       else
        some false
      else
       some false
     else
      some false
    else
     some false
   else
    some false

end Go.Proofs.Ytaiokpalfdbnnaa
