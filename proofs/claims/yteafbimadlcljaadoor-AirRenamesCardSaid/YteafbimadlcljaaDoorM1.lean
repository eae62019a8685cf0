/- What the functions compute, as functions on lists and numbers. Printed by a program from the code; nothing is claimed here. -/
import Derived.Test.YteafbimadlcljaaDoorM0
namespace Go.Proofs.YteafbimadlcljaaDoor
open Go A
set_option linter.unusedVariables false

structure ab where
  mk ::
  Op:Int
  A_:Int
  B:Int
  C_:Int
  D:Int
  Imm:Int
  Bin:Int
  To:Int
  Shared:Bool
structure bh where
  mk ::
  Regs:Int
  Steps:(List ab)
def ab.beq (x y:ab):Bool:=((x.Op==y.Op)&&((x.A_==y.A_)&&((x.B==y.B)&&((x.C_==y.C_)&&((x.D==y.D)&&((x.Imm==y.Imm)&&((x.Bin==y.Bin)&&((x.To==y.To)&&(x.Shared==y.Shared)))))))))
theorem ab.beq_eq {x y:ab} (h:ab.beq x y=true):x=y:=by
  obtain ⟨a1,a2,a3,a4,a5,a6,a7,a8,a9⟩:=x
  obtain ⟨b10,b11,b12,b13,b14,b15,b16,b17,b18⟩:=y
  unfold ab.beq at h
  simp only [Bool.and_eq_true,beq_iff_eq] at h
  simp_all
theorem ab.beq_refl (x:ab):ab.beq x x=true:=by
  unfold ab.beq
  simp
def ab.wf (x:ab):Prop:=(BN .i64 x.Op)∧(BN .i64 x.A_)∧(BN .i64 x.B)∧(BN .i64 x.C_)∧(BN .i64 x.D)∧(BN .i64 x.Imm)∧(BN .i64 x.Bin)∧(BN .i64 x.To)∧(True)
def bh.wf (x:bh):Prop:=(BN .i64 x.Regs)∧(x.Steps.length≤maxLen∧∀ z∈x.Steps,ab.wf z)
def qb (n:Nat):Option Bool:=some true
def cX (n:Nat) (op:Int):Option Int :=
 if (decide (op<1))=true then
  some 0
 else
  if (decide (op>10))=true then
   some 0
  else
   if (op==0)=true then
    some 0
   else
    if (op==1)=true then
     some 17
    else
     if (op==2)=true then
      some 3
     else
      if (op==3)=true then
       some 39
      else
       if (op==4)=true then
        some 147
       else
        if (op==5)=true then
         some 150
        else
         if (op==6)=true then
          some 159
         else
          if (op==7)=true then
           some 0
          else
           if (op==8)=true then
            some 64
           else
            if (op==9)=true then
             some 66
            else
             if (op==10)=true then
              some 2
             else
              none
def bV (n:Nat) (op:Int):Option Bool :=
 if (decide (op≥1))=true then
  some (decide (op≤10))
 else
  some false
def ef (n:Nat) (s_:ab) (regs:Int) (steps:Int):Option Bool :=
 (cX n s_.Op).bind fun y1 =>
 if (y1==0)=true then
  (bV n s_.Op).bind fun y3 =>
  if y3=true then
   if (ab.beq s_ (ab.mk s_.Op 0 0 0 0 0 0 0 false))=true then
    some true
   else
    some false
  else
   some false
 else
  if (y1==2)=true then
   if (decide (s_.B<0))=true then
    some false
   else
    if (decide (s_.B≥regs))=true then
     some false
    else
     (bV n s_.Op).bind fun y5 =>
     if y5=true then
      if (ab.beq s_ (ab.mk s_.Op 0 s_.B 0 0 0 0 0 false))=true then
       some true
      else
       some false
     else
      some false
  else
   if (y1==3)=true then
    if (decide (s_.A_<0))=true then
     some false
    else
     if (decide (s_.A_≥regs))=true then
      some false
     else
      if (decide (s_.B<0))=true then
       some false
      else
       if (decide (s_.B≥regs))=true then
        some false
       else
        (bV n s_.Op).bind fun y7 =>
        if y7=true then
         if (ab.beq s_ (ab.mk s_.Op s_.A_ s_.B 0 0 0 0 0 false))=true then
          some true
         else
          some false
        else
         some false
   else
    if (y1==17)=true then
     if (decide (s_.A_<0))=true then
      some false
     else
      if (decide (s_.A_≥regs))=true then
       some false
      else
       (bV n s_.Op).bind fun y5 =>
       if y5=true then
        if (ab.beq s_ (ab.mk s_.Op s_.A_ 0 0 0 s_.Imm 0 0 false))=true then
         some true
        else
         some false
       else
        some false
    else
     if (y1==39)=true then
      if (decide (s_.A_<0))=true then
       some false
      else
       if (decide (s_.A_≥regs))=true then
        some false
       else
        if (decide (s_.B<0))=true then
         some false
        else
         if (decide (s_.B≥regs))=true then
          some false
         else
          if (decide (s_.C_<0))=true then
           some false
          else
           if (decide (s_.C_≥regs))=true then
            some false
           else
            (bV n s_.Op).bind fun y9 =>
            if y9=true then
             if (ab.beq s_ (ab.mk s_.Op s_.A_ s_.B s_.C_ 0 0 (lK (lL s_.Bin 1) 13) 0 false))=true then
              some true
             else
              some false
            else
             some false
     else
      if (y1==64)=true then
       (bV n s_.Op).bind fun y3 =>
       if y3=true then
        if (ab.beq s_ (ab.mk s_.Op 0 0 0 0 0 0 (lK (lL s_.To 0) (b_ .i64 steps 1)) false))=true then
         some true
        else
         some false
       else
        some false
      else
       if (y1==66)=true then
        if (decide (s_.B<0))=true then
         some false
        else
         if (decide (s_.B≥regs))=true then
          some false
         else
          (bV n s_.Op).bind fun y5 =>
          if y5=true then
           if (ab.beq s_ (ab.mk s_.Op 0 s_.B 0 0 0 0 (lK (lL s_.To 0) (b_ .i64 steps 1)) false))=true then
            some true
           else
            some false
          else
           some false
       else
        if (y1==147)=true then
         if (decide (s_.A_<0))=true then
          some false
         else
          if (decide (s_.A_≥regs))=true then
           some false
          else
           if (decide (s_.B<0))=true then
            some false
           else
            if (decide (s_.B≥regs))=true then
             some false
            else
             if s_.Shared=true then
              (bV n s_.Op).bind fun y8 =>
              if y8=true then
               if (ab.beq s_ (ab.mk s_.Op s_.A_ s_.B 0 0 s_.Imm 0 0 true))=true then
                some true
               else
                some false
              else
               some false
             else
              (bV n s_.Op).bind fun y8 =>
              if y8=true then
               if (ab.beq s_ (ab.mk s_.Op s_.A_ s_.B 0 0 s_.Imm 0 0 (s_.Op==6)))=true then
                some true
               else
                some false
              else
               some false
        else
         if (y1==150)=true then
          if (decide (s_.B<0))=true then
           some false
          else
           if (decide (s_.B≥regs))=true then
            some false
           else
            if (decide (s_.C_<0))=true then
             some false
            else
             if (decide (s_.C_≥regs))=true then
              some false
             else
              if s_.Shared=true then
               (bV n s_.Op).bind fun y8 =>
               if y8=true then
                if (ab.beq s_ (ab.mk s_.Op 0 s_.B s_.C_ 0 s_.Imm 0 0 true))=true then
                 some true
                else
                 some false
               else
                some false
              else
               (bV n s_.Op).bind fun y8 =>
               if y8=true then
                if (ab.beq s_ (ab.mk s_.Op 0 s_.B s_.C_ 0 s_.Imm 0 0 (s_.Op==6)))=true then
                 some true
                else
                 some false
               else
                some false
         else
          if (y1==159)=true then
           if (decide (s_.A_<0))=true then
            some false
           else
            if (decide (s_.A_≥regs))=true then
             some false
            else
             if (decide (s_.B<0))=true then
              some false
             else
              if (decide (s_.B≥regs))=true then
               some false
              else
               if (decide (s_.C_<0))=true then
                some false
               else
                if (decide (s_.C_≥regs))=true then
                 some false
                else
                 if (decide (s_.D<0))=true then
                  some false
                 else
                  if (decide (s_.D≥regs))=true then
                   some false
                  else
                   if s_.Shared=true then
                    (bV n s_.Op).bind fun y12 =>
                    if y12=true then
                     if (ab.beq s_ (ab.mk s_.Op s_.A_ s_.B s_.C_ s_.D s_.Imm 0 0 true))=true then
                      some true
                     else
                      some false
                    else
                     some false
                   else
                    (bV n s_.Op).bind fun y12 =>
                    if y12=true then
                     if (ab.beq s_ (ab.mk s_.Op s_.A_ s_.B s_.C_ s_.D s_.Imm 0 0 (s_.Op==6)))=true then
                      some true
                     else
                      some false
                    else
                     some false
          else
           none
def jG (n:Nat) (s_:ab) (a:Int) (a_:(List ab)) (a_A:Int):Option Bool :=
 (ef n s_ a a_A).bind fun y1 =>
 some (!y1)
def bd (n:Nat) (s_:(List ab)) (f:Int) (f_:(List ab)) (f_A:Int) (sa:Int):Option (Int⊕(Unit⊕Int)) :=
 if (decide (sa<(s_.length:Int)))=true then
  (aH s_ sa).bind fun xa2 =>
  (jG n xa2 f f_ f_A).bind fun ya3 =>
  if ya3=true then
   some (.inr (.inr sa))
  else
   some (.inl (ac .i64 sa 1))
 else
  some (.inr (.inl ()))
def bI (n:Nat) (s_:(List ab)) (f:Int) (f_:(List ab)) (f_A:Int):Option Int :=
 (iter (fun s=>bd n s_ f f_ f_A s) n 0).bind fun t1 =>
 match t1 with
 | .inl w2 =>
  some (-1)
 | .inr w2 =>
  some w2
def aI (n:Nat) (s_:(List ab)) (f:Int) (f_:(List ab)) (f_A:Int):Option Bool :=
 (bI n s_ f f_ f_A).bind fun y1 =>
 some (decide (y1≥0))
def o7 (n:Nat) (n_:Int) (oA:(List (Option (List Int)))):Option (List Int) :=
 grd (decide ((0:Int)≤(cn .i64 (ac .i64 n_ 63) 64))&&decide ((cn .i64 (ac .i64 n_ 63) 64)≤(cn .i64 (ac .i64 n_ 63) 64))&&decide (8 * (cn .i64 (ac .i64 n_ 63) 64)≤140737488355328)&&decide ((cn .i64 (ac .i64 n_ 63) 64)≤140737488355328)&&Nat.blt 0 1) <|
 some (List.replicate ((cn .i64 (ac .i64 n_ 63) 64)).toNat 0)
def xm (n:Nat) (oA:(List (Option (List Int)))) (oB:Nat) (oC:(List Int)):Option Unit :=
 grd (gN oC) <|
 grd (Nat.ble (oC.length * 8) 140737488355328) <|
 some ()
def gS (n:Nat) (s_:ab):Option (Int×Bool) :=
 (cX n s_.Op).bind fun y1 =>
 if ((dY .i64 y1 1)==0)=true then
  some (0,false)
 else
  some (s_.A_,true)
def De (n:Nat) (n_:Int) (oA:(List (Option (List Int)))) (oB:(List Int)):Option (List Int) :=
 (aH oB (cn .i64 n_ 64)).bind fun x1 =>
 grd (decide ((0:Int)≤(af .i64 n_ 64))) <|
 some (oB.set ((cn .i64 n_ 64)).toNat (m3 .u64 x1 (lJ .u64 1 (af .i64 n_ 64))))
def iB (n:Nat):Option Unit :=
 some ()
def jU (n:Nat):Option Unit :=
 (iB n).bind fun y1 =>
 some ()
def cmp_isNaN_int (n:Nat) (x:Int):Option Bool :=
 some (x != x)
def cmp_Less_int (n:Nat) (x:Int) (y:Int):Option Bool :=
 (cmp_isNaN_int n x).bind fun y1 =>
 if y1=true then
  (cmp_isNaN_int n y).bind fun y3 =>
  if (!y3)=true then
   some true
  else
   some (decide (x<y))
 else
  some (decide (x<y))
def ct (n:Nat) (oA:Int) (oB:Int):Option (Int×Int) :=
 (cmp_Less_int n oB oA).bind fun y1 =>
 if y1=true then
  some (oB,oA)
 else
  some (oA,oB)
def dl (n:Nat) (oA:Int) (oB:Int):Option (Int×Int) :=
 (ct n oA oB).bind fun y1 =>
 some (y1.1,y1.2)
def bi (n:Nat) (oA:Int) (oB:Int):Option (Int×Int) :=
 (jU n).bind fun y1 =>
 (dl n oA oB).bind fun y2 =>
 some (y2.1,y2.2)
def aC (n:Nat) (oA:Int) (oB:Int):Option (Int⊕Unit) :=
 if (oB==oA)=true then
  some (.inl 0)
 else
  some (.inr ())
def bJ (n:Nat) (oA:Int) (oB:Int):Option Unit :=
 some ()
def bC (n:Nat) (oA:Int) (oB:Int):Option Unit :=
 some ()
def kp (n:Nat):Option Unit :=
 some ()
def lR (n:Nat):Option Unit :=
 (kp n).bind fun y1 =>
 some ()
def dB (n:Nat) (oA:Int):Option Unit :=
 some ()
def et (n:Nat) (oA:Int):Option Unit :=
 (dB n oA).bind fun y1 =>
 some ()
def aV (n:Nat) (oA:Int):Option Unit :=
 (lR n).bind fun y1 =>
 (et n oA).bind fun y2 =>
 some ()
def aN (n:Nat) (oA:Int):Option Unit :=
 some ()
def aW (n:Nat) (oA:Int):Option Unit :=
 some ()
def kq (n:Nat):Option Unit :=
 some ()
def lS (n:Nat):Option Unit :=
 (kq n).bind fun y1 =>
 some ()
def dD (n:Nat):Option Unit :=
 some ()
def eu (n:Nat):Option Unit :=
 (dD n).bind fun y1 =>
 some ()
def aK (n:Nat):Option Unit :=
 (lS n).bind fun y1 =>
 (eu n).bind fun y2 =>
 some ()
def ay (n:Nat):Option Unit :=
 some ()
def aL (n:Nat):Option Unit :=
 some ()
def ev (n:Nat) (c:bh) (at_:Int):Option (List Int) :=
 if (decide (at_<0))=true then
  some ([]:List Int)
 else
  if (decide (at_≥(c.Steps.length:Int)))=true then
   some ([]:List Int)
  else
   (aH c.Steps at_).bind fun x3 =>
   if (x3.Op != 8)=true then
    if (x3.Op != 10)=true then
     if (decide ((ac .i64 at_ 1)<(c.Steps.length:Int)))=true then
      (cX n x3.Op).bind fun y7 =>
      if ((dY .i64 y7 64) != 0)=true then
       if (decide (x3.To≥0))=true then
        if (decide (x3.To<(c.Steps.length:Int)))=true then
         (bi n (ac .i64 at_ 1) x3.To).bind fun y11 =>
         (aC n y11.1 y11.2).bind fun y12 =>
         match y12 with
         | .inl wa13 =>
          (bJ n y11.1 wa13).bind fun y14 =>
          some ([y11.1]:List Int)
         | .inr wb13 =>
          (bC n y11.1 y11.2).bind fun y14 =>
          some ([y11.1,y11.2]:List Int)
        else
         (aV n (ac .i64 at_ 1)).bind fun y11 =>
         (aN n (ac .i64 at_ 1)).bind fun y12 =>
         (aW n (ac .i64 at_ 1)).bind fun y13 =>
         some ([(ac .i64 at_ 1)]:List Int)
       else
        (aV n (ac .i64 at_ 1)).bind fun y10 =>
        (aN n (ac .i64 at_ 1)).bind fun y11 =>
        (aW n (ac .i64 at_ 1)).bind fun y12 =>
        some ([(ac .i64 at_ 1)]:List Int)
      else
       (aV n (ac .i64 at_ 1)).bind fun y9 =>
       (aN n (ac .i64 at_ 1)).bind fun y10 =>
       (aW n (ac .i64 at_ 1)).bind fun y11 =>
       some ([(ac .i64 at_ 1)]:List Int)
     else
      (cX n x3.Op).bind fun y7 =>
      if ((dY .i64 y7 64) != 0)=true then
       if (decide (x3.To≥0))=true then
        if (decide (x3.To<(c.Steps.length:Int)))=true then
         (aV n x3.To).bind fun y11 =>
         (aN n x3.To).bind fun y12 =>
         (aW n x3.To).bind fun y13 =>
         some ([x3.To]:List Int)
        else
         (aK n).bind fun y11 =>
         (ay n).bind fun y12 =>
         (aL n).bind fun y13 =>
         some ([]:List Int)
       else
        (aK n).bind fun y10 =>
        (ay n).bind fun y11 =>
        (aL n).bind fun y12 =>
        some ([]:List Int)
      else
       (aK n).bind fun y9 =>
       (ay n).bind fun y10 =>
       (aL n).bind fun y11 =>
       some ([]:List Int)
    else
     (cX n x3.Op).bind fun y6 =>
     if ((dY .i64 y6 64) != 0)=true then
      if (decide (x3.To≥0))=true then
       if (decide (x3.To<(c.Steps.length:Int)))=true then
        (aV n x3.To).bind fun y10 =>
        (aN n x3.To).bind fun y11 =>
        (aW n x3.To).bind fun y12 =>
        some ([x3.To]:List Int)
       else
        (aK n).bind fun y10 =>
        (ay n).bind fun y11 =>
        (aL n).bind fun y12 =>
        some ([]:List Int)
      else
       (aK n).bind fun y9 =>
       (ay n).bind fun y10 =>
       (aL n).bind fun y11 =>
       some ([]:List Int)
     else
      (aK n).bind fun y8 =>
      (ay n).bind fun y9 =>
      (aL n).bind fun y10 =>
      some ([]:List Int)
   else
    (cX n x3.Op).bind fun y5 =>
    if ((dY .i64 y5 64) != 0)=true then
     if (decide (x3.To≥0))=true then
      if (decide (x3.To<(c.Steps.length:Int)))=true then
       (aV n x3.To).bind fun y9 =>
       (aN n x3.To).bind fun y10 =>
       (aW n x3.To).bind fun y11 =>
       some ([x3.To]:List Int)
      else
       (aK n).bind fun y9 =>
       (ay n).bind fun y10 =>
       (aL n).bind fun y11 =>
       some ([]:List Int)
     else
      (aK n).bind fun y8 =>
      (ay n).bind fun y9 =>
      (aL n).bind fun y10 =>
      some ([]:List Int)
    else
     (aK n).bind fun y7 =>
     (ay n).bind fun y8 =>
     (aL n).bind fun y9 =>
     some ([]:List Int)
def v4 (n:Nat) (oA:(List (Option (List Int)))) (oB:(List Int)):Option Unit :=
 grd (gN oB) <|
 grd (Nat.ble (oB.length * 8) 140737488355328) <|
 some ()
def o8 (n:Nat) (oA:(List (Option (List Int)))) (oB:Nat) (oC:(List Int)) (sa:(List Int)×Bool×Int):Option (((List Int)×Bool×Int)⊕((List Int)×Bool)) :=
 if (decide (sa.2.2<(oC.length:Int)))=true then
  (aH oC sa.2.2).bind fun xa2 =>
  if sa.2.1=true then
   (aH sa.1 sa.2.2).bind fun xa4 =>
   some (.inl ((sa.1.set (sa.2.2).toNat (dY .u64 xa4 xa2)),true,(ac .i64 sa.2.2 1)))
  else
   (aH sa.1 sa.2.2).bind fun xa4 =>
   some (.inl ((sa.1.set (sa.2.2).toNat (dY .u64 xa4 xa2)),((dY .u64 xa4 xa2) != xa4),(ac .i64 sa.2.2 1)))
 else
  some (.inr (sa.1,sa.2.1))
def BP (n:Nat) (oA:(List (Option (List Int)))) (oB:Nat) (oC:(List Int)) (oD:(List Int)):Option (Bool×(List Int)) :=
 (iter (fun s=>o8 n oA oB oC s) n (oD,false,0)).bind fun t1 =>
 some (t1.2,t1.1)
def dm (n:Nat) (oA:(List (Option (List Int)))) (oB:(List Int)) (oC:(List Int)):Option Unit :=
 grd (gN oC) <|
 grd (Nat.ble (oC.length * 8) 140737488355328) <|
 some ()
def fQ (n:Nat) (oA:(List (Option (List Int)))) (oB:Nat) (oC:(List Int)) (oD:(List Int)) (sa:(List Int)×Bool×Int):Option (((List Int)×Bool×Int)⊕((List Int)×Bool)) :=
 if (decide (sa.2.2<(oD.length:Int)))=true then
  (aH oD sa.2.2).bind fun xa2 =>
  if sa.2.1=true then
   (aH sa.1 sa.2.2).bind fun xa4 =>
   some (.inl ((sa.1.set (sa.2.2).toNat (dY .u64 xa4 xa2)),true,(ac .i64 sa.2.2 1)))
  else
   (aH sa.1 sa.2.2).bind fun xa4 =>
   some (.inl ((sa.1.set (sa.2.2).toNat (dY .u64 xa4 xa2)),((dY .u64 xa4 xa2) != xa4),(ac .i64 sa.2.2 1)))
 else
  some (.inr (sa.1,sa.2.1))
def iC (n:Nat) (oA:(List (Option (List Int)))) (oB:Nat) (oC:(List Int)) (oD:(List Int)) (oE:(List Int)):Option (Bool×(List Int)) :=
 (iter (fun s=>fQ n oA oB oC oD s) n (oE,false,0)).bind fun t1 =>
 some (t1.2,t1.1)
def dp (n:Nat) (oA:(List (Option (List Int)))) (oB:Nat) (oC:(List Int)) (oD:(List Int)):Option Unit :=
 grd (gN oD) <|
 grd (Nat.ble (oD.length * 8) 140737488355328) <|
 some ()
def gh (n:Nat) (n_:Int) (oA:(List (Option (List Int)))) (oB:(List Int)) (oC:(List Int)):Option (List Int) :=
 (aH oC (cn .i64 n_ 64)).bind fun x1 =>
 grd (decide ((0:Int)≤(af .i64 n_ 64))) <|
 some (oC.set ((cn .i64 n_ 64)).toNat (m3 .u64 x1 (lJ .u64 1 (af .i64 n_ 64))))
def fa (n:Nat):Option Unit :=
 some ()
def gi (n:Nat):Option Unit :=
 (fa n).bind fun y1 =>
 some ()
def bD (n:Nat) (oA:Int) (oB:Int) (oC:Int):Option (Int×Int×Int) :=
 (cmp_Less_int n oB oA).bind fun y1 =>
 if y1=true then
  (cmp_Less_int n oC oA).bind fun y3 =>
  if y3=true then
   (cmp_Less_int n oC oB).bind fun y5 =>
   if y5=true then
    some (oC,oB,oA)
   else
    some (oB,oC,oA)
  else
   some (oB,oA,oC)
 else
  (cmp_Less_int n oC oB).bind fun y3 =>
  if y3=true then
   (cmp_Less_int n oC oA).bind fun y5 =>
   if y5=true then
    some (oC,oA,oB)
   else
    some (oA,oC,oB)
  else
   some (oA,oB,oC)
def cf (n:Nat) (oA:Int) (oB:Int) (oC:Int):Option (Int×Int×Int) :=
 (bD n oA oB oC).bind fun y1 =>
 some (y1.1,y1.2.1,y1.2.2)
def bp (n:Nat) (oA:Int) (oB:Int) (oC:Int):Option (Int×Int×Int) :=
 (gi n).bind fun y1 =>
 (cf n oA oB oC).bind fun y2 =>
 some (y2.1,y2.2.1,y2.2.2)
def bn (n:Nat) (oA:Int) (oB:Int) (oC:Int):Option ((Int×Int)⊕((Int×Int)⊕Unit)) :=
 if (oB==oA)=true then
  if (oC != oB)=true then
   some (.inl (oC,0))
  else
   some (.inr (.inl (0,0)))
 else
  if (oC==oB)=true then
   some (.inl (oB,0))
  else
   some (.inr (.inr ()))
def dq (n:Nat) (oA:Int) (oB:Int) (oC:Int):Option Unit :=
 some ()
def dr (n:Nat) (oA:Int) (oB:Int) (oC:Int):Option Unit :=
 some ()
def du (n:Nat) (oA:Int) (oB:Int) (oC:Int):Option Unit :=
 some ()
def dy (n:Nat) (s_:ab):Option (List Int) :=
 (cX n s_.Op).bind fun y1 =>
 if (y1==0)=true then
  (aK n).bind fun y3 =>
  (ay n).bind fun y4 =>
  (aL n).bind fun y5 =>
  some ([]:List Int)
 else
  if (y1==2)=true then
   (aV n s_.B).bind fun y3 =>
   (aN n s_.B).bind fun y4 =>
   (aW n s_.B).bind fun y5 =>
   some ([s_.B]:List Int)
  else
   if (y1==3)=true then
    (aV n s_.B).bind fun y3 =>
    (aN n s_.B).bind fun y4 =>
    (aW n s_.B).bind fun y5 =>
    some ([s_.B]:List Int)
   else
    if (y1==17)=true then
     (aK n).bind fun y3 =>
     (ay n).bind fun y4 =>
     (aL n).bind fun y5 =>
     some ([]:List Int)
    else
     if (y1==39)=true then
      (bi n s_.B s_.C_).bind fun y3 =>
      (aC n y3.1 y3.2).bind fun y4 =>
      match y4 with
      | .inl wa5 =>
       (bJ n y3.1 wa5).bind fun y6 =>
       some ([y3.1]:List Int)
      | .inr wb5 =>
       (bC n y3.1 y3.2).bind fun y6 =>
       some ([y3.1,y3.2]:List Int)
     else
      if (y1==64)=true then
       (aK n).bind fun y3 =>
       (ay n).bind fun y4 =>
       (aL n).bind fun y5 =>
       some ([]:List Int)
      else
       if (y1==66)=true then
        (aV n s_.B).bind fun y3 =>
        (aN n s_.B).bind fun y4 =>
        (aW n s_.B).bind fun y5 =>
        some ([s_.B]:List Int)
       else
        if (y1==147)=true then
         (aV n s_.B).bind fun y3 =>
         (aN n s_.B).bind fun y4 =>
         (aW n s_.B).bind fun y5 =>
         some ([s_.B]:List Int)
        else
         if (y1==150)=true then
          (bi n s_.B s_.C_).bind fun y3 =>
          (aC n y3.1 y3.2).bind fun y4 =>
          match y4 with
          | .inl wa5 =>
           (bJ n y3.1 wa5).bind fun y6 =>
           some ([y3.1]:List Int)
          | .inr wb5 =>
           (bC n y3.1 y3.2).bind fun y6 =>
           some ([y3.1,y3.2]:List Int)
         else
          if (y1==159)=true then
           (bp n s_.B s_.C_ s_.D).bind fun y3 =>
           (bn n y3.1 y3.2.1 y3.2.2).bind fun y4 =>
           match y4 with
           | .inl wa5 =>
            (dq n y3.1 wa5.1 wa5.2).bind fun y6 =>
            some ([y3.1,wa5.1]:List Int)
           | .inr (.inl wb5) =>
            (dr n y3.1 wb5.1 wb5.2).bind fun y6 =>
            some ([y3.1]:List Int)
           | .inr (.inr wc5) =>
            (du n y3.1 y3.2.1 y3.2.2).bind fun y6 =>
            some ([y3.1,y3.2.1,y3.2.2]:List Int)
          else
           none
def fV (n:Nat) (s_:(List Int)) (n_:Int):Option Bool :=
 (aH s_ (cn .i64 n_ 64)).bind fun x1 =>
 grd (decide ((0:Int)≤(af .i64 n_ 64))) <|
 some ((dY .u64 (AN .u64 x1 (af .i64 n_ 64)) 1)==1)
def c_ (n:Nat) (r_:Int) (oA:(List (Option (List Int)))) (oB:Nat) (oC:Int) (oD:(List Int)):Option Bool :=
 (aH oA oC).bind fun x1 =>
 grd (Nat.beq ((oC).toNat) oB&&Nat.blt oB oA.length) <|
 (fV n oD r_).bind fun y3 =>
 some (!y3)
def bB (n:Nat) (s_:(List Int)) (oA:(List (Option (List Int)))) (oB:Nat) (oC:Int) (oD:(List Int)) (sa:Int):Option (Int⊕(Unit⊕Int)) :=
 if (decide (sa<(s_.length:Int)))=true then
  (aH s_ sa).bind fun xa2 =>
  (c_ n xa2 oA oB oC oD).bind fun ya3 =>
  if ya3=true then
   some (.inr (.inr sa))
  else
   some (.inl (ac .i64 sa 1))
 else
  some (.inr (.inl ()))
def cw (n:Nat) (s_:(List Int)) (oA:(List (Option (List Int)))) (oB:Nat) (oC:Int) (oD:(List Int)):Option Int :=
 (iter (fun s=>bB n s_ oA oB oC oD s) n 0).bind fun t1 =>
 match t1 with
 | .inl w2 =>
  some (-1)
 | .inr w2 =>
  some w2
def bj (n:Nat) (s_:(List Int)) (oA:(List (Option (List Int)))) (oB:Nat) (oC:Int) (oD:(List Int)):Option Bool :=
 (cw n s_ oA oB oC oD).bind fun y1 =>
 some (decide (y1≥0))
def bO (n:Nat) (c:bh) (sb:(List (Option (List Int)))×(List Int)×(List Int)×(List Int)×Int×Int):Option (((List (Option (List Int)))×(List Int)×(List Int)×(List Int)×Int×Int)⊕((List (Option (List Int)))×(List Int))) :=
 if (decide (sb.2.2.2.2.2<sb.2.2.2.2.1))=true then
  (aH sb.2.2.2.1 sb.2.2.2.2.2).bind fun xb2 =>
  (aH sb.1 xb2).bind fun xb3 =>
  matchO xb3 (
   (dm n sb.1 sb.2.1 sb.2.2.1).bind fun yb5 =>
   grd (Nat.ble ((sb.2.1.length + 1) * 8) 140737488355328) <|
   some (.inl ((sb.1.set (xb2).toNat (some sb.2.2.1)),(sb.2.1++([xb2]:List Int)),sb.2.2.1,sb.2.2.2.1,sb.2.2.2.2.1,(ac .i64 sb.2.2.2.2.2 1)))) fun zb4 =>
   grd (gN zb4) <|
   (iC n sb.1 ((xb2).toNat) sb.2.1 sb.2.2.1 zb4).bind fun yb7 =>
   if (!yb7.1)=true then
    some (.inl ((sb.1.set (xb2).toNat (some yb7.2)),sb.2.1,sb.2.2.1,sb.2.2.2.1,sb.2.2.2.2.1,(ac .i64 sb.2.2.2.2.2 1)))
   else
    grd (Nat.ble ((sb.2.1.length + 1) * 8) 140737488355328) <|
    some (.inl ((sb.1.set (xb2).toNat (some yb7.2)),(sb.2.1++([xb2]:List Int)),sb.2.2.1,sb.2.2.2.1,sb.2.2.2.2.1,(ac .i64 sb.2.2.2.2.2 1)))
 else
  some (.inr (sb.1,sb.2.1))
def dE (n:Nat) (c:bh) (sa:(List (Option (List Int)))×(List Int)):Option (((List (Option (List Int)))×(List Int))⊕((List (Option (List Int))))) :=
 if (decide ((sa.2.length:Int)>0))=true then
  (aH sa.2 (b_ .i64 (sa.2.length:Int) 1)).bind fun xa2 =>
  grd (decide ((0:Int)≤(b_ .i64 (sa.2.length:Int) 1))&&decide ((b_ .i64 (sa.2.length:Int) 1)≤(sa.2.length:Int))) <|
  (aH sa.1 xa2).bind fun xa4 =>
  matchO xa4 (
   none) fun za5 =>
   (dp n sa.1 ((xa2).toNat) (sa.2.take (((b_ .i64 (sa.2.length:Int) 1)).toNat)) za5).bind fun ya7 =>
   (aH c.Steps xa2).bind fun xa8 =>
   (gS n xa8).bind fun ya9 =>
   if ya9.2=true then
    (gh n ya9.1 (sa.1.set (xa2).toNat (some za5)) (sa.2.take (((b_ .i64 (sa.2.length:Int) 1)).toNat)) za5).bind fun ya11 =>
    (ev n c xa2).bind fun ya12 =>
    (iter (fun s=>bO n c s) n ((sa.1.set (xa2).toNat (some za5)),(sa.2.take (((b_ .i64 (sa.2.length:Int) 1)).toNat)),ya11,ya12,(ya12.length:Int),0)).bind fun ta13 =>
    some (.inl (ta13.1,ta13.2))
   else
    (ev n c xa2).bind fun ya11 =>
    (iter (fun s=>bO n c s) n ((sa.1.set (xa2).toNat (some za5)),(sa.2.take (((b_ .i64 (sa.2.length:Int) 1)).toNat)),za5,ya11,(ya11.length:Int),0)).bind fun ta12 =>
    some (.inl (ta12.1,ta12.2))
 else
  some (.inr sa.1)
def dG (n:Nat) (c:bh) (sa:(List (Option (List Int)))×Int):Option (((List (Option (List Int)))×Int)⊕(Unit⊕Unit)) :=
 if (decide (sa.2<(c.Steps.length:Int)))=true then
  (aH c.Steps sa.2).bind fun xa2 =>
  (aH sa.1 sa.2).bind fun xa3 =>
  matchO xa3 (
   some (.inl (sa.1,(ac .i64 sa.2 1)))) fun za4 =>
   grd (gN za4) <|
   (dy n xa2).bind fun ya7 =>
   (bj n ya7 sa.1 ((sa.2).toNat) sa.2 za4).bind fun ya8 =>
   if ya8=true then
    some (.inr (.inr ()))
   else
    some (.inl ((sa.1.set (sa.2).toNat (some za4)),(ac .i64 sa.2 1)))
 else
  some (.inr (.inl ()))
def cM (n:Nat) (c:bh):Option Bool :=
 grd (decide ((0:Int)≤(c.Steps.length:Int))&&decide ((c.Steps.length:Int)≤(c.Steps.length:Int))&&decide (24 * (c.Steps.length:Int)≤140737488355328)&&decide ((c.Steps.length:Int)≤140737488355328)&&Nat.blt 0 1) <|
 (o7 n c.Regs (List.replicate ((c.Steps.length:Int)).toNat (none:Option (List Int)))).bind fun y2 =>
 (aH (List.replicate ((c.Steps.length:Int)).toNat (none:Option (List Int))) 0).bind fun x3 =>
 (iter (fun s=>dE n c s) n (((List.replicate ((c.Steps.length:Int)).toNat (none:Option (List Int))).set 0 (some y2)),([0]:List Int))).bind fun t4 =>
 (iter (fun s=>dG n c s) n (t4,0)).bind fun t5 =>
 match t5 with
 | .inl w6 =>
  some true
 | .inr w6 =>
  some false
def fW (n:Nat) (c:bh):Option Int :=
 if (decide (c.Regs<0))=true then
  some 2
 else
  if (decide (c.Regs>1024))=true then
   some 2
  else
   if (decide ((c.Steps.length:Int)<1))=true then
    some 2
   else
    if (decide ((c.Steps.length:Int)>4096))=true then
     some 2
    else
     (aH c.Steps (b_ .i64 (c.Steps.length:Int) 1)).bind fun x5 =>
     if (x5.Op != 8)=true then
      if (x5.Op != 10)=true then
       some 2
      else
       (aI n c.Steps c.Regs c.Steps (c.Steps.length:Int)).bind fun y8 =>
       if y8=true then
        some 2
       else
        if (decide (c.Regs>0))=true then
         (cM n c).bind fun y11 =>
         if (!y11)=true then
          some 2
         else
          some 0
        else
         some 0
     else
      (aI n c.Steps c.Regs c.Steps (c.Steps.length:Int)).bind fun y7 =>
      if y7=true then
       some 2
      else
       if (decide (c.Regs>0))=true then
        (cM n c).bind fun y10 =>
        if (!y10)=true then
         some 2
        else
         some 0
       else
        some 0
def o9 (n:Nat) (n_:Int) (m:Int):Option Int :=
 if (decide (m<1))=true then
  some 0
 else
  grd (decide (IntKind.i64=IntKind.i64)&&!(m==0)) <|
  if (decide ((af .i64 n_ m)<0))=true then
   some (ac .i64 (af .i64 n_ m) m)
  else
   some (af .i64 n_ m)
def gj (n:Nat) (l:(List ab)):Option Unit :=
 grd (Nat.ble (l.length * 72) 140737488355328) <|
 some ()
def iP (n:Nat) (c:bh):Option (Int×(List ab)) :=
 (gj n c.Steps).bind fun y1 =>
 some (c.Regs,c.Steps)
def FE (n:Nat) (n_:Int) (oA:(List (Option (List Int)))) (oB:(List (Option (List Int)))):Option (List Int) :=
 grd (decide ((0:Int)≤(cn .i64 (ac .i64 n_ 63) 64))&&decide ((cn .i64 (ac .i64 n_ 63) 64)≤(cn .i64 (ac .i64 n_ 63) 64))&&decide (8 * (cn .i64 (ac .i64 n_ 63) 64)≤140737488355328)&&decide ((cn .i64 (ac .i64 n_ 63) 64)≤140737488355328)&&Nat.blt 0 1) <|
 some (List.replicate ((cn .i64 (ac .i64 n_ 63) 64)).toNat 0)
def kr (n:Nat) (n_:Int) (oA:(List (Option (List Int)))) (oB:(List (Option (List Int)))) (oC:(List Int)):Option (List Int) :=
 grd (decide ((0:Int)≤(cn .i64 (ac .i64 n_ 63) 64))&&decide ((cn .i64 (ac .i64 n_ 63) 64)≤(cn .i64 (ac .i64 n_ 63) 64))&&decide (8 * (cn .i64 (ac .i64 n_ 63) 64)≤140737488355328)&&decide ((cn .i64 (ac .i64 n_ 63) 64)≤140737488355328)&&Nat.blt 0 1) <|
 some (List.replicate ((cn .i64 (ac .i64 n_ 63) 64)).toNat 0)
def gk (n:Nat) (oA:(List (Option (List Int)))) (oB:Nat) (oC:(List (Option (List Int)))) (oD:(List Int)) (oF:(List Int)) (sa:(List Int)×Bool×Int):Option (((List Int)×Bool×Int)⊕((List Int)×Bool)) :=
 if (decide (sa.2.2<(oF.length:Int)))=true then
  (aH oF sa.2.2).bind fun xa2 =>
  if sa.2.1=true then
   (aH sa.1 sa.2.2).bind fun xa4 =>
   some (.inl ((sa.1.set (sa.2.2).toNat (m3 .u64 xa4 xa2)),true,(ac .i64 sa.2.2 1)))
  else
   (aH sa.1 sa.2.2).bind fun xa4 =>
   some (.inl ((sa.1.set (sa.2.2).toNat (m3 .u64 xa4 xa2)),((m3 .u64 xa4 xa2) != xa4),(ac .i64 sa.2.2 1)))
 else
  some (.inr (sa.1,sa.2.1))
def i6 (n:Nat) (oA:(List (Option (List Int)))) (oB:Nat) (oC:(List (Option (List Int)))) (oD:(List Int)) (oE:(List Int)) (oF:(List Int)):Option (Bool×(List Int)) :=
 (iter (fun s=>gk n oA oB oC oD oF s) n (oE,false,0)).bind fun t1 =>
 some (t1.2,t1.1)
def gl (n:Nat) (n_:Int) (oA:(List (Option (List Int)))) (oB:(List (Option (List Int)))) (oC:(List Int)) (oD:(List Int)):Option (List Int) :=
 (aH oD (cn .i64 n_ 64)).bind fun x1 =>
 grd (decide ((0:Int)≤(af .i64 n_ 64))) <|
 some (oD.set ((cn .i64 n_ 64)).toNat (kO .u64 x1 (lJ .u64 1 (af .i64 n_ 64))))
def gm (n:Nat) (n_:Int) (oA:(List (Option (List Int)))) (oB:(List (Option (List Int)))) (oC:(List Int)) (oD:(List Int)):Option (List Int) :=
 (aH oD (cn .i64 n_ 64)).bind fun x1 =>
 grd (decide ((0:Int)≤(af .i64 n_ 64))) <|
 some (oD.set ((cn .i64 n_ 64)).toNat (m3 .u64 x1 (lJ .u64 1 (af .i64 n_ 64))))
def fR (n:Nat) (oA:(List (Option (List Int)))) (oB:Nat) (oC:(List (Option (List Int)))) (oD:(List Int)) (oE:(List Int)) (sa:(List Int)×Bool×Int):Option (((List Int)×Bool×Int)⊕((List Int)×Bool)) :=
 if (decide (sa.2.2<(oE.length:Int)))=true then
  (aH oE sa.2.2).bind fun xa2 =>
  if sa.2.1=true then
   (aH sa.1 sa.2.2).bind fun xa4 =>
   some (.inl ((sa.1.set (sa.2.2).toNat (m3 .u64 xa4 xa2)),true,(ac .i64 sa.2.2 1)))
  else
   (aH sa.1 sa.2.2).bind fun xa4 =>
   some (.inl ((sa.1.set (sa.2.2).toNat (m3 .u64 xa4 xa2)),((m3 .u64 xa4 xa2) != xa4),(ac .i64 sa.2.2 1)))
 else
  some (.inr (sa.1,sa.2.1))
def cz (n:Nat) (oA:(List (Option (List Int)))) (oB:Nat) (oC:(List (Option (List Int)))) (oD:(List Int)) (oE:(List Int)) (oF:(List Int)):Option (Bool×(List Int)) :=
 (iter (fun s=>fR n oA oB oC oD oE s) n (oF,false,0)).bind fun t1 =>
 some (t1.2,t1.1)
def eL (n:Nat) (n_:Int) (oA:(List (Option (List Int)))) (oB:Nat) (oC:(List (Option (List Int)))) (oD:(List Int)) (sa:(List Int)×Int):Option (((List Int)×Int)⊕((List Int))) :=
 if (decide (sa.2<n_))=true then
  (fV n oD sa.2).bind fun ya2 =>
  if ya2=true then
   grd (Nat.ble ((sa.1.length + 1) * 8) 140737488355328) <|
   some (.inl ((sa.1++([sa.2]:List Int)),(ac .i64 sa.2 1)))
  else
   some (.inl (sa.1,(ac .i64 sa.2 1)))
 else
  some (.inr sa.1)
def eP (n:Nat) (n_:Int) (oA:(List (Option (List Int)))) (oB:Nat) (oC:(List (Option (List Int)))) (oD:(List Int)):Option (List Int) :=
 (iter (fun s=>eL n n_ oA oB oC oD s) n (([]:List Int),0)).bind fun t1 =>
 some t1
def ig (n:Nat) (c:bh) (ya5:(List Int)) (sb:(List (Option (List Int)))×(List (Option (List Int)))×(List Int)×Int×Int×Int):Option (((List (Option (List Int)))×(List (Option (List Int)))×(List Int)×Int×Int×Int)⊕((List (Option (List Int)))×(List (Option (List Int)))×(List Int)×Int)) :=
 if (decide (sb.2.2.2.2.1<(ya5.length:Int)))=true then
  (aH ya5 sb.2.2.2.2.1).bind fun xb2 =>
  (aH sb.2.1 xb2).bind fun xb3 =>
  matchO xb3 (
   some (.inl (sb.1,(sb.2.1.set (xb2).toNat (some ([sb.2.2.2.2.2]:List Int))),sb.2.2.1,sb.2.2.2.1,(ac .i64 sb.2.2.2.2.1 1),sb.2.2.2.2.2))) fun zb4 =>
   grd (Nat.ble ((zb4.length + 1) * 8) 140737488355328) <|
   some (.inl (sb.1,(sb.2.1.set (xb2).toNat (some (zb4++([sb.2.2.2.2.2]:List Int)))),sb.2.2.1,sb.2.2.2.1,(ac .i64 sb.2.2.2.2.1 1),sb.2.2.2.2.2))
 else
  some (.inr (sb.1,sb.2.1,sb.2.2.1,sb.2.2.2.1))
def ij (n:Nat) (c:bh) (sa:(List (Option (List Int)))×(List (Option (List Int)))×(List Int)×Int):Option (((List (Option (List Int)))×(List (Option (List Int)))×(List Int)×Int)⊕((List (Option (List Int)))×(List (Option (List Int)))×(List Int))) :=
 if (decide (sa.2.2.2<(c.Steps.length:Int)))=true then
  (kr n c.Regs sa.1 sa.2.1 sa.2.2.1).bind fun ya2 =>
  (aH sa.1 sa.2.2.2).bind fun xa3 =>
  grd (Nat.ble ((sa.2.2.1.length + 1) * 8) 140737488355328) <|
  (ev n c sa.2.2.2).bind fun ya5 =>
  (iter (fun s=>ig n c ya5 s) n ((sa.1.set (sa.2.2.2).toNat (some ya2)),sa.2.1,(sa.2.2.1++([sa.2.2.2]:List Int)),sa.2.2.2,0,sa.2.2.2)).bind fun ta6 =>
  some (.inl (ta6.1,ta6.2.1,ta6.2.2.1,(ac .i64 ta6.2.2.2 1)))
 else
  some (.inr (sa.1,sa.2.1,sa.2.2.1))
def ik (n:Nat) (c:bh) (t15:((List (Option (List Int)))×(List (Option (List Int)))×(List Int))) (xa2:Int) (ya5:(List Int)) (sb:(List (Option (List Int)))×(List Int)×(List Int)×Int):Option (((List (Option (List Int)))×(List Int)×(List Int)×Int)⊕((List (Option (List Int)))×(List Int)×(List Int))) :=
 if (decide (sb.2.2.2<(ya5.length:Int)))=true then
  (aH ya5 sb.2.2.2).bind fun xb2 =>
  (aH sb.1 xb2).bind fun xb3 =>
  matchO xb3 (
   none) fun zb4 =>
   (i6 n sb.1 ((xb2).toNat) t15.2.1 sb.2.1 sb.2.2.1 zb4).bind fun yb6 =>
   some (.inl ((sb.1.set (xb2).toNat (some zb4)),sb.2.1,yb6.2,(ac .i64 sb.2.2.2 1)))
 else
  some (.inr (sb.1,sb.2.1,sb.2.2.1))
def ed (n:Nat) (c:bh) (t15:((List (Option (List Int)))×(List (Option (List Int)))×(List Int))) (xa2:Int) (ta6:((List (Option (List Int)))×(List Int)×(List Int))) (sb:(List Int)×(List Int)×(List Int)×Int×Int):Option (((List Int)×(List Int)×(List Int)×Int×Int)⊕((List Int)×(List Int))) :=
 if (decide (sb.2.2.2.2<sb.2.2.2.1))=true then
  (aH sb.2.2.1 sb.2.2.2.2).bind fun xb2 =>
  (gm n xb2 ta6.1 t15.2.1 sb.1 sb.2.1).bind fun yb3 =>
  some (.inl (sb.1,yb3,sb.2.2.1,sb.2.2.2.1,(ac .i64 sb.2.2.2.2 1)))
 else
  some (.inr (sb.1,sb.2.1))
def il (n:Nat) (c:bh) (t15:((List (Option (List Int)))×(List (Option (List Int)))×(List Int))) (sa:(List (Option (List Int)))×(List Int)):Option (((List (Option (List Int)))×(List Int))⊕((List (Option (List Int))))) :=
 if (decide ((sa.2.length:Int)>0))=true then
  (aH sa.2 (b_ .i64 (sa.2.length:Int) 1)).bind fun xa2 =>
  grd (decide ((0:Int)≤(b_ .i64 (sa.2.length:Int) 1))&&decide ((b_ .i64 (sa.2.length:Int) 1)≤(sa.2.length:Int))) <|
  (kr n c.Regs sa.1 t15.2.1 (sa.2.take (((b_ .i64 (sa.2.length:Int) 1)).toNat))).bind fun ya4 =>
  (ev n c xa2).bind fun ya5 =>
  (iter (fun s=>ik n c t15 xa2 ya5 s) n (sa.1,(sa.2.take (((b_ .i64 (sa.2.length:Int) 1)).toNat)),ya4,0)).bind fun ta6 =>
  (aH c.Steps xa2).bind fun xa7 =>
  (gS n xa7).bind fun ya8 =>
  if ya8.2=true then
   (gl n ya8.1 ta6.1 t15.2.1 ta6.2.1 ta6.2.2).bind fun ya10 =>
   (dy n xa7).bind fun ya11 =>
   (iter (fun s=>ed n c t15 xa2 ta6 s) n (ta6.2.1,ya10,ya11,(ya11.length:Int),0)).bind fun ta12 =>
   (aH ta6.1 xa2).bind fun xa13 =>
   matchO xa13 (
    none) fun za14 =>
    (cz n ta6.1 ((xa2).toNat) t15.2.1 ta12.1 ta12.2 za14).bind fun ya16 =>
    if ya16.1=true then
     (aH t15.2.1 xa2).bind fun xa18 =>
     matchO xa18 (
      grd (Nat.ble ((ta12.1.length + 0) * 8) 140737488355328) <|
      some (.inl ((ta6.1.set (xa2).toNat (some ya16.2)),(ta12.1++([]:List Int))))) fun za19 =>
      grd (Nat.ble ((ta12.1.length + za19.length) * 8) 140737488355328) <|
      some (.inl ((ta6.1.set (xa2).toNat (some ya16.2)),(ta12.1++za19)))
    else
     some (.inl ((ta6.1.set (xa2).toNat (some ya16.2)),ta12.1))
  else
   (dy n xa7).bind fun ya10 =>
   (iter (fun s=>ed n c t15 xa2 ta6 s) n (ta6.2.1,ta6.2.2,ya10,(ya10.length:Int),0)).bind fun ta11 =>
   (aH ta6.1 xa2).bind fun xa12 =>
   matchO xa12 (
    none) fun za13 =>
    (cz n ta6.1 ((xa2).toNat) t15.2.1 ta11.1 ta11.2 za13).bind fun ya15 =>
    if ya15.1=true then
     (aH t15.2.1 xa2).bind fun xa17 =>
     matchO xa17 (
      grd (Nat.ble ((ta11.1.length + 0) * 8) 140737488355328) <|
      some (.inl ((ta6.1.set (xa2).toNat (some ya15.2)),(ta11.1++([]:List Int))))) fun za18 =>
      grd (Nat.ble ((ta11.1.length + za18.length) * 8) 140737488355328) <|
      some (.inl ((ta6.1.set (xa2).toNat (some ya15.2)),(ta11.1++za18)))
    else
     some (.inl ((ta6.1.set (xa2).toNat (some ya15.2)),ta11.1))
 else
  some (.inr sa.1)
def im (n:Nat) (c:bh) (t16:((List (Option (List Int))))) (sa:(List (Option (List Int)))×(List (Option (List Int)))×Int):Option (((List (Option (List Int)))×(List (Option (List Int)))×Int)⊕((List (Option (List Int)))×(List (Option (List Int))))) :=
 if (decide (sa.2.2<(t16.length:Int)))=true then
  (aH sa.1 sa.2.2).bind fun xa2 =>
  matchO xa2 (
   none) fun za3 =>
   (eP n c.Regs sa.1 ((sa.2.2).toNat) sa.2.1 za3).bind fun ya5 =>
   (aH sa.2.1 sa.2.2).bind fun xa6 =>
   some (.inl ((sa.1.set (sa.2.2).toNat (some za3)),(sa.2.1.set (sa.2.2).toNat (some ya5)),(ac .i64 sa.2.2 1)))
 else
  some (.inr (sa.1,sa.2.1))
def lT (n:Nat) (c:bh):Option (List (List Int)) :=
 (fW n c).bind fun y1 =>
 if (y1 != 0)=true then
  some ([]:List (List Int))
 else
  grd (decide ((0:Int)≤(c.Steps.length:Int))&&decide ((c.Steps.length:Int)≤(c.Steps.length:Int))&&decide (24 * (c.Steps.length:Int)≤140737488355328)&&decide ((c.Steps.length:Int)≤140737488355328)&&Nat.blt 0 1) <|
  grd (decide ((0:Int)≤(c.Steps.length:Int))&&decide ((c.Steps.length:Int)≤(c.Steps.length:Int))&&decide (24 * (c.Steps.length:Int)≤140737488355328)&&decide ((c.Steps.length:Int)≤140737488355328)&&Nat.blt 0 1) <|
  (iter (fun s=>ij n c s) n ((List.replicate ((c.Steps.length:Int)).toNat (none:Option (List Int))),(List.replicate ((c.Steps.length:Int)).toNat (none:Option (List Int))),([]:List Int),0)).bind fun t15 =>
  (iter (fun s=>il n c t15 s) n (t15.1,t15.2.2)).bind fun t16 =>
  grd (decide ((0:Int)≤(t16.length:Int))&&decide ((t16.length:Int)≤(t16.length:Int))&&decide (24 * (t16.length:Int)≤140737488355328)&&decide ((t16.length:Int)≤140737488355328)&&Nat.blt 0 1) <|
  (iter (fun s=>im n c t16 s) n (t16,(List.replicate ((t16.length:Int)).toNat (none:Option (List Int))),0)).bind fun t18 =>
  some (t18.2.map gD)
def bE (n:Nat) (a:Int) (b:Int) (oA:(List (Int×Int))) (oB:(List (Int×Int))) (oC:Int) (oD:Int) (oE:Int) (oF:Int) (oG:Int) (oH:Int) (oI:Int) (oJ:Int) (oK:Bool) (oL:Int) (oM:Int) (oN:Int) (oO:Int) (oP:Int) (oQ:Int) (oR:Int) (oS:Int) (oT:Bool):Option (Bool×(List (Int×Int))×(List (Int×Int))) :=
 if (!((bT bK oA a).isSome))=true then
  if (!((bT bK oB b).isSome))=true then
   some (true,(kn bK oA a b),(kn bK oB b a))
  else
   if ((bT bK oA a).isSome)=true then
    if ((bT bK oB b).isSome)=true then
     if (((bT bK oA a).getD 0)==b)=true then
      some ((((bT bK oB b).getD 0)==a),oA,oB)
     else
      some (false,oA,oB)
    else
     some (false,oA,oB)
   else
    some (false,oA,oB)
 else
  if ((bT bK oA a).isSome)=true then
   if ((bT bK oB b).isSome)=true then
    if (((bT bK oA a).getD 0)==b)=true then
     some ((((bT bK oB b).getD 0)==a),oA,oB)
    else
     some (false,oA,oB)
   else
    some (false,oA,oB)
  else
   some (false,oA,oB)
def ew (n:Nat) (x:ab) (y:ab) (y2:Int) (sa:(List (Int×Int))×(List (Int×Int))×Int×Int×Int×Int×Int):Option (((List (Int×Int))×(List (Int×Int))×Int×Int×Int×Int×Int)⊕(((List (Int×Int))×(List (Int×Int))×Int×Int×Int×Int)⊕((List (Int×Int))×(List (Int×Int))))) :=
 if (decide (sa.2.2.2.2.2.2<4))=true then
  if (sa.2.2.2.2.2.2==0)=true then
   if ((dY .i64 y2 1)==0)=true then
    some (.inl (sa.1,sa.2.1,sa.2.2.1,sa.2.2.2.1,sa.2.2.2.2.1,sa.2.2.2.2.2.1,1))
   else
    (bE n x.A_ sa.2.2.1 sa.1 sa.2.1 x.Op x.A_ x.B x.C_ x.D x.Imm x.Bin x.To x.Shared y.Op sa.2.2.1 sa.2.2.2.1 sa.2.2.2.2.1 sa.2.2.2.2.2.1 y.Imm y.Bin y.To y.Shared).bind fun ya4 =>
    if (!ya4.1)=true then
     some (.inr (.inr (ya4.2.1,ya4.2.2)))
    else
     some (.inl (ya4.2.1,ya4.2.2,x.A_,sa.2.2.2.1,sa.2.2.2.2.1,sa.2.2.2.2.2.1,1))
  else
   if (sa.2.2.2.2.2.2==1)=true then
    if ((dY .i64 y2 2)==0)=true then
     some (.inl (sa.1,sa.2.1,sa.2.2.1,sa.2.2.2.1,sa.2.2.2.2.1,sa.2.2.2.2.2.1,2))
    else
     (bE n x.B sa.2.2.2.1 sa.1 sa.2.1 x.Op x.A_ x.B x.C_ x.D x.Imm x.Bin x.To x.Shared y.Op sa.2.2.1 sa.2.2.2.1 sa.2.2.2.2.1 sa.2.2.2.2.2.1 y.Imm y.Bin y.To y.Shared).bind fun ya4 =>
     if (!ya4.1)=true then
      some (.inr (.inr (ya4.2.1,ya4.2.2)))
     else
      some (.inl (ya4.2.1,ya4.2.2,sa.2.2.1,x.B,sa.2.2.2.2.1,sa.2.2.2.2.2.1,2))
   else
    if (sa.2.2.2.2.2.2==2)=true then
     if ((dY .i64 y2 4)==0)=true then
      some (.inl (sa.1,sa.2.1,sa.2.2.1,sa.2.2.2.1,sa.2.2.2.2.1,sa.2.2.2.2.2.1,3))
     else
      (bE n x.C_ sa.2.2.2.2.1 sa.1 sa.2.1 x.Op x.A_ x.B x.C_ x.D x.Imm x.Bin x.To x.Shared y.Op sa.2.2.1 sa.2.2.2.1 sa.2.2.2.2.1 sa.2.2.2.2.2.1 y.Imm y.Bin y.To y.Shared).bind fun ya4 =>
      if (!ya4.1)=true then
       some (.inr (.inr (ya4.2.1,ya4.2.2)))
      else
       some (.inl (ya4.2.1,ya4.2.2,sa.2.2.1,sa.2.2.2.1,x.C_,sa.2.2.2.2.2.1,3))
    else
     if (sa.2.2.2.2.2.2==3)=true then
      if ((dY .i64 y2 8)==0)=true then
       some (.inl (sa.1,sa.2.1,sa.2.2.1,sa.2.2.2.1,sa.2.2.2.2.1,sa.2.2.2.2.2.1,4))
      else
       (bE n x.D sa.2.2.2.2.2.1 sa.1 sa.2.1 x.Op x.A_ x.B x.C_ x.D x.Imm x.Bin x.To x.Shared y.Op sa.2.2.1 sa.2.2.2.1 sa.2.2.2.2.1 sa.2.2.2.2.2.1 y.Imm y.Bin y.To y.Shared).bind fun ya4 =>
       if (!ya4.1)=true then
        some (.inr (.inr (ya4.2.1,ya4.2.2)))
       else
        some (.inl (ya4.2.1,ya4.2.2,sa.2.2.1,sa.2.2.2.1,sa.2.2.2.2.1,x.D,4))
     else
      if (sa.2.2.2.2.2.2==4)=true then
       none
      else
       none
 else
  some (.inr (.inl (sa.1,sa.2.1,sa.2.2.1,sa.2.2.2.1,sa.2.2.2.2.1,sa.2.2.2.2.2.1)))
def gn (n:Nat) (x:ab) (y:ab) (oA:(List (Int×Int))) (oB:(List (Int×Int))):Option ((Bool×(List (Int×Int))×(List (Int×Int))×Int×Int×Int×Int×Int×Int×Int×Int×Bool×Int×Int×Int×Int×Int×Int×Int×Int×Bool)⊕(Bool×(List (Int×Int))×(List (Int×Int)))) :=
 if (x.Op != y.Op)=true then
  some (.inl (false,oA,oB,x.Op,x.A_,x.B,x.C_,x.D,x.Imm,x.Bin,x.To,x.Shared,y.Op,y.A_,y.B,y.C_,y.D,y.Imm,y.Bin,y.To,y.Shared))
 else
  (cX n x.Op).bind fun y2 =>
  (iter (fun s=>ew n x y y2 s) n (oA,oB,y.A_,y.B,y.C_,y.D,0)).bind fun t3 =>
  match t3 with
  | .inl w4 =>
   if (ab.beq x (ab.mk y.Op w4.2.2.1 w4.2.2.2.1 w4.2.2.2.2.1 w4.2.2.2.2.2 y.Imm y.Bin y.To y.Shared))=true then
    some (.inl (true,w4.1,w4.2.1,x.Op,x.A_,x.B,x.C_,x.D,x.Imm,x.Bin,x.To,x.Shared,y.Op,w4.2.2.1,w4.2.2.2.1,w4.2.2.2.2.1,w4.2.2.2.2.2,y.Imm,y.Bin,y.To,y.Shared))
   else
    some (.inl (false,w4.1,w4.2.1,x.Op,x.A_,x.B,x.C_,x.D,x.Imm,x.Bin,x.To,x.Shared,y.Op,w4.2.2.1,w4.2.2.2.1,w4.2.2.2.2.1,w4.2.2.2.2.2,y.Imm,y.Bin,y.To,y.Shared))
  | .inr w4 =>
   some (.inr (false,w4.1,w4.2))
def ax (n:Nat) (s1_:(List ab)) (s2_:(List ab)) (sa:(List (Int×Int))×(List (Int×Int))×Int):Option (((List (Int×Int))×(List (Int×Int))×Int)⊕(((List (Int×Int))×(List (Int×Int)))⊕((List (Int×Int))×(List (Int×Int))))) :=
 if (decide (sa.2.2<(s1_.length:Int)))=true then
  (aH s1_ sa.2.2).bind fun xa2 =>
  (aH s2_ sa.2.2).bind fun xa3 =>
  (gn n xa2 xa3 sa.1 sa.2.1).bind fun ya4 =>
  match ya4 with
  | .inl waa5 =>
   if (!waa5.1)=true then
    some (.inr (.inr (waa5.2.1,waa5.2.2.1)))
   else
    some (.inl (waa5.2.1,waa5.2.2.1,(ac .i64 sa.2.2 1)))
  | .inr wba5 =>
   if (!wba5.1)=true then
    some (.inr (.inr (wba5.2.1,wba5.2.2)))
   else
    some (.inl (wba5.2.1,wba5.2.2,(ac .i64 sa.2.2 1)))
 else
  some (.inr (.inl (sa.1,sa.2.1)))
def aS (n:Nat) (s1_:(List ab)) (s2_:(List ab)) (oA:(List (Int×Int))) (oB:(List (Int×Int))):Option (Bool×(List (Int×Int))×(List (Int×Int))) :=
 if ((s1_.length:Int) != (s2_.length:Int))=true then
  some (false,oA,oB)
 else
  (iter (fun s=>ax n s1_ s2_ s) n (oA,oB,0)).bind fun t2 =>
  match t2 with
  | .inl w3 =>
   some (true,w3.1,w3.2)
  | .inr w3 =>
   some (false,w3.1,w3.2)
def ku (n:Nat) (a:bh) (b:bh):Option Bool :=
 (aS n a.Steps b.Steps ([]:(List (Int×Int))) ([]:(List (Int×Int)))).bind fun y1 =>
 some y1.1
def bm (n:Nat) (s1_:(List ab)) (s2_:(List ab)) (sa:Int):Option (Int⊕(Unit⊕Unit)) :=
 if (decide (sa<(s1_.length:Int)))=true then
  (aH s1_ sa).bind fun xa2 =>
  (aH s2_ sa).bind fun xa3 =>
  if (!(ab.beq xa2 xa3))=true then
   some (.inr (.inr ()))
  else
   some (.inl (ac .i64 sa 1))
 else
  some (.inr (.inl ()))
def bY (n:Nat) (s1_:(List ab)) (s2_:(List ab)):Option Bool :=
 if ((s1_.length:Int) != (s2_.length:Int))=true then
  some false
 else
  (iter (fun s=>bm n s1_ s2_ s) n 0).bind fun t2 =>
  match t2 with
  | .inl w3 =>
   some true
  | .inr w3 =>
   some false
def kw (n:Nat) (a:bh) (b:bh):Option Bool :=
 if (a.Regs==b.Regs)=true then
  (bY n a.Steps b.Steps).bind fun y2 =>
  some y2
 else
  some false
def fA (n:Nat) (a:(List ab)) (b:(List ab)) (sa:Int):Option (Int⊕(Unit⊕Unit)) :=
 if (decide (sa<(a.length:Int)))=true then
  (aH a sa).bind fun xa2 =>
  (aH b sa).bind fun xa3 =>
  if (!(ab.beq xa2 xa3))=true then
   some (.inr (.inr ()))
  else
   some (.inl (ac .i64 sa 1))
 else
  some (.inr (.inl ()))
def kx (n:Nat) (a:(List ab)) (b:(List ab)):Option Bool :=
 if ((a.length:Int) != (b.length:Int))=true then
  some false
 else
  (iter (fun s=>fA n a b s) n 0).bind fun t2 =>
  match t2 with
  | .inl w3 =>
   some true
  | .inr w3 =>
   some false
def rJ (n:Nat) (a:bh) (b:bh):Option Bool :=
 if (a.Regs==b.Regs)=true then
  (kx n a.Steps b.Steps).bind fun y2 =>
  some y2
 else
  some false
def mL (n:Nat) (l:(List Int)) (n_:Int) (sa:Int):Option (Int⊕(Unit⊕Unit)) :=
 if (decide (sa<(l.length:Int)))=true then
  (aH l sa).bind fun xa2 =>
  if (xa2==n_)=true then
   some (.inr (.inr ()))
  else
   some (.inl (ac .i64 sa 1))
 else
  some (.inr (.inl ()))
def v5 (n:Nat) (l:(List Int)) (n_:Int):Option Bool :=
 (iter (fun s=>mL n l n_ s) n 0).bind fun t1 =>
 match t1 with
 | .inl w2 =>
  some false
 | .inr w2 =>
  some true
def cx (n:Nat) (c:bh) (y7:Int) (y8:(Int×(List ab))) (sa:(List ab)×Int):Option (((List ab)×Int)⊕((List ab))) :=
 if (decide (sa.2<(sa.1.length:Int)))=true then
  (aH sa.1 sa.2).bind fun xa2 =>
  (dy n xa2).bind fun ya3 =>
  (gS n xa2).bind fun ya4 =>
  if (xa2.Op==3)=true then
   if (decide ((ya3.length:Int)>0))=true then
    grd (decide (IntKind.i64=IntKind.i64)&&!(c.Regs==0)) <|
    (aH (sa.1.set (sa.2).toNat (ab.mk xa2.Op xa2.A_ (af .i64 (ac .i64 xa2.B y7) c.Regs) xa2.C_ xa2.D xa2.Imm xa2.Bin xa2.To xa2.Shared)) sa.2).bind fun xa8 =>
    grd (decide (IntKind.i64=IntKind.i64)&&!(c.Regs==0)) <|
    (aH ((sa.1.set (sa.2).toNat (ab.mk xa2.Op xa2.A_ (af .i64 (ac .i64 xa2.B y7) c.Regs) xa2.C_ xa2.D xa2.Imm xa2.Bin xa2.To xa2.Shared)).set (sa.2).toNat (ab.mk xa8.Op xa8.A_ xa8.B (af .i64 (ac .i64 xa8.C_ y7) c.Regs) xa8.D xa8.Imm xa8.Bin xa8.To xa8.Shared)) sa.2).bind fun xa10 =>
    if (xa10.Op==6)=true then
     grd (decide (IntKind.i64=IntKind.i64)&&!(c.Regs==0)) <|
     if ya4.2=true then
      (aH (((sa.1.set (sa.2).toNat (ab.mk xa2.Op xa2.A_ (af .i64 (ac .i64 xa2.B y7) c.Regs) xa2.C_ xa2.D xa2.Imm xa2.Bin xa2.To xa2.Shared)).set (sa.2).toNat (ab.mk xa8.Op xa8.A_ xa8.B (af .i64 (ac .i64 xa8.C_ y7) c.Regs) xa8.D xa8.Imm xa8.Bin xa8.To xa8.Shared)).set (sa.2).toNat (ab.mk xa10.Op xa10.A_ xa10.B xa10.C_ (af .i64 (ac .i64 xa10.D y7) c.Regs) xa10.Imm xa10.Bin xa10.To xa10.Shared)) sa.2).bind fun xa14 =>
      grd (decide (IntKind.i64=IntKind.i64)&&!(c.Regs==0)) <|
      some (.inl (((((sa.1.set (sa.2).toNat (ab.mk xa2.Op xa2.A_ (af .i64 (ac .i64 xa2.B y7) c.Regs) xa2.C_ xa2.D xa2.Imm xa2.Bin xa2.To xa2.Shared)).set (sa.2).toNat (ab.mk xa8.Op xa8.A_ xa8.B (af .i64 (ac .i64 xa8.C_ y7) c.Regs) xa8.D xa8.Imm xa8.Bin xa8.To xa8.Shared)).set (sa.2).toNat (ab.mk xa10.Op xa10.A_ xa10.B xa10.C_ (af .i64 (ac .i64 xa10.D y7) c.Regs) xa10.Imm xa10.Bin xa10.To xa10.Shared)).set (sa.2).toNat (ab.mk xa14.Op (af .i64 (ac .i64 xa14.A_ y7) c.Regs) xa14.B xa14.C_ xa14.D xa14.Imm xa14.Bin xa14.To xa14.Shared)),(ac .i64 sa.2 1)))
     else
      some (.inl ((((sa.1.set (sa.2).toNat (ab.mk xa2.Op xa2.A_ (af .i64 (ac .i64 xa2.B y7) c.Regs) xa2.C_ xa2.D xa2.Imm xa2.Bin xa2.To xa2.Shared)).set (sa.2).toNat (ab.mk xa8.Op xa8.A_ xa8.B (af .i64 (ac .i64 xa8.C_ y7) c.Regs) xa8.D xa8.Imm xa8.Bin xa8.To xa8.Shared)).set (sa.2).toNat (ab.mk xa10.Op xa10.A_ xa10.B xa10.C_ (af .i64 (ac .i64 xa10.D y7) c.Regs) xa10.Imm xa10.Bin xa10.To xa10.Shared)),(ac .i64 sa.2 1)))
    else
     if ya4.2=true then
      grd (decide (IntKind.i64=IntKind.i64)&&!(c.Regs==0)) <|
      some (.inl ((((sa.1.set (sa.2).toNat (ab.mk xa2.Op xa2.A_ (af .i64 (ac .i64 xa2.B y7) c.Regs) xa2.C_ xa2.D xa2.Imm xa2.Bin xa2.To xa2.Shared)).set (sa.2).toNat (ab.mk xa8.Op xa8.A_ xa8.B (af .i64 (ac .i64 xa8.C_ y7) c.Regs) xa8.D xa8.Imm xa8.Bin xa8.To xa8.Shared)).set (sa.2).toNat (ab.mk xa10.Op (af .i64 (ac .i64 xa10.A_ y7) c.Regs) xa10.B xa10.C_ xa10.D xa10.Imm xa10.Bin xa10.To xa10.Shared)),(ac .i64 sa.2 1)))
     else
      some (.inl (((sa.1.set (sa.2).toNat (ab.mk xa2.Op xa2.A_ (af .i64 (ac .i64 xa2.B y7) c.Regs) xa2.C_ xa2.D xa2.Imm xa2.Bin xa2.To xa2.Shared)).set (sa.2).toNat (ab.mk xa8.Op xa8.A_ xa8.B (af .i64 (ac .i64 xa8.C_ y7) c.Regs) xa8.D xa8.Imm xa8.Bin xa8.To xa8.Shared)),(ac .i64 sa.2 1)))
   else
    grd (decide (IntKind.i64=IntKind.i64)&&!(c.Regs==0)) <|
    (aH (sa.1.set (sa.2).toNat (ab.mk xa2.Op xa2.A_ xa2.B (af .i64 (ac .i64 xa2.C_ y7) c.Regs) xa2.D xa2.Imm xa2.Bin xa2.To xa2.Shared)) sa.2).bind fun xa8 =>
    if (xa8.Op==6)=true then
     grd (decide (IntKind.i64=IntKind.i64)&&!(c.Regs==0)) <|
     if ya4.2=true then
      (aH ((sa.1.set (sa.2).toNat (ab.mk xa2.Op xa2.A_ xa2.B (af .i64 (ac .i64 xa2.C_ y7) c.Regs) xa2.D xa2.Imm xa2.Bin xa2.To xa2.Shared)).set (sa.2).toNat (ab.mk xa8.Op xa8.A_ xa8.B xa8.C_ (af .i64 (ac .i64 xa8.D y7) c.Regs) xa8.Imm xa8.Bin xa8.To xa8.Shared)) sa.2).bind fun xa12 =>
      grd (decide (IntKind.i64=IntKind.i64)&&!(c.Regs==0)) <|
      some (.inl ((((sa.1.set (sa.2).toNat (ab.mk xa2.Op xa2.A_ xa2.B (af .i64 (ac .i64 xa2.C_ y7) c.Regs) xa2.D xa2.Imm xa2.Bin xa2.To xa2.Shared)).set (sa.2).toNat (ab.mk xa8.Op xa8.A_ xa8.B xa8.C_ (af .i64 (ac .i64 xa8.D y7) c.Regs) xa8.Imm xa8.Bin xa8.To xa8.Shared)).set (sa.2).toNat (ab.mk xa12.Op (af .i64 (ac .i64 xa12.A_ y7) c.Regs) xa12.B xa12.C_ xa12.D xa12.Imm xa12.Bin xa12.To xa12.Shared)),(ac .i64 sa.2 1)))
     else
      some (.inl (((sa.1.set (sa.2).toNat (ab.mk xa2.Op xa2.A_ xa2.B (af .i64 (ac .i64 xa2.C_ y7) c.Regs) xa2.D xa2.Imm xa2.Bin xa2.To xa2.Shared)).set (sa.2).toNat (ab.mk xa8.Op xa8.A_ xa8.B xa8.C_ (af .i64 (ac .i64 xa8.D y7) c.Regs) xa8.Imm xa8.Bin xa8.To xa8.Shared)),(ac .i64 sa.2 1)))
    else
     if ya4.2=true then
      grd (decide (IntKind.i64=IntKind.i64)&&!(c.Regs==0)) <|
      some (.inl (((sa.1.set (sa.2).toNat (ab.mk xa2.Op xa2.A_ xa2.B (af .i64 (ac .i64 xa2.C_ y7) c.Regs) xa2.D xa2.Imm xa2.Bin xa2.To xa2.Shared)).set (sa.2).toNat (ab.mk xa8.Op (af .i64 (ac .i64 xa8.A_ y7) c.Regs) xa8.B xa8.C_ xa8.D xa8.Imm xa8.Bin xa8.To xa8.Shared)),(ac .i64 sa.2 1)))
     else
      some (.inl ((sa.1.set (sa.2).toNat (ab.mk xa2.Op xa2.A_ xa2.B (af .i64 (ac .i64 xa2.C_ y7) c.Regs) xa2.D xa2.Imm xa2.Bin xa2.To xa2.Shared)),(ac .i64 sa.2 1)))
  else
   if (xa2.Op==5)=true then
    if (decide ((ya3.length:Int)>0))=true then
     grd (decide (IntKind.i64=IntKind.i64)&&!(c.Regs==0)) <|
     (aH (sa.1.set (sa.2).toNat (ab.mk xa2.Op xa2.A_ (af .i64 (ac .i64 xa2.B y7) c.Regs) xa2.C_ xa2.D xa2.Imm xa2.Bin xa2.To xa2.Shared)) sa.2).bind fun xa9 =>
     grd (decide (IntKind.i64=IntKind.i64)&&!(c.Regs==0)) <|
     (aH ((sa.1.set (sa.2).toNat (ab.mk xa2.Op xa2.A_ (af .i64 (ac .i64 xa2.B y7) c.Regs) xa2.C_ xa2.D xa2.Imm xa2.Bin xa2.To xa2.Shared)).set (sa.2).toNat (ab.mk xa9.Op xa9.A_ xa9.B (af .i64 (ac .i64 xa9.C_ y7) c.Regs) xa9.D xa9.Imm xa9.Bin xa9.To xa9.Shared)) sa.2).bind fun xa11 =>
     if (xa11.Op==6)=true then
      grd (decide (IntKind.i64=IntKind.i64)&&!(c.Regs==0)) <|
      if ya4.2=true then
       (aH (((sa.1.set (sa.2).toNat (ab.mk xa2.Op xa2.A_ (af .i64 (ac .i64 xa2.B y7) c.Regs) xa2.C_ xa2.D xa2.Imm xa2.Bin xa2.To xa2.Shared)).set (sa.2).toNat (ab.mk xa9.Op xa9.A_ xa9.B (af .i64 (ac .i64 xa9.C_ y7) c.Regs) xa9.D xa9.Imm xa9.Bin xa9.To xa9.Shared)).set (sa.2).toNat (ab.mk xa11.Op xa11.A_ xa11.B xa11.C_ (af .i64 (ac .i64 xa11.D y7) c.Regs) xa11.Imm xa11.Bin xa11.To xa11.Shared)) sa.2).bind fun xa15 =>
       grd (decide (IntKind.i64=IntKind.i64)&&!(c.Regs==0)) <|
       some (.inl (((((sa.1.set (sa.2).toNat (ab.mk xa2.Op xa2.A_ (af .i64 (ac .i64 xa2.B y7) c.Regs) xa2.C_ xa2.D xa2.Imm xa2.Bin xa2.To xa2.Shared)).set (sa.2).toNat (ab.mk xa9.Op xa9.A_ xa9.B (af .i64 (ac .i64 xa9.C_ y7) c.Regs) xa9.D xa9.Imm xa9.Bin xa9.To xa9.Shared)).set (sa.2).toNat (ab.mk xa11.Op xa11.A_ xa11.B xa11.C_ (af .i64 (ac .i64 xa11.D y7) c.Regs) xa11.Imm xa11.Bin xa11.To xa11.Shared)).set (sa.2).toNat (ab.mk xa15.Op (af .i64 (ac .i64 xa15.A_ y7) c.Regs) xa15.B xa15.C_ xa15.D xa15.Imm xa15.Bin xa15.To xa15.Shared)),(ac .i64 sa.2 1)))
      else
       some (.inl ((((sa.1.set (sa.2).toNat (ab.mk xa2.Op xa2.A_ (af .i64 (ac .i64 xa2.B y7) c.Regs) xa2.C_ xa2.D xa2.Imm xa2.Bin xa2.To xa2.Shared)).set (sa.2).toNat (ab.mk xa9.Op xa9.A_ xa9.B (af .i64 (ac .i64 xa9.C_ y7) c.Regs) xa9.D xa9.Imm xa9.Bin xa9.To xa9.Shared)).set (sa.2).toNat (ab.mk xa11.Op xa11.A_ xa11.B xa11.C_ (af .i64 (ac .i64 xa11.D y7) c.Regs) xa11.Imm xa11.Bin xa11.To xa11.Shared)),(ac .i64 sa.2 1)))
     else
      if ya4.2=true then
       grd (decide (IntKind.i64=IntKind.i64)&&!(c.Regs==0)) <|
       some (.inl ((((sa.1.set (sa.2).toNat (ab.mk xa2.Op xa2.A_ (af .i64 (ac .i64 xa2.B y7) c.Regs) xa2.C_ xa2.D xa2.Imm xa2.Bin xa2.To xa2.Shared)).set (sa.2).toNat (ab.mk xa9.Op xa9.A_ xa9.B (af .i64 (ac .i64 xa9.C_ y7) c.Regs) xa9.D xa9.Imm xa9.Bin xa9.To xa9.Shared)).set (sa.2).toNat (ab.mk xa11.Op (af .i64 (ac .i64 xa11.A_ y7) c.Regs) xa11.B xa11.C_ xa11.D xa11.Imm xa11.Bin xa11.To xa11.Shared)),(ac .i64 sa.2 1)))
      else
       some (.inl (((sa.1.set (sa.2).toNat (ab.mk xa2.Op xa2.A_ (af .i64 (ac .i64 xa2.B y7) c.Regs) xa2.C_ xa2.D xa2.Imm xa2.Bin xa2.To xa2.Shared)).set (sa.2).toNat (ab.mk xa9.Op xa9.A_ xa9.B (af .i64 (ac .i64 xa9.C_ y7) c.Regs) xa9.D xa9.Imm xa9.Bin xa9.To xa9.Shared)),(ac .i64 sa.2 1)))
    else
     grd (decide (IntKind.i64=IntKind.i64)&&!(c.Regs==0)) <|
     (aH (sa.1.set (sa.2).toNat (ab.mk xa2.Op xa2.A_ xa2.B (af .i64 (ac .i64 xa2.C_ y7) c.Regs) xa2.D xa2.Imm xa2.Bin xa2.To xa2.Shared)) sa.2).bind fun xa9 =>
     if (xa9.Op==6)=true then
      grd (decide (IntKind.i64=IntKind.i64)&&!(c.Regs==0)) <|
      if ya4.2=true then
       (aH ((sa.1.set (sa.2).toNat (ab.mk xa2.Op xa2.A_ xa2.B (af .i64 (ac .i64 xa2.C_ y7) c.Regs) xa2.D xa2.Imm xa2.Bin xa2.To xa2.Shared)).set (sa.2).toNat (ab.mk xa9.Op xa9.A_ xa9.B xa9.C_ (af .i64 (ac .i64 xa9.D y7) c.Regs) xa9.Imm xa9.Bin xa9.To xa9.Shared)) sa.2).bind fun xa13 =>
       grd (decide (IntKind.i64=IntKind.i64)&&!(c.Regs==0)) <|
       some (.inl ((((sa.1.set (sa.2).toNat (ab.mk xa2.Op xa2.A_ xa2.B (af .i64 (ac .i64 xa2.C_ y7) c.Regs) xa2.D xa2.Imm xa2.Bin xa2.To xa2.Shared)).set (sa.2).toNat (ab.mk xa9.Op xa9.A_ xa9.B xa9.C_ (af .i64 (ac .i64 xa9.D y7) c.Regs) xa9.Imm xa9.Bin xa9.To xa9.Shared)).set (sa.2).toNat (ab.mk xa13.Op (af .i64 (ac .i64 xa13.A_ y7) c.Regs) xa13.B xa13.C_ xa13.D xa13.Imm xa13.Bin xa13.To xa13.Shared)),(ac .i64 sa.2 1)))
      else
       some (.inl (((sa.1.set (sa.2).toNat (ab.mk xa2.Op xa2.A_ xa2.B (af .i64 (ac .i64 xa2.C_ y7) c.Regs) xa2.D xa2.Imm xa2.Bin xa2.To xa2.Shared)).set (sa.2).toNat (ab.mk xa9.Op xa9.A_ xa9.B xa9.C_ (af .i64 (ac .i64 xa9.D y7) c.Regs) xa9.Imm xa9.Bin xa9.To xa9.Shared)),(ac .i64 sa.2 1)))
     else
      if ya4.2=true then
       grd (decide (IntKind.i64=IntKind.i64)&&!(c.Regs==0)) <|
       some (.inl (((sa.1.set (sa.2).toNat (ab.mk xa2.Op xa2.A_ xa2.B (af .i64 (ac .i64 xa2.C_ y7) c.Regs) xa2.D xa2.Imm xa2.Bin xa2.To xa2.Shared)).set (sa.2).toNat (ab.mk xa9.Op (af .i64 (ac .i64 xa9.A_ y7) c.Regs) xa9.B xa9.C_ xa9.D xa9.Imm xa9.Bin xa9.To xa9.Shared)),(ac .i64 sa.2 1)))
      else
       some (.inl ((sa.1.set (sa.2).toNat (ab.mk xa2.Op xa2.A_ xa2.B (af .i64 (ac .i64 xa2.C_ y7) c.Regs) xa2.D xa2.Imm xa2.Bin xa2.To xa2.Shared)),(ac .i64 sa.2 1)))
   else
    if (decide ((ya3.length:Int)>0))=true then
     grd (decide (IntKind.i64=IntKind.i64)&&!(c.Regs==0)) <|
     if (xa2.Op==6)=true then
      (aH (sa.1.set (sa.2).toNat (ab.mk xa2.Op xa2.A_ (af .i64 (ac .i64 xa2.B y7) c.Regs) xa2.C_ xa2.D xa2.Imm xa2.Bin xa2.To xa2.Shared)) sa.2).bind fun xa10 =>
      grd (decide (IntKind.i64=IntKind.i64)&&!(c.Regs==0)) <|
      (aH ((sa.1.set (sa.2).toNat (ab.mk xa2.Op xa2.A_ (af .i64 (ac .i64 xa2.B y7) c.Regs) xa2.C_ xa2.D xa2.Imm xa2.Bin xa2.To xa2.Shared)).set (sa.2).toNat (ab.mk xa10.Op xa10.A_ xa10.B (af .i64 (ac .i64 xa10.C_ y7) c.Regs) xa10.D xa10.Imm xa10.Bin xa10.To xa10.Shared)) sa.2).bind fun xa12 =>
      if (xa12.Op==6)=true then
       grd (decide (IntKind.i64=IntKind.i64)&&!(c.Regs==0)) <|
       if ya4.2=true then
        (aH (((sa.1.set (sa.2).toNat (ab.mk xa2.Op xa2.A_ (af .i64 (ac .i64 xa2.B y7) c.Regs) xa2.C_ xa2.D xa2.Imm xa2.Bin xa2.To xa2.Shared)).set (sa.2).toNat (ab.mk xa10.Op xa10.A_ xa10.B (af .i64 (ac .i64 xa10.C_ y7) c.Regs) xa10.D xa10.Imm xa10.Bin xa10.To xa10.Shared)).set (sa.2).toNat (ab.mk xa12.Op xa12.A_ xa12.B xa12.C_ (af .i64 (ac .i64 xa12.D y7) c.Regs) xa12.Imm xa12.Bin xa12.To xa12.Shared)) sa.2).bind fun xa16 =>
        grd (decide (IntKind.i64=IntKind.i64)&&!(c.Regs==0)) <|
        some (.inl (((((sa.1.set (sa.2).toNat (ab.mk xa2.Op xa2.A_ (af .i64 (ac .i64 xa2.B y7) c.Regs) xa2.C_ xa2.D xa2.Imm xa2.Bin xa2.To xa2.Shared)).set (sa.2).toNat (ab.mk xa10.Op xa10.A_ xa10.B (af .i64 (ac .i64 xa10.C_ y7) c.Regs) xa10.D xa10.Imm xa10.Bin xa10.To xa10.Shared)).set (sa.2).toNat (ab.mk xa12.Op xa12.A_ xa12.B xa12.C_ (af .i64 (ac .i64 xa12.D y7) c.Regs) xa12.Imm xa12.Bin xa12.To xa12.Shared)).set (sa.2).toNat (ab.mk xa16.Op (af .i64 (ac .i64 xa16.A_ y7) c.Regs) xa16.B xa16.C_ xa16.D xa16.Imm xa16.Bin xa16.To xa16.Shared)),(ac .i64 sa.2 1)))
       else
        some (.inl ((((sa.1.set (sa.2).toNat (ab.mk xa2.Op xa2.A_ (af .i64 (ac .i64 xa2.B y7) c.Regs) xa2.C_ xa2.D xa2.Imm xa2.Bin xa2.To xa2.Shared)).set (sa.2).toNat (ab.mk xa10.Op xa10.A_ xa10.B (af .i64 (ac .i64 xa10.C_ y7) c.Regs) xa10.D xa10.Imm xa10.Bin xa10.To xa10.Shared)).set (sa.2).toNat (ab.mk xa12.Op xa12.A_ xa12.B xa12.C_ (af .i64 (ac .i64 xa12.D y7) c.Regs) xa12.Imm xa12.Bin xa12.To xa12.Shared)),(ac .i64 sa.2 1)))
      else
       if ya4.2=true then
        grd (decide (IntKind.i64=IntKind.i64)&&!(c.Regs==0)) <|
        some (.inl ((((sa.1.set (sa.2).toNat (ab.mk xa2.Op xa2.A_ (af .i64 (ac .i64 xa2.B y7) c.Regs) xa2.C_ xa2.D xa2.Imm xa2.Bin xa2.To xa2.Shared)).set (sa.2).toNat (ab.mk xa10.Op xa10.A_ xa10.B (af .i64 (ac .i64 xa10.C_ y7) c.Regs) xa10.D xa10.Imm xa10.Bin xa10.To xa10.Shared)).set (sa.2).toNat (ab.mk xa12.Op (af .i64 (ac .i64 xa12.A_ y7) c.Regs) xa12.B xa12.C_ xa12.D xa12.Imm xa12.Bin xa12.To xa12.Shared)),(ac .i64 sa.2 1)))
       else
        some (.inl (((sa.1.set (sa.2).toNat (ab.mk xa2.Op xa2.A_ (af .i64 (ac .i64 xa2.B y7) c.Regs) xa2.C_ xa2.D xa2.Imm xa2.Bin xa2.To xa2.Shared)).set (sa.2).toNat (ab.mk xa10.Op xa10.A_ xa10.B (af .i64 (ac .i64 xa10.C_ y7) c.Regs) xa10.D xa10.Imm xa10.Bin xa10.To xa10.Shared)),(ac .i64 sa.2 1)))
     else
      (aH (sa.1.set (sa.2).toNat (ab.mk xa2.Op xa2.A_ (af .i64 (ac .i64 xa2.B y7) c.Regs) xa2.C_ xa2.D xa2.Imm xa2.Bin xa2.To xa2.Shared)) sa.2).bind fun xa10 =>
      if (xa10.Op==6)=true then
       grd (decide (IntKind.i64=IntKind.i64)&&!(c.Regs==0)) <|
       if ya4.2=true then
        (aH ((sa.1.set (sa.2).toNat (ab.mk xa2.Op xa2.A_ (af .i64 (ac .i64 xa2.B y7) c.Regs) xa2.C_ xa2.D xa2.Imm xa2.Bin xa2.To xa2.Shared)).set (sa.2).toNat (ab.mk xa10.Op xa10.A_ xa10.B xa10.C_ (af .i64 (ac .i64 xa10.D y7) c.Regs) xa10.Imm xa10.Bin xa10.To xa10.Shared)) sa.2).bind fun xa14 =>
        grd (decide (IntKind.i64=IntKind.i64)&&!(c.Regs==0)) <|
        some (.inl ((((sa.1.set (sa.2).toNat (ab.mk xa2.Op xa2.A_ (af .i64 (ac .i64 xa2.B y7) c.Regs) xa2.C_ xa2.D xa2.Imm xa2.Bin xa2.To xa2.Shared)).set (sa.2).toNat (ab.mk xa10.Op xa10.A_ xa10.B xa10.C_ (af .i64 (ac .i64 xa10.D y7) c.Regs) xa10.Imm xa10.Bin xa10.To xa10.Shared)).set (sa.2).toNat (ab.mk xa14.Op (af .i64 (ac .i64 xa14.A_ y7) c.Regs) xa14.B xa14.C_ xa14.D xa14.Imm xa14.Bin xa14.To xa14.Shared)),(ac .i64 sa.2 1)))
       else
        some (.inl (((sa.1.set (sa.2).toNat (ab.mk xa2.Op xa2.A_ (af .i64 (ac .i64 xa2.B y7) c.Regs) xa2.C_ xa2.D xa2.Imm xa2.Bin xa2.To xa2.Shared)).set (sa.2).toNat (ab.mk xa10.Op xa10.A_ xa10.B xa10.C_ (af .i64 (ac .i64 xa10.D y7) c.Regs) xa10.Imm xa10.Bin xa10.To xa10.Shared)),(ac .i64 sa.2 1)))
      else
       if ya4.2=true then
        grd (decide (IntKind.i64=IntKind.i64)&&!(c.Regs==0)) <|
        some (.inl (((sa.1.set (sa.2).toNat (ab.mk xa2.Op xa2.A_ (af .i64 (ac .i64 xa2.B y7) c.Regs) xa2.C_ xa2.D xa2.Imm xa2.Bin xa2.To xa2.Shared)).set (sa.2).toNat (ab.mk xa10.Op (af .i64 (ac .i64 xa10.A_ y7) c.Regs) xa10.B xa10.C_ xa10.D xa10.Imm xa10.Bin xa10.To xa10.Shared)),(ac .i64 sa.2 1)))
       else
        some (.inl ((sa.1.set (sa.2).toNat (ab.mk xa2.Op xa2.A_ (af .i64 (ac .i64 xa2.B y7) c.Regs) xa2.C_ xa2.D xa2.Imm xa2.Bin xa2.To xa2.Shared)),(ac .i64 sa.2 1)))
    else
     if (xa2.Op==6)=true then
      grd (decide (IntKind.i64=IntKind.i64)&&!(c.Regs==0)) <|
      (aH (sa.1.set (sa.2).toNat (ab.mk xa2.Op xa2.A_ xa2.B (af .i64 (ac .i64 xa2.C_ y7) c.Regs) xa2.D xa2.Imm xa2.Bin xa2.To xa2.Shared)) sa.2).bind fun xa10 =>
      if (xa10.Op==6)=true then
       grd (decide (IntKind.i64=IntKind.i64)&&!(c.Regs==0)) <|
       if ya4.2=true then
        (aH ((sa.1.set (sa.2).toNat (ab.mk xa2.Op xa2.A_ xa2.B (af .i64 (ac .i64 xa2.C_ y7) c.Regs) xa2.D xa2.Imm xa2.Bin xa2.To xa2.Shared)).set (sa.2).toNat (ab.mk xa10.Op xa10.A_ xa10.B xa10.C_ (af .i64 (ac .i64 xa10.D y7) c.Regs) xa10.Imm xa10.Bin xa10.To xa10.Shared)) sa.2).bind fun xa14 =>
        grd (decide (IntKind.i64=IntKind.i64)&&!(c.Regs==0)) <|
        some (.inl ((((sa.1.set (sa.2).toNat (ab.mk xa2.Op xa2.A_ xa2.B (af .i64 (ac .i64 xa2.C_ y7) c.Regs) xa2.D xa2.Imm xa2.Bin xa2.To xa2.Shared)).set (sa.2).toNat (ab.mk xa10.Op xa10.A_ xa10.B xa10.C_ (af .i64 (ac .i64 xa10.D y7) c.Regs) xa10.Imm xa10.Bin xa10.To xa10.Shared)).set (sa.2).toNat (ab.mk xa14.Op (af .i64 (ac .i64 xa14.A_ y7) c.Regs) xa14.B xa14.C_ xa14.D xa14.Imm xa14.Bin xa14.To xa14.Shared)),(ac .i64 sa.2 1)))
       else
        some (.inl (((sa.1.set (sa.2).toNat (ab.mk xa2.Op xa2.A_ xa2.B (af .i64 (ac .i64 xa2.C_ y7) c.Regs) xa2.D xa2.Imm xa2.Bin xa2.To xa2.Shared)).set (sa.2).toNat (ab.mk xa10.Op xa10.A_ xa10.B xa10.C_ (af .i64 (ac .i64 xa10.D y7) c.Regs) xa10.Imm xa10.Bin xa10.To xa10.Shared)),(ac .i64 sa.2 1)))
      else
       if ya4.2=true then
        grd (decide (IntKind.i64=IntKind.i64)&&!(c.Regs==0)) <|
        some (.inl (((sa.1.set (sa.2).toNat (ab.mk xa2.Op xa2.A_ xa2.B (af .i64 (ac .i64 xa2.C_ y7) c.Regs) xa2.D xa2.Imm xa2.Bin xa2.To xa2.Shared)).set (sa.2).toNat (ab.mk xa10.Op (af .i64 (ac .i64 xa10.A_ y7) c.Regs) xa10.B xa10.C_ xa10.D xa10.Imm xa10.Bin xa10.To xa10.Shared)),(ac .i64 sa.2 1)))
       else
        some (.inl ((sa.1.set (sa.2).toNat (ab.mk xa2.Op xa2.A_ xa2.B (af .i64 (ac .i64 xa2.C_ y7) c.Regs) xa2.D xa2.Imm xa2.Bin xa2.To xa2.Shared)),(ac .i64 sa.2 1)))
     else
      if (xa2.Op==6)=true then
       grd (decide (IntKind.i64=IntKind.i64)&&!(c.Regs==0)) <|
       if ya4.2=true then
        (aH (sa.1.set (sa.2).toNat (ab.mk xa2.Op xa2.A_ xa2.B xa2.C_ (af .i64 (ac .i64 xa2.D y7) c.Regs) xa2.Imm xa2.Bin xa2.To xa2.Shared)) sa.2).bind fun xa12 =>
        grd (decide (IntKind.i64=IntKind.i64)&&!(c.Regs==0)) <|
        some (.inl (((sa.1.set (sa.2).toNat (ab.mk xa2.Op xa2.A_ xa2.B xa2.C_ (af .i64 (ac .i64 xa2.D y7) c.Regs) xa2.Imm xa2.Bin xa2.To xa2.Shared)).set (sa.2).toNat (ab.mk xa12.Op (af .i64 (ac .i64 xa12.A_ y7) c.Regs) xa12.B xa12.C_ xa12.D xa12.Imm xa12.Bin xa12.To xa12.Shared)),(ac .i64 sa.2 1)))
       else
        some (.inl ((sa.1.set (sa.2).toNat (ab.mk xa2.Op xa2.A_ xa2.B xa2.C_ (af .i64 (ac .i64 xa2.D y7) c.Regs) xa2.Imm xa2.Bin xa2.To xa2.Shared)),(ac .i64 sa.2 1)))
      else
       if ya4.2=true then
        grd (decide (IntKind.i64=IntKind.i64)&&!(c.Regs==0)) <|
        some (.inl ((sa.1.set (sa.2).toNat (ab.mk xa2.Op (af .i64 (ac .i64 xa2.A_ y7) c.Regs) xa2.B xa2.C_ xa2.D xa2.Imm xa2.Bin xa2.To xa2.Shared)),(ac .i64 sa.2 1)))
       else
        some (.inl (sa.1,(ac .i64 sa.2 1)))
 else
  some (.inr sa.1)
def dO (n:Nat) (c:bh) (y7:Int) (y10:(List (List Int))) (y11:(List (List Int))) (sb:Int×Int):Option ((Int×Int)⊕(Int⊕Unit)) :=
 (aH y10 sb.1).bind fun xb1 =>
 if (decide (sb.2<(xb1.length:Int)))=true then
  (aH y11 sb.1).bind fun xb3 =>
  (aH xb1 sb.2).bind fun xb4 =>
  grd (decide (IntKind.i64=IntKind.i64)&&!(c.Regs==0)) <|
  (v5 n xb3 (af .i64 (ac .i64 xb4 y7) c.Regs)).bind fun yb6 =>
  if (!yb6)=true then
   some (.inr (.inr ()))
  else
   some (.inl (sb.1,(ac .i64 sb.2 1)))
 else
  some (.inr (.inl sb.1))
def eM (n:Nat) (c:bh) (y7:Int) (y10:(List (List Int))) (y11:(List (List Int))) (sa:Int):Option (Int⊕(Unit⊕Unit)) :=
 if (decide (sa<(y10.length:Int)))=true then
  (aH y10 sa).bind fun xa2 =>
  (aH y11 sa).bind fun xa3 =>
  if ((xa2.length:Int) != (xa3.length:Int))=true then
   some (.inr (.inr ()))
  else
   (iter (fun s=>dO n c y7 y10 y11 s) n (sa,0)).bind fun ta5 =>
   match ta5 with
   | .inl wa6 =>
    some (.inl (ac .i64 wa6 1))
   | .inr wa6 =>
    some (.inr (.inr ()))
 else
  some (.inr (.inl ()))
def eQ (n:Nat) (c:bh) (by_:Int):Option Bool :=
 (qb n).bind fun y1 =>
 if (!y1)=true then
  some false
 else
  if (decide ((c.Steps.length:Int)>120))=true then
   some true
  else
   if (decide (c.Regs>60))=true then
    some true
   else
    (fW n c).bind fun y5 =>
    if (y5 != 0)=true then
     some true
    else
     (o9 n by_ c.Regs).bind fun y7 =>
     (iP n c).bind fun y8 =>
     (iter (fun s=>cx n c y7 y8 s) n (y8.2,0)).bind fun t9 =>
     (lT n c).bind fun y10 =>
     (lT n (bh.mk y8.1 t9)).bind fun y11 =>
     (ku n c (bh.mk y8.1 t9)).bind fun y12 =>
     if (!y12)=true then
      some false
     else
      (ku n (bh.mk y8.1 t9) c).bind fun y14 =>
      if (!y14)=true then
       some false
      else
       (fW n (bh.mk y8.1 t9)).bind fun y16 =>
       if (y16 != 0)=true then
        some false
       else
        if ((y10.length:Int) != (y11.length:Int))=true then
         some false
        else
         (kw n c (bh.mk y8.1 t9)).bind fun y19 =>
         (rJ n c (bh.mk y8.1 t9)).bind fun y20 =>
         if (!(y19==y20))=true then
          some false
         else
          (iter (fun s=>eM n c y7 y10 y11 s) n 0).bind fun t22 =>
          match t22 with
          | .inl w23 =>
           some true
          | .inr w23 =>
           some false

end Go.Proofs.YteafbimadlcljaaDoor
