/- What the functions compute, as functions on lists and numbers. Printed by a program from the code; nothing is claimed here. -/
import Derived.Test.YteafbimadlcljaaDoorM0
namespace Go.Proofs.YteafbimadlcljaaDoor
open Go A
set_option linter.unusedVariables false

structure ab where
  mk ::
  Op:Int
  A_:Int
  B:Int
  C_:Int
  D:Int
  Imm:Int
  Bin:Int
  To:Int
  Shared:Bool
structure bG where
  mk ::
  Regs:Int
  Steps:(List ab)
def ab.beq (x y:ab):Bool:=((x.Op==y.Op)&&((x.A_==y.A_)&&((x.B==y.B)&&((x.C_==y.C_)&&((x.D==y.D)&&((x.Imm==y.Imm)&&((x.Bin==y.Bin)&&((x.To==y.To)&&(x.Shared==y.Shared)))))))))
theorem ab.beq_eq {x y:ab} (h:ab.beq x y=true):x=y:=by
  obtain ⟨a1,a2,a3,a4,a5,a6,a7,a8,a9⟩:=x
  obtain ⟨b10,b11,b12,b13,b14,b15,b16,b17,b18⟩:=y
  unfold ab.beq at h
  simp only [Bool.and_eq_true,beq_iff_eq] at h
  simp_all
theorem ab.beq_refl (x:ab):ab.beq x x=true:=by
  unfold ab.beq
  simp
def ab.wf (x:ab):Prop:=(zF .i64 x.Op)∧(zF .i64 x.A_)∧(zF .i64 x.B)∧(zF .i64 x.C_)∧(zF .i64 x.D)∧(zF .i64 x.Imm)∧(zF .i64 x.Bin)∧(zF .i64 x.To)∧(True)
def bG.wf (x:bG):Prop:=(zF .i64 x.Regs)∧(x.Steps.length≤maxLen∧∀ z∈x.Steps,ab.wf z)
def nS (n:Nat):Option Bool:=some true
def cM (n:Nat) (op:Int):Option Int :=
 if (decide (op<1))=true then
  some 0
 else
  if (decide (op>10))=true then
   some 0
  else
   if (op==0)=true then
    some 0
   else
    if (op==1)=true then
     some 17
    else
     if (op==2)=true then
      some 3
     else
      if (op==3)=true then
       some 39
      else
       if (op==4)=true then
        some 147
       else
        if (op==5)=true then
         some 150
        else
         if (op==6)=true then
          some 159
         else
          if (op==7)=true then
           some 0
          else
           if (op==8)=true then
            some 64
           else
            if (op==9)=true then
             some 66
            else
             if (op==10)=true then
              some 2
             else
              none
def bX (n:Nat) (op:Int):Option Bool :=
 if (decide (op≥1))=true then
  some (decide (op≤10))
 else
  some false
def pZ (n:Nat) (s_:ab) (regs:Int) (steps:Int):Option Bool :=
 (cM n s_.Op).bind fun y1 =>
 if (y1==0)=true then
  (bX n s_.Op).bind fun y3 =>
  if y3=true then
   if (ab.beq s_ (ab.mk s_.Op 0 0 0 0 0 0 0 false))=true then
    some true
   else
    some false
  else
   some false
 else
  if (y1==2)=true then
   if (decide (s_.B<0))=true then
    some false
   else
    if (decide (s_.B≥regs))=true then
     some false
    else
     (bX n s_.Op).bind fun y5 =>
     if y5=true then
      if (ab.beq s_ (ab.mk s_.Op 0 s_.B 0 0 0 0 0 false))=true then
       some true
      else
       some false
     else
      some false
  else
   if (y1==3)=true then
    if (decide (s_.A_<0))=true then
     some false
    else
     if (decide (s_.A_≥regs))=true then
      some false
     else
      if (decide (s_.B<0))=true then
       some false
      else
       if (decide (s_.B≥regs))=true then
        some false
       else
        (bX n s_.Op).bind fun y7 =>
        if y7=true then
         if (ab.beq s_ (ab.mk s_.Op s_.A_ s_.B 0 0 0 0 0 false))=true then
          some true
         else
          some false
        else
         some false
   else
    if (y1==17)=true then
     if (decide (s_.A_<0))=true then
      some false
     else
      if (decide (s_.A_≥regs))=true then
       some false
      else
       (bX n s_.Op).bind fun y5 =>
       if y5=true then
        if (ab.beq s_ (ab.mk s_.Op s_.A_ 0 0 0 s_.Imm 0 0 false))=true then
         some true
        else
         some false
       else
        some false
    else
     if (y1==39)=true then
      if (decide (s_.A_<0))=true then
       some false
      else
       if (decide (s_.A_≥regs))=true then
        some false
       else
        if (decide (s_.B<0))=true then
         some false
        else
         if (decide (s_.B≥regs))=true then
          some false
         else
          if (decide (s_.C_<0))=true then
           some false
          else
           if (decide (s_.C_≥regs))=true then
            some false
           else
            (bX n s_.Op).bind fun y9 =>
            if y9=true then
             if (ab.beq s_ (ab.mk s_.Op s_.A_ s_.B s_.C_ 0 0 (ki (kj s_.Bin 1) 13) 0 false))=true then
              some true
             else
              some false
            else
             some false
     else
      if (y1==64)=true then
       (bX n s_.Op).bind fun y3 =>
       if y3=true then
        if (ab.beq s_ (ab.mk s_.Op 0 0 0 0 0 0 (ki (kj s_.To 0) (aW .i64 steps 1)) false))=true then
         some true
        else
         some false
       else
        some false
      else
       if (y1==66)=true then
        if (decide (s_.B<0))=true then
         some false
        else
         if (decide (s_.B≥regs))=true then
          some false
         else
          (bX n s_.Op).bind fun y5 =>
          if y5=true then
           if (ab.beq s_ (ab.mk s_.Op 0 s_.B 0 0 0 0 (ki (kj s_.To 0) (aW .i64 steps 1)) false))=true then
            some true
           else
            some false
          else
           some false
       else
        if (y1==147)=true then
         if (decide (s_.A_<0))=true then
          some false
         else
          if (decide (s_.A_≥regs))=true then
           some false
          else
           if (decide (s_.B<0))=true then
            some false
           else
            if (decide (s_.B≥regs))=true then
             some false
            else
             if s_.Shared=true then
              (bX n s_.Op).bind fun y8 =>
              if y8=true then
               if (ab.beq s_ (ab.mk s_.Op s_.A_ s_.B 0 0 s_.Imm 0 0 true))=true then
                some true
               else
                some false
              else
               some false
             else
              (bX n s_.Op).bind fun y8 =>
              if y8=true then
               if (ab.beq s_ (ab.mk s_.Op s_.A_ s_.B 0 0 s_.Imm 0 0 (s_.Op==6)))=true then
                some true
               else
                some false
              else
               some false
        else
         if (y1==150)=true then
          if (decide (s_.B<0))=true then
           some false
          else
           if (decide (s_.B≥regs))=true then
            some false
           else
            if (decide (s_.C_<0))=true then
             some false
            else
             if (decide (s_.C_≥regs))=true then
              some false
             else
              if s_.Shared=true then
               (bX n s_.Op).bind fun y8 =>
               if y8=true then
                if (ab.beq s_ (ab.mk s_.Op 0 s_.B s_.C_ 0 s_.Imm 0 0 true))=true then
                 some true
                else
                 some false
               else
                some false
              else
               (bX n s_.Op).bind fun y8 =>
               if y8=true then
                if (ab.beq s_ (ab.mk s_.Op 0 s_.B s_.C_ 0 s_.Imm 0 0 (s_.Op==6)))=true then
                 some true
                else
                 some false
               else
                some false
         else
          if (y1==159)=true then
           if (decide (s_.A_<0))=true then
            some false
           else
            if (decide (s_.A_≥regs))=true then
             some false
            else
             if (decide (s_.B<0))=true then
              some false
             else
              if (decide (s_.B≥regs))=true then
               some false
              else
               if (decide (s_.C_<0))=true then
                some false
               else
                if (decide (s_.C_≥regs))=true then
                 some false
                else
                 if (decide (s_.D<0))=true then
                  some false
                 else
                  if (decide (s_.D≥regs))=true then
                   some false
                  else
                   if s_.Shared=true then
                    (bX n s_.Op).bind fun y12 =>
                    if y12=true then
                     if (ab.beq s_ (ab.mk s_.Op s_.A_ s_.B s_.C_ s_.D s_.Imm 0 0 true))=true then
                      some true
                     else
                      some false
                    else
                     some false
                   else
                    (bX n s_.Op).bind fun y12 =>
                    if y12=true then
                     if (ab.beq s_ (ab.mk s_.Op s_.A_ s_.B s_.C_ s_.D s_.Imm 0 0 (s_.Op==6)))=true then
                      some true
                     else
                      some false
                    else
                     some false
          else
           none
def iG (n:Nat) (s_:ab) (a:Int) (a_:(List ab)) (a_A:Int):Option Bool :=
 (pZ n s_ a a_A).bind fun y1 =>
 some (!y1)
def aX (n:Nat) (s_:(List ab)) (f:Int) (f_:(List ab)) (f_A:Int) (sa:Int):Option (Int⊕(Unit⊕Int)) :=
 if (decide (sa<(s_.length:Int)))=true then
  (ba s_ sa).bind fun xa2 =>
  (iG n xa2 f f_ f_A).bind fun ya3 =>
  if ya3=true then
   some (.inr (.inr sa))
  else
   some (.inl (aH .i64 sa 1))
 else
  some (.inr (.inl ()))
def bq (n:Nat) (s_:(List ab)) (f:Int) (f_:(List ab)) (f_A:Int):Option Int :=
 (iter (fun s=>aX n s_ f f_ f_A s) n 0).bind fun t1 =>
 match t1 with
 | .inl w2 =>
  some (-1)
 | .inr w2 =>
  some w2
def aC (n:Nat) (s_:(List ab)) (f:Int) (f_:(List ab)) (f_A:Int):Option Bool :=
 (bq n s_ f f_ f_A).bind fun y1 =>
 some (decide (y1≥0))
def mY (n:Nat) (n_:Int) (oA:(List (Option (List Int)))):Option (List Int) :=
 grd (decide ((0:Int)≤(bW .i64 (aH .i64 n_ 63) 64))&&decide ((bW .i64 (aH .i64 n_ 63) 64)≤(bW .i64 (aH .i64 n_ 63) 64))&&decide (8 * (bW .i64 (aH .i64 n_ 63) 64)≤140737488355328)&&decide ((bW .i64 (aH .i64 n_ 63) 64)≤140737488355328)&&Nat.blt 0 1) <|
 some (List.replicate ((bW .i64 (aH .i64 n_ 63) 64)).toNat 0)
def vd (n:Nat) (oA:(List (Option (List Int)))) (oB:Nat) (oC:(List Int)):Option Unit :=
 grd (fN oC) <|
 grd (Nat.ble (oC.length * 8) 140737488355328) <|
 some ()
def eP (n:Nat) (s_:ab):Option (Int×Bool) :=
 (cM n s_.Op).bind fun y1 =>
 if ((fc .i64 y1 1)==0)=true then
  some (0,false)
 else
  some (s_.A_,true)
def AS (n:Nat) (n_:Int) (oA:(List (Option (List Int)))) (oB:(List Int)):Option (List Int) :=
 (ba oB (bW .i64 n_ 64)).bind fun x1 =>
 grd (decide ((0:Int)≤(gg .i64 n_ 64))) <|
 some (oB.set ((bW .i64 n_ 64)).toNat (lD .u64 x1 (kh .u64 1 (gg .i64 n_ 64))))
def gB (n:Nat):Option Unit :=
 some ()
def iW (n:Nat):Option Unit :=
 (gB n).bind fun y1 =>
 some ()
def cmp_isNaN_int (n:Nat) (x:Int):Option Bool :=
 some (x != x)
def cmp_Less_int (n:Nat) (x:Int) (y:Int):Option Bool :=
 (cmp_isNaN_int n x).bind fun y1 =>
 if y1=true then
  (cmp_isNaN_int n y).bind fun y3 =>
  if (!y3)=true then
   some true
  else
   some (decide (x<y))
 else
  some (decide (x<y))
def b3 (n:Nat) (oA:Int) (oB:Int):Option (Int×Int) :=
 (cmp_Less_int n oB oA).bind fun y1 =>
 if y1=true then
  some (oB,oA)
 else
  some (oA,oB)
def cE (n:Nat) (oA:Int) (oB:Int):Option (Int×Int) :=
 (b3 n oA oB).bind fun y1 =>
 some (y1.1,y1.2)
def bh (n:Nat) (oA:Int) (oB:Int):Option (Int×Int) :=
 (iW n).bind fun y1 =>
 (cE n oA oB).bind fun y2 =>
 some (y2.1,y2.2)
def aL (n:Nat) (oA:Int) (oB:Int):Option (Int⊕Unit) :=
 if (oB==oA)=true then
  some (.inl 0)
 else
  some (.inr ())
def bM (n:Nat) (oA:Int) (oB:Int):Option Unit :=
 some ()
def bC (n:Nat) (oA:Int) (oB:Int):Option Unit :=
 some ()
def jh (n:Nat):Option Unit :=
 some ()
def kq (n:Nat):Option Unit :=
 (jh n).bind fun y1 =>
 some ()
def cQ (n:Nat) (oA:Int):Option Unit :=
 some ()
def dE (n:Nat) (oA:Int):Option Unit :=
 (cQ n oA).bind fun y1 =>
 some ()
def aQ (n:Nat) (oA:Int):Option Unit :=
 (kq n).bind fun y1 =>
 (dE n oA).bind fun y2 =>
 some ()
def aI (n:Nat) (oA:Int):Option Unit :=
 some ()
def aR (n:Nat) (oA:Int):Option Unit :=
 some ()
def ji (n:Nat):Option Unit :=
 some ()
def kr (n:Nat):Option Unit :=
 (ji n).bind fun y1 =>
 some ()
def cR (n:Nat):Option Unit :=
 some ()
def dG (n:Nat):Option Unit :=
 (cR n).bind fun y1 =>
 some ()
def aE (n:Nat):Option Unit :=
 (kr n).bind fun y1 =>
 (dG n).bind fun y2 =>
 some ()
def au (n:Nat):Option Unit :=
 some ()
def aF (n:Nat):Option Unit :=
 some ()
def c7 (n:Nat) (c:bG) (at_:Int):Option (List Int) :=
 if (decide (at_<0))=true then
  some ([]:List Int)
 else
  if (decide (at_≥(c.Steps.length:Int)))=true then
   some ([]:List Int)
  else
   (ba c.Steps at_).bind fun x3 =>
   if (x3.Op != 8)=true then
    if (x3.Op != 10)=true then
     if (decide ((aH .i64 at_ 1)<(c.Steps.length:Int)))=true then
      (cM n x3.Op).bind fun y7 =>
      if ((fc .i64 y7 64) != 0)=true then
       if (decide (x3.To≥0))=true then
        if (decide (x3.To<(c.Steps.length:Int)))=true then
         (bh n (aH .i64 at_ 1) x3.To).bind fun y11 =>
         (aL n y11.1 y11.2).bind fun y12 =>
         match y12 with
         | .inl wa13 =>
          (bM n y11.1 wa13).bind fun y14 =>
          some ([y11.1]:List Int)
         | .inr wb13 =>
          (bC n y11.1 y11.2).bind fun y14 =>
          some ([y11.1,y11.2]:List Int)
        else
         (aQ n (aH .i64 at_ 1)).bind fun y11 =>
         (aI n (aH .i64 at_ 1)).bind fun y12 =>
         (aR n (aH .i64 at_ 1)).bind fun y13 =>
         some ([(aH .i64 at_ 1)]:List Int)
       else
        (aQ n (aH .i64 at_ 1)).bind fun y10 =>
        (aI n (aH .i64 at_ 1)).bind fun y11 =>
        (aR n (aH .i64 at_ 1)).bind fun y12 =>
        some ([(aH .i64 at_ 1)]:List Int)
      else
       (aQ n (aH .i64 at_ 1)).bind fun y9 =>
       (aI n (aH .i64 at_ 1)).bind fun y10 =>
       (aR n (aH .i64 at_ 1)).bind fun y11 =>
       some ([(aH .i64 at_ 1)]:List Int)
     else
      (cM n x3.Op).bind fun y7 =>
      if ((fc .i64 y7 64) != 0)=true then
       if (decide (x3.To≥0))=true then
        if (decide (x3.To<(c.Steps.length:Int)))=true then
         (aQ n x3.To).bind fun y11 =>
         (aI n x3.To).bind fun y12 =>
         (aR n x3.To).bind fun y13 =>
         some ([x3.To]:List Int)
        else
         (aE n).bind fun y11 =>
         (au n).bind fun y12 =>
         (aF n).bind fun y13 =>
         some ([]:List Int)
       else
        (aE n).bind fun y10 =>
        (au n).bind fun y11 =>
        (aF n).bind fun y12 =>
        some ([]:List Int)
      else
       (aE n).bind fun y9 =>
       (au n).bind fun y10 =>
       (aF n).bind fun y11 =>
       some ([]:List Int)
    else
     (cM n x3.Op).bind fun y6 =>
     if ((fc .i64 y6 64) != 0)=true then
      if (decide (x3.To≥0))=true then
       if (decide (x3.To<(c.Steps.length:Int)))=true then
        (aQ n x3.To).bind fun y10 =>
        (aI n x3.To).bind fun y11 =>
        (aR n x3.To).bind fun y12 =>
        some ([x3.To]:List Int)
       else
        (aE n).bind fun y10 =>
        (au n).bind fun y11 =>
        (aF n).bind fun y12 =>
        some ([]:List Int)
      else
       (aE n).bind fun y9 =>
       (au n).bind fun y10 =>
       (aF n).bind fun y11 =>
       some ([]:List Int)
     else
      (aE n).bind fun y8 =>
      (au n).bind fun y9 =>
      (aF n).bind fun y10 =>
      some ([]:List Int)
   else
    (cM n x3.Op).bind fun y5 =>
    if ((fc .i64 y5 64) != 0)=true then
     if (decide (x3.To≥0))=true then
      if (decide (x3.To<(c.Steps.length:Int)))=true then
       (aQ n x3.To).bind fun y9 =>
       (aI n x3.To).bind fun y10 =>
       (aR n x3.To).bind fun y11 =>
       some ([x3.To]:List Int)
      else
       (aE n).bind fun y9 =>
       (au n).bind fun y10 =>
       (aF n).bind fun y11 =>
       some ([]:List Int)
     else
      (aE n).bind fun y8 =>
      (au n).bind fun y9 =>
      (aF n).bind fun y10 =>
      some ([]:List Int)
    else
     (aE n).bind fun y7 =>
     (au n).bind fun y8 =>
     (aF n).bind fun y9 =>
     some ([]:List Int)
def tU (n:Nat) (oA:(List (Option (List Int)))) (oB:(List Int)):Option Unit :=
 grd (fN oB) <|
 grd (Nat.ble (oB.length * 8) 140737488355328) <|
 some ()
def mZ (n:Nat) (oA:(List (Option (List Int)))) (oB:Nat) (oC:(List Int)) (sa:(List Int)×Bool×Int):Option (((List Int)×Bool×Int)⊕((List Int)×Bool)) :=
 if (decide (sa.2.2<(oC.length:Int)))=true then
  (ba oC sa.2.2).bind fun xa2 =>
  if sa.2.1=true then
   (ba sa.1 sa.2.2).bind fun xa4 =>
   some (.inl ((sa.1.set (sa.2.2).toNat (fc .u64 xa4 xa2)),true,(aH .i64 sa.2.2 1)))
  else
   (ba sa.1 sa.2.2).bind fun xa4 =>
   some (.inl ((sa.1.set (sa.2.2).toNat (fc .u64 xa4 xa2)),((fc .u64 xa4 xa2) != xa4),(aH .i64 sa.2.2 1)))
 else
  some (.inr (sa.1,sa.2.1))
def zH (n:Nat) (oA:(List (Option (List Int)))) (oB:Nat) (oC:(List Int)) (oD:(List Int)):Option (Bool×(List Int)) :=
 (iter (fun s=>mZ n oA oB oC s) n (oD,false,0)).bind fun t1 =>
 some (t1.2,t1.1)
def cF (n:Nat) (oA:(List (Option (List Int)))) (oB:(List Int)) (oC:(List Int)):Option Unit :=
 grd (fN oC) <|
 grd (Nat.ble (oC.length * 8) 140737488355328) <|
 some ()
def eQ (n:Nat) (oA:(List (Option (List Int)))) (oB:Nat) (oC:(List Int)) (oD:(List Int)) (sa:(List Int)×Bool×Int):Option (((List Int)×Bool×Int)⊕((List Int)×Bool)) :=
 if (decide (sa.2.2<(oD.length:Int)))=true then
  (ba oD sa.2.2).bind fun xa2 =>
  if sa.2.1=true then
   (ba sa.1 sa.2.2).bind fun xa4 =>
   some (.inl ((sa.1.set (sa.2.2).toNat (fc .u64 xa4 xa2)),true,(aH .i64 sa.2.2 1)))
  else
   (ba sa.1 sa.2.2).bind fun xa4 =>
   some (.inl ((sa.1.set (sa.2.2).toNat (fc .u64 xa4 xa2)),((fc .u64 xa4 xa2) != xa4),(aH .i64 sa.2.2 1)))
 else
  some (.inr (sa.1,sa.2.1))
def gC (n:Nat) (oA:(List (Option (List Int)))) (oB:Nat) (oC:(List Int)) (oD:(List Int)) (oE:(List Int)):Option (Bool×(List Int)) :=
 (iter (fun s=>eQ n oA oB oC oD s) n (oE,false,0)).bind fun t1 =>
 some (t1.2,t1.1)
def cG (n:Nat) (oA:(List (Option (List Int)))) (oB:Nat) (oC:(List Int)) (oD:(List Int)):Option Unit :=
 grd (fN oD) <|
 grd (Nat.ble (oD.length * 8) 140737488355328) <|
 some ()
def fg (n:Nat) (n_:Int) (oA:(List (Option (List Int)))) (oB:(List Int)) (oC:(List Int)):Option (List Int) :=
 (ba oC (bW .i64 n_ 64)).bind fun x1 =>
 grd (decide ((0:Int)≤(gg .i64 n_ 64))) <|
 some (oC.set ((bW .i64 n_ 64)).toNat (lD .u64 x1 (kh .u64 1 (gg .i64 n_ 64))))
def fR (n:Nat):Option Unit :=
 some ()
def g5 (n:Nat):Option Unit :=
 (fR n).bind fun y1 =>
 some ()
def bR (n:Nat) (oA:Int) (oB:Int) (oC:Int):Option (Int×Int×Int) :=
 (cmp_Less_int n oB oA).bind fun y1 =>
 if y1=true then
  (cmp_Less_int n oC oA).bind fun y3 =>
  if y3=true then
   (cmp_Less_int n oC oB).bind fun y5 =>
   if y5=true then
    some (oC,oB,oA)
   else
    some (oB,oC,oA)
  else
   some (oB,oA,oC)
 else
  (cmp_Less_int n oC oB).bind fun y3 =>
  if y3=true then
   (cmp_Less_int n oC oA).bind fun y5 =>
   if y5=true then
    some (oC,oA,oB)
   else
    some (oA,oC,oB)
  else
   some (oA,oB,oC)
def cw (n:Nat) (oA:Int) (oB:Int) (oC:Int):Option (Int×Int×Int) :=
 (bR n oA oB oC).bind fun y1 =>
 some (y1.1,y1.2.1,y1.2.2)
def b6 (n:Nat) (oA:Int) (oB:Int) (oC:Int):Option (Int×Int×Int) :=
 (g5 n).bind fun y1 =>
 (cw n oA oB oC).bind fun y2 =>
 some (y2.1,y2.2.1,y2.2.2)
def bD (n:Nat) (oA:Int) (oB:Int) (oC:Int):Option ((Int×Int)⊕((Int×Int)⊕Unit)) :=
 if (oB==oA)=true then
  if (oC != oB)=true then
   some (.inl (oC,0))
  else
   some (.inr (.inl (0,0)))
 else
  if (oC==oB)=true then
   some (.inl (oB,0))
  else
   some (.inr (.inr ()))
def dq (n:Nat) (oA:Int) (oB:Int) (oC:Int):Option Unit :=
 some ()
def dr (n:Nat) (oA:Int) (oB:Int) (oC:Int):Option Unit :=
 some ()
def du (n:Nat) (oA:Int) (oB:Int) (oC:Int):Option Unit :=
 some ()
def c6 (n:Nat) (s_:ab):Option (List Int) :=
 (cM n s_.Op).bind fun y1 =>
 if (y1==0)=true then
  (aE n).bind fun y3 =>
  (au n).bind fun y4 =>
  (aF n).bind fun y5 =>
  some ([]:List Int)
 else
  if (y1==2)=true then
   (aQ n s_.B).bind fun y3 =>
   (aI n s_.B).bind fun y4 =>
   (aR n s_.B).bind fun y5 =>
   some ([s_.B]:List Int)
  else
   if (y1==3)=true then
    (aQ n s_.B).bind fun y3 =>
    (aI n s_.B).bind fun y4 =>
    (aR n s_.B).bind fun y5 =>
    some ([s_.B]:List Int)
   else
    if (y1==17)=true then
     (aE n).bind fun y3 =>
     (au n).bind fun y4 =>
     (aF n).bind fun y5 =>
     some ([]:List Int)
    else
     if (y1==39)=true then
      (bh n s_.B s_.C_).bind fun y3 =>
      (aL n y3.1 y3.2).bind fun y4 =>
      match y4 with
      | .inl wa5 =>
       (bM n y3.1 wa5).bind fun y6 =>
       some ([y3.1]:List Int)
      | .inr wb5 =>
       (bC n y3.1 y3.2).bind fun y6 =>
       some ([y3.1,y3.2]:List Int)
     else
      if (y1==64)=true then
       (aE n).bind fun y3 =>
       (au n).bind fun y4 =>
       (aF n).bind fun y5 =>
       some ([]:List Int)
      else
       if (y1==66)=true then
        (aQ n s_.B).bind fun y3 =>
        (aI n s_.B).bind fun y4 =>
        (aR n s_.B).bind fun y5 =>
        some ([s_.B]:List Int)
       else
        if (y1==147)=true then
         (aQ n s_.B).bind fun y3 =>
         (aI n s_.B).bind fun y4 =>
         (aR n s_.B).bind fun y5 =>
         some ([s_.B]:List Int)
        else
         if (y1==150)=true then
          (bh n s_.B s_.C_).bind fun y3 =>
          (aL n y3.1 y3.2).bind fun y4 =>
          match y4 with
          | .inl wa5 =>
           (bM n y3.1 wa5).bind fun y6 =>
           some ([y3.1]:List Int)
          | .inr wb5 =>
           (bC n y3.1 y3.2).bind fun y6 =>
           some ([y3.1,y3.2]:List Int)
         else
          if (y1==159)=true then
           (b6 n s_.B s_.C_ s_.D).bind fun y3 =>
           (bD n y3.1 y3.2.1 y3.2.2).bind fun y4 =>
           match y4 with
           | .inl wa5 =>
            (dq n y3.1 wa5.1 wa5.2).bind fun y6 =>
            some ([y3.1,wa5.1]:List Int)
           | .inr (.inl wb5) =>
            (dr n y3.1 wb5.1 wb5.2).bind fun y6 =>
            some ([y3.1]:List Int)
           | .inr (.inr wc5) =>
            (du n y3.1 y3.2.1 y3.2.2).bind fun y6 =>
            some ([y3.1,y3.2.1,y3.2.2]:List Int)
          else
           none
def eY (n:Nat) (s_:(List Int)) (n_:Int):Option Bool :=
 (ba s_ (bW .i64 n_ 64)).bind fun x1 =>
 grd (decide ((0:Int)≤(gg .i64 n_ 64))) <|
 some ((fc .u64 (yA .u64 x1 (gg .i64 n_ 64)) 1)==1)
def dH (n:Nat) (r_:Int) (oA:(List (Option (List Int)))) (oB:Nat) (oC:Int) (oD:(List Int)):Option Bool :=
 (ba oA oC).bind fun x1 =>
 grd (Nat.beq ((oC).toNat) oB&&Nat.blt oB oA.length) <|
 (eY n oD r_).bind fun y3 =>
 some (!y3)
def bJ (n:Nat) (s_:(List Int)) (oA:(List (Option (List Int)))) (oB:Nat) (oC:Int) (oD:(List Int)) (sa:Int):Option (Int⊕(Unit⊕Int)) :=
 if (decide (sa<(s_.length:Int)))=true then
  (ba s_ sa).bind fun xa2 =>
  (dH n xa2 oA oB oC oD).bind fun ya3 =>
  if ya3=true then
   some (.inr (.inr sa))
  else
   some (.inl (aH .i64 sa 1))
 else
  some (.inr (.inl ()))
def cT (n:Nat) (s_:(List Int)) (oA:(List (Option (List Int)))) (oB:Nat) (oC:Int) (oD:(List Int)):Option Int :=
 (iter (fun s=>bJ n s_ oA oB oC oD s) n 0).bind fun t1 =>
 match t1 with
 | .inl w2 =>
  some (-1)
 | .inr w2 =>
  some w2
def bK (n:Nat) (s_:(List Int)) (oA:(List (Option (List Int)))) (oB:Nat) (oC:Int) (oD:(List Int)):Option Bool :=
 (cT n s_ oA oB oC oD).bind fun y1 =>
 some (decide (y1≥0))
def ck (n:Nat) (c:bG) (sb:(List (Option (List Int)))×(List Int)×(List Int)×(List Int)×Int×Int):Option (((List (Option (List Int)))×(List Int)×(List Int)×(List Int)×Int×Int)⊕((List (Option (List Int)))×(List Int))) :=
 if (decide (sb.2.2.2.2.2<sb.2.2.2.2.1))=true then
  (ba sb.2.2.2.1 sb.2.2.2.2.2).bind fun xb2 =>
  (ba sb.1 xb2).bind fun xb3 =>
  matchO xb3 (
   (cF n sb.1 sb.2.1 sb.2.2.1).bind fun yb5 =>
   grd (Nat.ble ((sb.2.1.length + 1) * 8) 140737488355328) <|
   some (.inl ((sb.1.set (xb2).toNat (some sb.2.2.1)),(sb.2.1++([xb2]:List Int)),sb.2.2.1,sb.2.2.2.1,sb.2.2.2.2.1,(aH .i64 sb.2.2.2.2.2 1)))) fun zb4 =>
   grd (fN zb4) <|
   (gC n sb.1 ((xb2).toNat) sb.2.1 sb.2.2.1 zb4).bind fun yb7 =>
   if (!yb7.1)=true then
    some (.inl ((sb.1.set (xb2).toNat (some yb7.2)),sb.2.1,sb.2.2.1,sb.2.2.2.1,sb.2.2.2.2.1,(aH .i64 sb.2.2.2.2.2 1)))
   else
    grd (Nat.ble ((sb.2.1.length + 1) * 8) 140737488355328) <|
    some (.inl ((sb.1.set (xb2).toNat (some yb7.2)),(sb.2.1++([xb2]:List Int)),sb.2.2.1,sb.2.2.2.1,sb.2.2.2.2.1,(aH .i64 sb.2.2.2.2.2 1)))
 else
  some (.inr (sb.1,sb.2.1))
def dW (n:Nat) (c:bG) (sa:(List (Option (List Int)))×(List Int)):Option (((List (Option (List Int)))×(List Int))⊕((List (Option (List Int))))) :=
 if (decide ((sa.2.length:Int)>0))=true then
  (ba sa.2 (aW .i64 (sa.2.length:Int) 1)).bind fun xa2 =>
  grd (decide ((0:Int)≤(aW .i64 (sa.2.length:Int) 1))&&decide ((aW .i64 (sa.2.length:Int) 1)≤(sa.2.length:Int))) <|
  (ba sa.1 xa2).bind fun xa4 =>
  matchO xa4 (
   none) fun za5 =>
   (cG n sa.1 ((xa2).toNat) (sa.2.take (((aW .i64 (sa.2.length:Int) 1)).toNat)) za5).bind fun ya7 =>
   (ba c.Steps xa2).bind fun xa8 =>
   (eP n xa8).bind fun ya9 =>
   if ya9.2=true then
    (fg n ya9.1 (sa.1.set (xa2).toNat (some za5)) (sa.2.take (((aW .i64 (sa.2.length:Int) 1)).toNat)) za5).bind fun ya11 =>
    (c7 n c xa2).bind fun ya12 =>
    (iter (fun s=>ck n c s) n ((sa.1.set (xa2).toNat (some za5)),(sa.2.take (((aW .i64 (sa.2.length:Int) 1)).toNat)),ya11,ya12,(ya12.length:Int),0)).bind fun ta13 =>
    some (.inl (ta13.1,ta13.2))
   else
    (c7 n c xa2).bind fun ya11 =>
    (iter (fun s=>ck n c s) n ((sa.1.set (xa2).toNat (some za5)),(sa.2.take (((aW .i64 (sa.2.length:Int) 1)).toNat)),za5,ya11,(ya11.length:Int),0)).bind fun ta12 =>
    some (.inl (ta12.1,ta12.2))
 else
  some (.inr sa.1)
def dX (n:Nat) (c:bG) (sa:(List (Option (List Int)))×Int):Option (((List (Option (List Int)))×Int)⊕(Unit⊕Unit)) :=
 if (decide (sa.2<(c.Steps.length:Int)))=true then
  (ba c.Steps sa.2).bind fun xa2 =>
  (ba sa.1 sa.2).bind fun xa3 =>
  matchO xa3 (
   some (.inl (sa.1,(aH .i64 sa.2 1)))) fun za4 =>
   grd (fN za4) <|
   (c6 n xa2).bind fun ya7 =>
   (bK n ya7 sa.1 ((sa.2).toNat) sa.2 za4).bind fun ya8 =>
   if ya8=true then
    some (.inr (.inr ()))
   else
    some (.inl ((sa.1.set (sa.2).toNat (some za4)),(aH .i64 sa.2 1)))
 else
  some (.inr (.inl ()))
def eZ (n:Nat) (c:bG):Option Bool :=
 grd (decide ((0:Int)≤(c.Steps.length:Int))&&decide ((c.Steps.length:Int)≤(c.Steps.length:Int))&&decide (24 * (c.Steps.length:Int)≤140737488355328)&&decide ((c.Steps.length:Int)≤140737488355328)&&Nat.blt 0 1) <|
 (mY n c.Regs (List.replicate ((c.Steps.length:Int)).toNat (none:Option (List Int)))).bind fun y2 =>
 (ba (List.replicate ((c.Steps.length:Int)).toNat (none:Option (List Int))) 0).bind fun x3 =>
 (iter (fun s=>dW n c s) n (((List.replicate ((c.Steps.length:Int)).toNat (none:Option (List Int))).set 0 (some y2)),([0]:List Int))).bind fun t4 =>
 (iter (fun s=>dX n c s) n (t4,0)).bind fun t5 =>
 match t5 with
 | .inl w6 =>
  some true
 | .inr w6 =>
  some false
def gW (n:Nat) (c:bG):Option Int :=
 if (decide (c.Regs<0))=true then
  some 2
 else
  if (decide (c.Regs>1024))=true then
   some 2
  else
   if (decide ((c.Steps.length:Int)<1))=true then
    some 2
   else
    if (decide ((c.Steps.length:Int)>4096))=true then
     some 2
    else
     (ba c.Steps (aW .i64 (c.Steps.length:Int) 1)).bind fun x5 =>
     if (x5.Op != 8)=true then
      if (x5.Op != 10)=true then
       some 2
      else
       (aC n c.Steps c.Regs c.Steps (c.Steps.length:Int)).bind fun y8 =>
       if y8=true then
        some 2
       else
        if (decide (c.Regs>0))=true then
         (eZ n c).bind fun y11 =>
         if (!y11)=true then
          some 2
         else
          some 0
        else
         some 0
     else
      (aC n c.Steps c.Regs c.Steps (c.Steps.length:Int)).bind fun y7 =>
      if y7=true then
       some 2
      else
       if (decide (c.Regs>0))=true then
        (eZ n c).bind fun y10 =>
        if (!y10)=true then
         some 2
        else
         some 0
       else
        some 0
def CK (n:Nat) (n_:Int) (oA:(List (Option (List Int)))) (oB:(List (Option (List Int)))):Option (List Int) :=
 grd (decide ((0:Int)≤(bW .i64 (aH .i64 n_ 63) 64))&&decide ((bW .i64 (aH .i64 n_ 63) 64)≤(bW .i64 (aH .i64 n_ 63) 64))&&decide (8 * (bW .i64 (aH .i64 n_ 63) 64)≤140737488355328)&&decide ((bW .i64 (aH .i64 n_ 63) 64)≤140737488355328)&&Nat.blt 0 1) <|
 some (List.replicate ((bW .i64 (aH .i64 n_ 63) 64)).toNat 0)
def jj (n:Nat) (n_:Int) (oA:(List (Option (List Int)))) (oB:(List (Option (List Int)))) (oC:(List Int)):Option (List Int) :=
 grd (decide ((0:Int)≤(bW .i64 (aH .i64 n_ 63) 64))&&decide ((bW .i64 (aH .i64 n_ 63) 64)≤(bW .i64 (aH .i64 n_ 63) 64))&&decide (8 * (bW .i64 (aH .i64 n_ 63) 64)≤140737488355328)&&decide ((bW .i64 (aH .i64 n_ 63) 64)≤140737488355328)&&Nat.blt 0 1) <|
 some (List.replicate ((bW .i64 (aH .i64 n_ 63) 64)).toNat 0)
def fh (n:Nat) (oA:(List (Option (List Int)))) (oB:Nat) (oC:(List (Option (List Int)))) (oD:(List Int)) (oF:(List Int)) (sa:(List Int)×Bool×Int):Option (((List Int)×Bool×Int)⊕((List Int)×Bool)) :=
 if (decide (sa.2.2<(oF.length:Int)))=true then
  (ba oF sa.2.2).bind fun xa2 =>
  if sa.2.1=true then
   (ba sa.1 sa.2.2).bind fun xa4 =>
   some (.inl ((sa.1.set (sa.2.2).toNat (lD .u64 xa4 xa2)),true,(aH .i64 sa.2.2 1)))
  else
   (ba sa.1 sa.2.2).bind fun xa4 =>
   some (.inl ((sa.1.set (sa.2.2).toNat (lD .u64 xa4 xa2)),((lD .u64 xa4 xa2) != xa4),(aH .i64 sa.2.2 1)))
 else
  some (.inr (sa.1,sa.2.1))
def g6 (n:Nat) (oA:(List (Option (List Int)))) (oB:Nat) (oC:(List (Option (List Int)))) (oD:(List Int)) (oE:(List Int)) (oF:(List Int)):Option (Bool×(List Int)) :=
 (iter (fun s=>fh n oA oB oC oD oF s) n (oE,false,0)).bind fun t1 =>
 some (t1.2,t1.1)
def fj (n:Nat) (n_:Int) (oA:(List (Option (List Int)))) (oB:(List (Option (List Int)))) (oC:(List Int)) (oD:(List Int)):Option (List Int) :=
 (ba oD (bW .i64 n_ 64)).bind fun x1 =>
 grd (decide ((0:Int)≤(gg .i64 n_ 64))) <|
 some (oD.set ((bW .i64 n_ 64)).toNat (jA .u64 x1 (kh .u64 1 (gg .i64 n_ 64))))
def fk (n:Nat) (n_:Int) (oA:(List (Option (List Int)))) (oB:(List (Option (List Int)))) (oC:(List Int)) (oD:(List Int)):Option (List Int) :=
 (ba oD (bW .i64 n_ 64)).bind fun x1 =>
 grd (decide ((0:Int)≤(gg .i64 n_ 64))) <|
 some (oD.set ((bW .i64 n_ 64)).toNat (lD .u64 x1 (kh .u64 1 (gg .i64 n_ 64))))
def eT (n:Nat) (oA:(List (Option (List Int)))) (oB:Nat) (oC:(List (Option (List Int)))) (oD:(List Int)) (oE:(List Int)) (sa:(List Int)×Bool×Int):Option (((List Int)×Bool×Int)⊕((List Int)×Bool)) :=
 if (decide (sa.2.2<(oE.length:Int)))=true then
  (ba oE sa.2.2).bind fun xa2 =>
  if sa.2.1=true then
   (ba sa.1 sa.2.2).bind fun xa4 =>
   some (.inl ((sa.1.set (sa.2.2).toNat (lD .u64 xa4 xa2)),true,(aH .i64 sa.2.2 1)))
  else
   (ba sa.1 sa.2.2).bind fun xa4 =>
   some (.inl ((sa.1.set (sa.2.2).toNat (lD .u64 xa4 xa2)),((lD .u64 xa4 xa2) != xa4),(aH .i64 sa.2.2 1)))
 else
  some (.inr (sa.1,sa.2.1))
def b8 (n:Nat) (oA:(List (Option (List Int)))) (oB:Nat) (oC:(List (Option (List Int)))) (oD:(List Int)) (oE:(List Int)) (oF:(List Int)):Option (Bool×(List Int)) :=
 (iter (fun s=>eT n oA oB oC oD oE s) n (oF,false,0)).bind fun t1 =>
 some (t1.2,t1.1)
def dT (n:Nat) (n_:Int) (oA:(List (Option (List Int)))) (oB:Nat) (oC:(List (Option (List Int)))) (oD:(List Int)) (sa:(List Int)×Int):Option (((List Int)×Int)⊕((List Int))) :=
 if (decide (sa.2<n_))=true then
  (eY n oD sa.2).bind fun ya2 =>
  if ya2=true then
   grd (Nat.ble ((sa.1.length + 1) * 8) 140737488355328) <|
   some (.inl ((sa.1++([sa.2]:List Int)),(aH .i64 sa.2 1)))
  else
   some (.inl (sa.1,(aH .i64 sa.2 1)))
 else
  some (.inr sa.1)
def dY (n:Nat) (n_:Int) (oA:(List (Option (List Int)))) (oB:Nat) (oC:(List (Option (List Int)))) (oD:(List Int)):Option (List Int) :=
 (iter (fun s=>dT n n_ oA oB oC oD s) n (([]:List Int),0)).bind fun t1 =>
 some t1
def gh (n:Nat) (c:bG) (ya5:(List Int)) (sb:(List (Option (List Int)))×(List (Option (List Int)))×(List Int)×Int×Int×Int):Option (((List (Option (List Int)))×(List (Option (List Int)))×(List Int)×Int×Int×Int)⊕((List (Option (List Int)))×(List (Option (List Int)))×(List Int)×Int)) :=
 if (decide (sb.2.2.2.2.1<(ya5.length:Int)))=true then
  (ba ya5 sb.2.2.2.2.1).bind fun xb2 =>
  (ba sb.2.1 xb2).bind fun xb3 =>
  matchO xb3 (
   some (.inl (sb.1,(sb.2.1.set (xb2).toNat (some ([sb.2.2.2.2.2]:List Int))),sb.2.2.1,sb.2.2.2.1,(aH .i64 sb.2.2.2.2.1 1),sb.2.2.2.2.2))) fun zb4 =>
   grd (Nat.ble ((zb4.length + 1) * 8) 140737488355328) <|
   some (.inl (sb.1,(sb.2.1.set (xb2).toNat (some (zb4++([sb.2.2.2.2.2]:List Int)))),sb.2.2.1,sb.2.2.2.1,(aH .i64 sb.2.2.2.2.1 1),sb.2.2.2.2.2))
 else
  some (.inr (sb.1,sb.2.1,sb.2.2.1,sb.2.2.2.1))
def gi (n:Nat) (c:bG) (sa:(List (Option (List Int)))×(List (Option (List Int)))×(List Int)×Int):Option (((List (Option (List Int)))×(List (Option (List Int)))×(List Int)×Int)⊕((List (Option (List Int)))×(List (Option (List Int)))×(List Int))) :=
 if (decide (sa.2.2.2<(c.Steps.length:Int)))=true then
  (jj n c.Regs sa.1 sa.2.1 sa.2.2.1).bind fun ya2 =>
  (ba sa.1 sa.2.2.2).bind fun xa3 =>
  grd (Nat.ble ((sa.2.2.1.length + 1) * 8) 140737488355328) <|
  (c7 n c sa.2.2.2).bind fun ya5 =>
  (iter (fun s=>gh n c ya5 s) n ((sa.1.set (sa.2.2.2).toNat (some ya2)),sa.2.1,(sa.2.2.1++([sa.2.2.2]:List Int)),sa.2.2.2,0,sa.2.2.2)).bind fun ta6 =>
  some (.inl (ta6.1,ta6.2.1,ta6.2.2.1,(aH .i64 ta6.2.2.2 1)))
 else
  some (.inr (sa.1,sa.2.1,sa.2.2.1))
def gj (n:Nat) (c:bG) (t15:((List (Option (List Int)))×(List (Option (List Int)))×(List Int))) (xa2:Int) (ya5:(List Int)) (sb:(List (Option (List Int)))×(List Int)×(List Int)×Int):Option (((List (Option (List Int)))×(List Int)×(List Int)×Int)⊕((List (Option (List Int)))×(List Int)×(List Int))) :=
 if (decide (sb.2.2.2<(ya5.length:Int)))=true then
  (ba ya5 sb.2.2.2).bind fun xb2 =>
  (ba sb.1 xb2).bind fun xb3 =>
  matchO xb3 (
   none) fun zb4 =>
   (g6 n sb.1 ((xb2).toNat) t15.2.1 sb.2.1 sb.2.2.1 zb4).bind fun yb6 =>
   some (.inl ((sb.1.set (xb2).toNat (some zb4)),sb.2.1,yb6.2,(aH .i64 sb.2.2.2 1)))
 else
  some (.inr (sb.1,sb.2.1,sb.2.2.1))
def dp (n:Nat) (c:bG) (t15:((List (Option (List Int)))×(List (Option (List Int)))×(List Int))) (xa2:Int) (ta6:((List (Option (List Int)))×(List Int)×(List Int))) (sb:(List Int)×(List Int)×(List Int)×Int×Int):Option (((List Int)×(List Int)×(List Int)×Int×Int)⊕((List Int)×(List Int))) :=
 if (decide (sb.2.2.2.2<sb.2.2.2.1))=true then
  (ba sb.2.2.1 sb.2.2.2.2).bind fun xb2 =>
  (fk n xb2 ta6.1 t15.2.1 sb.1 sb.2.1).bind fun yb3 =>
  some (.inl (sb.1,yb3,sb.2.2.1,sb.2.2.2.1,(aH .i64 sb.2.2.2.2 1)))
 else
  some (.inr (sb.1,sb.2.1))
def gk (n:Nat) (c:bG) (t15:((List (Option (List Int)))×(List (Option (List Int)))×(List Int))) (sa:(List (Option (List Int)))×(List Int)):Option (((List (Option (List Int)))×(List Int))⊕((List (Option (List Int))))) :=
 if (decide ((sa.2.length:Int)>0))=true then
  (ba sa.2 (aW .i64 (sa.2.length:Int) 1)).bind fun xa2 =>
  grd (decide ((0:Int)≤(aW .i64 (sa.2.length:Int) 1))&&decide ((aW .i64 (sa.2.length:Int) 1)≤(sa.2.length:Int))) <|
  (jj n c.Regs sa.1 t15.2.1 (sa.2.take (((aW .i64 (sa.2.length:Int) 1)).toNat))).bind fun ya4 =>
  (c7 n c xa2).bind fun ya5 =>
  (iter (fun s=>gj n c t15 xa2 ya5 s) n (sa.1,(sa.2.take (((aW .i64 (sa.2.length:Int) 1)).toNat)),ya4,0)).bind fun ta6 =>
  (ba c.Steps xa2).bind fun xa7 =>
  (eP n xa7).bind fun ya8 =>
  if ya8.2=true then
   (fj n ya8.1 ta6.1 t15.2.1 ta6.2.1 ta6.2.2).bind fun ya10 =>
   (c6 n xa7).bind fun ya11 =>
   (iter (fun s=>dp n c t15 xa2 ta6 s) n (ta6.2.1,ya10,ya11,(ya11.length:Int),0)).bind fun ta12 =>
   (ba ta6.1 xa2).bind fun xa13 =>
   matchO xa13 (
    none) fun za14 =>
    (b8 n ta6.1 ((xa2).toNat) t15.2.1 ta12.1 ta12.2 za14).bind fun ya16 =>
    if ya16.1=true then
     (ba t15.2.1 xa2).bind fun xa18 =>
     matchO xa18 (
      grd (Nat.ble ((ta12.1.length + 0) * 8) 140737488355328) <|
      some (.inl ((ta6.1.set (xa2).toNat (some ya16.2)),(ta12.1++([]:List Int))))) fun za19 =>
      grd (Nat.ble ((ta12.1.length + za19.length) * 8) 140737488355328) <|
      some (.inl ((ta6.1.set (xa2).toNat (some ya16.2)),(ta12.1++za19)))
    else
     some (.inl ((ta6.1.set (xa2).toNat (some ya16.2)),ta12.1))
  else
   (c6 n xa7).bind fun ya10 =>
   (iter (fun s=>dp n c t15 xa2 ta6 s) n (ta6.2.1,ta6.2.2,ya10,(ya10.length:Int),0)).bind fun ta11 =>
   (ba ta6.1 xa2).bind fun xa12 =>
   matchO xa12 (
    none) fun za13 =>
    (b8 n ta6.1 ((xa2).toNat) t15.2.1 ta11.1 ta11.2 za13).bind fun ya15 =>
    if ya15.1=true then
     (ba t15.2.1 xa2).bind fun xa17 =>
     matchO xa17 (
      grd (Nat.ble ((ta11.1.length + 0) * 8) 140737488355328) <|
      some (.inl ((ta6.1.set (xa2).toNat (some ya15.2)),(ta11.1++([]:List Int))))) fun za18 =>
      grd (Nat.ble ((ta11.1.length + za18.length) * 8) 140737488355328) <|
      some (.inl ((ta6.1.set (xa2).toNat (some ya15.2)),(ta11.1++za18)))
    else
     some (.inl ((ta6.1.set (xa2).toNat (some ya15.2)),ta11.1))
 else
  some (.inr sa.1)
def gl (n:Nat) (c:bG) (t16:((List (Option (List Int))))) (sa:(List (Option (List Int)))×(List (Option (List Int)))×Int):Option (((List (Option (List Int)))×(List (Option (List Int)))×Int)⊕((List (Option (List Int)))×(List (Option (List Int))))) :=
 if (decide (sa.2.2<(t16.length:Int)))=true then
  (ba sa.1 sa.2.2).bind fun xa2 =>
  matchO xa2 (
   none) fun za3 =>
   (dY n c.Regs sa.1 ((sa.2.2).toNat) sa.2.1 za3).bind fun ya5 =>
   (ba sa.2.1 sa.2.2).bind fun xa6 =>
   some (.inl ((sa.1.set (sa.2.2).toNat (some za3)),(sa.2.1.set (sa.2.2).toNat (some ya5)),(aH .i64 sa.2.2 1)))
 else
  some (.inr (sa.1,sa.2.1))
def m1 (n:Nat) (c:bG):Option (List (List Int)) :=
 (gW n c).bind fun y1 =>
 if (y1 != 0)=true then
  some ([]:List (List Int))
 else
  grd (decide ((0:Int)≤(c.Steps.length:Int))&&decide ((c.Steps.length:Int)≤(c.Steps.length:Int))&&decide (24 * (c.Steps.length:Int)≤140737488355328)&&decide ((c.Steps.length:Int)≤140737488355328)&&Nat.blt 0 1) <|
  grd (decide ((0:Int)≤(c.Steps.length:Int))&&decide ((c.Steps.length:Int)≤(c.Steps.length:Int))&&decide (24 * (c.Steps.length:Int)≤140737488355328)&&decide ((c.Steps.length:Int)≤140737488355328)&&Nat.blt 0 1) <|
  (iter (fun s=>gi n c s) n ((List.replicate ((c.Steps.length:Int)).toNat (none:Option (List Int))),(List.replicate ((c.Steps.length:Int)).toNat (none:Option (List Int))),([]:List Int),0)).bind fun t15 =>
  (iter (fun s=>gk n c t15 s) n (t15.1,t15.2.2)).bind fun t16 =>
  grd (decide ((0:Int)≤(t16.length:Int))&&decide ((t16.length:Int)≤(t16.length:Int))&&decide (24 * (t16.length:Int)≤140737488355328)&&decide ((t16.length:Int)≤140737488355328)&&Nat.blt 0 1) <|
  (iter (fun s=>gl n c t16 s) n (t16,(List.replicate ((t16.length:Int)).toNat (none:Option (List Int))),0)).bind fun t18 =>
  some (t18.2.map gD)
def lf (n:Nat) (l:(List Int)) (n_:Int) (sa:Int):Option (Int⊕(Unit⊕Unit)) :=
 if (decide (sa<(l.length:Int)))=true then
  (ba l sa).bind fun xa2 =>
  if (xa2==n_)=true then
   some (.inr (.inr ()))
  else
   some (.inl (aH .i64 sa 1))
 else
  some (.inr (.inl ()))
def ku (n:Nat) (l:(List Int)) (n_:Int):Option Bool :=
 (iter (fun s=>lf n l n_ s) n 0).bind fun t1 =>
 match t1 with
 | .inl w2 =>
  some false
 | .inr w2 =>
  some true
def gP (n:Nat) (c:bG) (r_:Int) (sa:(List Bool)×(List Int)):Option (((List Bool)×(List Int))⊕(Unit⊕Unit)) :=
 if (decide ((sa.2.length:Int)>0))=true then
  (ba sa.2 (aW .i64 (sa.2.length:Int) 1)).bind fun xa2 =>
  grd (decide ((0:Int)≤(aW .i64 (sa.2.length:Int) 1))&&decide ((aW .i64 (sa.2.length:Int) 1)≤(sa.2.length:Int))) <|
  (ba sa.1 xa2).bind fun xa4 =>
  if xa4=true then
   some (.inl (sa.1,(sa.2.take (((aW .i64 (sa.2.length:Int) 1)).toNat))))
  else
   (ba c.Steps xa2).bind fun xa6 =>
   (c6 n xa6).bind fun ya7 =>
   (ku n ya7 r_).bind fun ya8 =>
   if ya8=true then
    some (.inr (.inr ()))
   else
    (eP n xa6).bind fun ya10 =>
    if (!ya10.2)=true then
     (c7 n c xa2).bind fun ya12 =>
     grd (Nat.ble (((sa.2.take (((aW .i64 (sa.2.length:Int) 1)).toNat)).length + ya12.length) * 8) 140737488355328) <|
     some (.inl ((sa.1.set (xa2).toNat true),((sa.2.take (((aW .i64 (sa.2.length:Int) 1)).toNat))++ya12)))
    else
     if (ya10.1 != r_)=true then
      (c7 n c xa2).bind fun ya13 =>
      grd (Nat.ble (((sa.2.take (((aW .i64 (sa.2.length:Int) 1)).toNat)).length + ya13.length) * 8) 140737488355328) <|
      some (.inl ((sa.1.set (xa2).toNat true),((sa.2.take (((aW .i64 (sa.2.length:Int) 1)).toNat))++ya13)))
     else
      some (.inl ((sa.1.set (xa2).toNat true),(sa.2.take (((aW .i64 (sa.2.length:Int) 1)).toNat))))
 else
  some (.inr (.inl ()))
def lg (n:Nat) (c:bG) (at_:Int) (r_:Int):Option Bool :=
 grd (decide ((0:Int)≤(c.Steps.length:Int))&&decide ((c.Steps.length:Int)≤(c.Steps.length:Int))&&decide (1 * (c.Steps.length:Int)≤140737488355328)&&decide ((c.Steps.length:Int)≤140737488355328)&&Nat.blt 0 1) <|
 (iter (fun s=>gP n c r_ s) n ((List.replicate ((c.Steps.length:Int)).toNat false),([at_]:List Int))).bind fun t2 =>
 match t2 with
 | .inl w3 =>
  some false
 | .inr w3 =>
  some true
def dZ (n:Nat) (c:bG) (y7:(List (List Int))) (ya3:Int×Bool) (ya4:(List Int)) (sd:Int×Int×Int×Bool):Option ((Int×Int×Int×Bool)⊕(Int×Int×Bool)) :=
 if (decide (sd.1<(ya4.length:Int)))=true then
  if sd.2.2.2=true then
   some (.inl ((aH .i64 sd.1 1),sd.2.1,sd.2.2.1,true))
  else
   (ba ya4 sd.1).bind fun xd3 =>
   (ba y7 xd3).bind fun xd4 =>
   (ku n xd4 sd.2.2.1).bind fun yd5 =>
   if yd5=true then
    if ya3.2=true then
     some (.inl ((aH .i64 sd.1 1),sd.2.1,sd.2.2.1,!(ya3.1==sd.2.2.1)))
    else
     some (.inl ((aH .i64 sd.1 1),sd.2.1,sd.2.2.1,true))
   else
    some (.inl ((aH .i64 sd.1 1),sd.2.1,sd.2.2.1,false))
 else
  some (.inr (sd.2.1,sd.2.2.1,sd.2.2.2))
def d1 (n:Nat) (c:bG) (y7:(List (List Int))) (ya3:Int×Bool) (ya4:(List Int)) (sb:Int×Int):Option ((Int×Int)⊕(Int⊕Unit)) :=
 if (decide (sb.2<c.Regs))=true then
  (ba c.Steps sb.1).bind fun xb2 =>
  (c6 n xb2).bind fun yb3 =>
  (ku n yb3 sb.2).bind fun yb4 =>
  (iter (fun s=>dZ n c y7 ya3 ya4 s) n (0,sb.1,sb.2,yb4)).bind fun tb5 =>
  (ba y7 tb5.1).bind fun xb6 =>
  (ku n xb6 tb5.2.1).bind fun yb7 =>
  if (!(yb7==tb5.2.2))=true then
   some (.inr (.inr ()))
  else
   if tb5.2.2=true then
    (lg n c tb5.1 tb5.2.1).bind fun yb10 =>
    if (!yb10)=true then
     some (.inr (.inr ()))
    else
     some (.inl (tb5.1,(aH .i64 tb5.2.1 1)))
   else
    some (.inl (tb5.1,(aH .i64 tb5.2.1 1)))
 else
  some (.inr (.inl sb.1))
def fm (n:Nat) (c:bG) (y7:(List (List Int))) (sa:Int):Option (Int⊕(Unit⊕Unit)) :=
 if (decide (sa<(c.Steps.length:Int)))=true then
  (ba c.Steps sa).bind fun xa2 =>
  (eP n xa2).bind fun ya3 =>
  (c7 n c sa).bind fun ya4 =>
  (iter (fun s=>d1 n c y7 ya3 ya4 s) n (sa,0)).bind fun ta5 =>
  match ta5 with
  | .inl wa6 =>
   some (.inl (aH .i64 wa6 1))
  | .inr wa6 =>
   some (.inr (.inr ()))
 else
  some (.inr (.inl ()))
def gm (n:Nat) (c:bG):Option Bool :=
 (nS n).bind fun y1 =>
 if (!y1)=true then
  some false
 else
  if (decide ((c.Steps.length:Int)>120))=true then
   some true
  else
   if (decide (c.Regs>60))=true then
    some true
   else
    (gW n c).bind fun y5 =>
    if (y5 != 0)=true then
     some true
    else
     (m1 n c).bind fun y7 =>
     if ((y7.length:Int) != (c.Steps.length:Int))=true then
      some false
     else
      (iter (fun s=>fm n c y7 s) n 0).bind fun t9 =>
      match t9 with
      | .inl w10 =>
       some true
      | .inr w10 =>
       some false

end Go.Proofs.YteafbimadlcljaaDoor
