/- What the functions compute, as functions on lists and numbers. Printed by a program from the code; nothing is claimed here. -/
import Derived.Test.YtaekcekecdocnaaM0
namespace Go.Proofs.Ytaekcekecdocnaa
open Go A
set_option linter.unusedVariables false

structure Touch where
  mk ::
  Hart:Int
  At:Int
  Addr:Int
  Loads:Bool
  Stores:Bool
  Was:Int
  Now:Int
  Shared:Bool
structure jS where
  mk ::
  Op:Int
  A_:Int
  B:Int
  C_:Int
  D:Int
  Imm:Int
  Bin:Int
  To:Int
  Shared:Bool
structure zB where
  mk ::
  Regs:Int
  Steps:(List jS)
structure bU where
  mk ::
  code:zB
  regs:(List Int)
  at_:Int
  ended:Bool
  broken:Bool
  with_:Int
structure cT where
  mk ::
  harts:(List bU)
  words:(List Int)
def kI (n:Nat):Option Bool:=some true
def eV (n:Nat) (n_:Int):Option (Touch×Bool×Int) :=
 some ((Touch.mk 0 0 0 false false 0 0 false),false,1)
def eW (n:Nat) (n_:Int):Option (Touch×Bool×Int) :=
 some ((Touch.mk 0 0 0 false false 0 0 false),false,1)
def fU (n:Nat) (picks:(List Int)):Option ((List Touch)×Int) :=
 some (([]:List Touch),1)
def eX (n:Nat) (addr:Int):Option (Int×Int) :=
 some (0,1)
def a8 (n:Nat) (n_:Int):Option (Option bU) :=
 some (none:Option bU)
def eY (n:Nat) (n_:Int):Option (Int×Bool) :=
 (a8 n n_).bind fun y1 =>
 match y1 with
 | none =>
  some (0,false)
 | some z2 =>
  if (!z2.ended)=true then
   some (0,false)
  else
   some (z2.with_,true)
def dH (n:Nat) (n_:Int):Option Int :=
 (a8 n n_).bind fun y1 =>
 match y1 with
 | none =>
  some (-1)
 | some z2 =>
  some z2.at_
def de (n:Nat) (n_:Int) (reg:Int):Option Int :=
 (a8 n n_).bind fun y1 =>
 match y1 with
 | none =>
  some 0
 | some z2 =>
  if (decide (reg<0))=true then
   some 0
  else
   if (decide (reg≥(z2.regs.length:Int)))=true then
    some 0
   else
    (lW z2.regs reg).bind fun x5 =>
    some x5
def ca (n:Nat) (n_:Int):Option Bool :=
 (a8 n n_).bind fun y1 =>
 match y1 with
 | none =>
  some false
 | some z2 =>
  some z2.ended
def cb (n:Nat) (n_:Int):Option Bool :=
 (a8 n n_).bind fun y1 =>
 match y1 with
 | none =>
  some false
 | some z2 =>
  some z2.broken
def bo (n:Nat):Option (Option cT) :=
 some (none:Option cT)
def bS (n:Nat) (harts:Int) (steps:Int) (sa:(List Int)×Int):Option (((List Int)×Int)⊕((List Int))) :=
 if (decide (sa.2<((List.replicate (steps).toNat (0:Int)).length:Int)))=true then
  yN (decide (IntKind.i64=IntKind.i64)&&!(harts==0)) <|
  (lW sa.1 sa.2).bind fun xa3 =>
  some (.inl ((sa.1.set (sa.2).toNat (ol .i64 sa.2 harts)),(p_ .i64 sa.2 1)))
 else
  some (.inr sa.1)
def cJ (n:Nat) (harts:Int) (steps:Int):Option (List Int) :=
 if (decide (harts<1))=true then
  some ([]:List Int)
 else
  if (decide (steps<1))=true then
   some ([]:List Int)
  else
   if (decide (steps>65536))=true then
    some ([]:List Int)
   else
    yN (decide ((0:Int)≤steps)&&decide (steps≤steps)&&decide (8 * steps≤140737488355328)&&decide (steps≤140737488355328)&&Nat.blt 0 1) <|
    (iter (fun s=>bS n harts steps s) n ((List.replicate (steps).toNat (0:Int)),0)).bind fun t5 =>
    some t5
def bZ (n:Nat) (harts:Int) (steps:Int) (sa:(List Int)×Int):Option (((List Int)×Int)⊕((List Int))) :=
 if (decide (sa.2<steps))=true then
  yN (decide (IntKind.i64=IntKind.i64)&&!(harts==0)) <|
  yN (Nat.ble ((sa.1.length + 1) * 8) 140737488355328) <|
  some (.inl ((sa.1++([(ol .i64 sa.2 harts)]:List Int)),(p_ .i64 sa.2 1)))
 else
  some (.inr sa.1)
def dy (n:Nat) (harts:Int) (steps:Int):Option (List Int) :=
 if (decide (harts<1))=true then
  some ([]:List Int)
 else
  if (decide (steps<1))=true then
   some ([]:List Int)
  else
   if (decide (steps>65536))=true then
    some ([]:List Int)
   else
    (iter (fun s=>bZ n harts steps s) n (([]:List Int),0)).bind fun t4 =>
    some t4
def bL (n:Nat) (a:(List Int)) (b:(List Int)) (sa:Int):Option (Int⊕(Unit⊕Unit)) :=
 if (decide (sa<(a.length:Int)))=true then
  (lW a sa).bind fun xa2 =>
  (lW b sa).bind fun xa3 =>
  if (xa2 != xa3)=true then
   some (.inr (.inr ()))
  else
   some (.inl (p_ .i64 sa 1))
 else
  some (.inr (.inl ()))
def b0 (n:Nat) (a:(List Int)) (b:(List Int)):Option Bool :=
 if ((a.length:Int) != (b.length:Int))=true then
  some false
 else
  (iter (fun s=>bL n a b s) n 0).bind fun t2 =>
  match t2 with
  | .inl w3 =>
   some true
  | .inr w3 =>
   some false
def fH (n:Nat) (hart:Int) (reg:Int) (addr:Int) (steps:Int):Option Bool :=
 (kI n).bind fun y1 =>
 if (!y1)=true then
  some false
 else
  (eV n hart).bind fun y3 =>
  (eW n hart).bind fun y4 =>
  (fU n ([hart]:List Int)).bind fun y5 =>
  (eX n addr).bind fun y6 =>
  (eY n hart).bind fun y7 =>
  if (decide (steps>4096))=true then
   if (decide (steps≤65536))=true then
    if (y3.2.2==1)=true then
     if (y4.2.2==1)=true then
      if (y5.2==1)=true then
       if (y6.2==1)=true then
        if (!y3.2.1)=true then
         if (!y4.2.1)=true then
          if ((y5.1.length:Int)==0)=true then
           if (y6.1==0)=true then
            if (y7.1==0)=true then
             if (!y7.2)=true then
              (dH n hart).bind fun y20 =>
              if (y20==(-1))=true then
               (de n hart reg).bind fun y22 =>
               if (y22==0)=true then
                (ca n hart).bind fun y24 =>
                if (!y24)=true then
                 (cb n hart).bind fun y26 =>
                 if (!y26)=true then
                  (bo n).bind fun y28 =>
                  match y28 with
                  | none =>
                   (cJ n hart 4096).bind fun y29 =>
                   (dy n hart 4096).bind fun y30 =>
                   (b0 n y29 y30).bind fun y31 =>
                   some y31
                  | some z29 =>
                   some false
                 else
                  some false
                else
                 some false
               else
                some false
              else
               some false
             else
              some false
            else
             some false
           else
            some false
          else
           some false
         else
          some false
        else
         some false
       else
        some false
      else
       some false
     else
      some false
    else
     some false
   else
    if (y3.2.2==1)=true then
     if (y4.2.2==1)=true then
      if (y5.2==1)=true then
       if (y6.2==1)=true then
        if (!y3.2.1)=true then
         if (!y4.2.1)=true then
          if ((y5.1.length:Int)==0)=true then
           if (y6.1==0)=true then
            if (y7.1==0)=true then
             if (!y7.2)=true then
              (dH n hart).bind fun y20 =>
              if (y20==(-1))=true then
               (de n hart reg).bind fun y22 =>
               if (y22==0)=true then
                (ca n hart).bind fun y24 =>
                if (!y24)=true then
                 (cb n hart).bind fun y26 =>
                 if (!y26)=true then
                  (bo n).bind fun y28 =>
                  match y28 with
                  | none =>
                   (cJ n hart steps).bind fun y29 =>
                   (dy n hart steps).bind fun y30 =>
                   (b0 n y29 y30).bind fun y31 =>
                   some y31
                  | some z29 =>
                   some false
                 else
                  some false
                else
                 some false
               else
                some false
              else
               some false
             else
              some false
            else
             some false
           else
            some false
          else
           some false
         else
          some false
        else
         some false
       else
        some false
      else
       some false
     else
      some false
    else
     some false
  else
   if (y3.2.2==1)=true then
    if (y4.2.2==1)=true then
     if (y5.2==1)=true then
      if (y6.2==1)=true then
       if (!y3.2.1)=true then
        if (!y4.2.1)=true then
         if ((y5.1.length:Int)==0)=true then
          if (y6.1==0)=true then
           if (y7.1==0)=true then
            if (!y7.2)=true then
             (dH n hart).bind fun y19 =>
             if (y19==(-1))=true then
              (de n hart reg).bind fun y21 =>
              if (y21==0)=true then
               (ca n hart).bind fun y23 =>
               if (!y23)=true then
                (cb n hart).bind fun y25 =>
                if (!y25)=true then
                 (bo n).bind fun y27 =>
                 match y27 with
                 | none =>
                  (cJ n hart steps).bind fun y28 =>
                  (dy n hart steps).bind fun y29 =>
                  (b0 n y28 y29).bind fun y30 =>
                  some y30
                 | some z28 =>
                  some false
                else
                 some false
               else
                some false
              else
               some false
             else
              some false
            else
             some false
           else
            some false
          else
           some false
         else
          some false
        else
         some false
       else
        some false
      else
       some false
     else
      some false
    else
     some false
   else
    some false

end Go.Proofs.Ytaekcekecdocnaa
