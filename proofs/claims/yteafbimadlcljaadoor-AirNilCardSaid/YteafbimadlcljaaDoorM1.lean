/- What the functions compute, as functions on lists and numbers. Printed by a program from the code; nothing is claimed here. -/
import Derived.Test.YteafbimadlcljaaDoorM0
namespace Go.Proofs.YteafbimadlcljaaDoor
open Go A
set_option linter.unusedVariables false

structure AirStep where
  mk ::
  Op : Int
  A_ : Int
  B : Int
  C_ : Int
  D : Int
  Imm : Int
  Bin : Int
  To : Int
  Shared : Bool
structure fencepostlaw21_Act where
  mk ::
  Kind : Int
  N : Int
  S : AirStep
structure Air where
  mk ::
  Regs : Int
  Steps : (List AirStep)
def AirStep.wf (x : AirStep) : Prop := (inR .i64 x.Op) ∧ (inR .i64 x.A_) ∧ (inR .i64 x.B) ∧ (inR .i64 x.C_) ∧ (inR .i64 x.D) ∧ (inR .i64 x.Imm) ∧ (inR .i64 x.Bin) ∧ (inR .i64 x.To) ∧ (True)
def fencepostlaw21_Act.wf (x : fencepostlaw21_Act) : Prop := (inR .i64 x.Kind) ∧ (inR .i64 x.N) ∧ (AirStep.wf x.S)
def law_lives (n : Nat) : Option Bool := some true
def air_Plan_is (n : Nat) : Option Bool :=
 some false
def air_Plan_Done (n : Nat) : Option (Air × Int) :=
 (air_Plan_is n).bind fun y1 =>
 if (!y1) = true then
  some ((Air.mk 0 ([] : List AirStep)), 1)
 else
  none
def air_Plan_Reg (n : Nat) : Option Int :=
 (air_Plan_is n).bind fun y1 =>
 if (!y1) = true then
  some 0
 else
  none
def air_Plan_Label (n : Nat) : Option Int :=
 (air_Plan_is n).bind fun y1 =>
 if (!y1) = true then
  some 0
 else
  none
def air_Plan_taken (n : Nat) (label : Int) : Option Bool :=
 if (decide (label ≥ 0)) = true then
  none
 else
  some false
def air_Plan_Put (n : Nat) (label : Int) : Option Int :=
 (air_Plan_is n).bind fun y1 =>
 if (!y1) = true then
  some 1
 else
  (air_Plan_taken n label).bind fun y3 =>
  if (!y3) = true then
   some 6
  else
   none
def air_known (n : Nat) (op : Int) : Option Bool :=
 if (decide (op ≥ 1)) = true then
  some (decide (op ≤ 10))
 else
  some false
def air_parts (n : Nat) (op : Int) : Option Int :=
 if (decide (op < 1)) = true then
  some 0
 else
  if (decide (op > 10)) = true then
   some 0
  else
   if (op == 0) = true then
    some 0
   else
    if (op == 1) = true then
     some 17
    else
     if (op == 2) = true then
      some 3
     else
      if (op == 3) = true then
       some 39
      else
       if (op == 4) = true then
        some 147
       else
        if (op == 5) = true then
         some 150
        else
         if (op == 6) = true then
          some 159
         else
          if (op == 7) = true then
           some 0
          else
           if (op == 8) = true then
            some 64
           else
            if (op == 9) = true then
             some 66
            else
             if (op == 10) = true then
              some 2
             else
              none
def air_Plan_Step (n : Nat) (s_ : AirStep) : Option Int :=
 (air_Plan_is n).bind fun y1 =>
 if (!y1) = true then
  some 1
 else
  (air_known n s_.Op).bind fun y3 =>
  if (!y3) = true then
   some 2
  else
   (air_parts n s_.Op).bind fun y5 =>
   if ((andW .i64 y5 64) != 0) = true then
    some 2
   else
    none
def air_Plan_Jump (n : Nat) (op : Int) (reg : Int) (label : Int) : Option Int :=
 (air_Plan_is n).bind fun y1 =>
 if (!y1) = true then
  some 1
 else
  (air_parts n op).bind fun y3 =>
  if ((andW .i64 y3 64) == 0) = true then
   some 2
  else
   (air_Plan_taken n label).bind fun y5 =>
   if (!y5) = true then
    some 6
   else
    (air_parts n op).bind fun y7 =>
    if ((andW .i64 y7 2) != 0) = true then
     none
    else
     none
def air_Plan_Len (n : Nat) : Option Int :=
 (air_Plan_is n).bind fun y1 =>
 if (!y1) = true then
  some 0
 else
  none
def law_AirNil (n : Nat) (a : fencepostlaw21_Act) : Option Bool :=
 (law_lives n).bind fun y1 =>
 if (!y1) = true then
  some false
 else
  (air_Plan_Done n).bind fun y3 =>
  (air_Plan_Reg n).bind fun y4 =>
  if (y4 == 0) = true then
   (air_Plan_Label n).bind fun y6 =>
   if (y6 == 0) = true then
    (air_Plan_Put n a.N).bind fun y8 =>
    if (y8 == 1) = true then
     (air_Plan_Step n a.S).bind fun y10 =>
     if (y10 == 1) = true then
      (air_Plan_Jump n a.S.Op a.S.B a.N).bind fun y12 =>
      if (y12 == 1) = true then
       if (y3.2 == 1) = true then
        (air_Plan_Len n).bind fun y15 =>
        some (y15 == 0)
       else
        some false
      else
       some false
     else
      some false
    else
     some false
   else
    some false
  else
   some false

end Go.Proofs.YteafbimadlcljaaDoor
