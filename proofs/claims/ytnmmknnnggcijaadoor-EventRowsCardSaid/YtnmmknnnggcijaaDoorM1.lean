/- What the functions compute, as functions on lists and numbers. Printed by a program from the code; nothing is claimed here. -/
import Derived.Test.YtnmmknnnggcijaaDoorM0
namespace Go.Proofs.YtnmmknnnggcijaaDoor
open Go A
set_option linter.unusedVariables false

structure Deps where
  mk ::
  Addr : (List Int)
  Data : (List Int)
  Way : (List Int)
structure Event where
  mk ::
  Hart : Int
  At : Int
  Kind : Int
  Addr : Int
  Load : Int
  Store : Int
  Aq : Bool
  Rl : Bool
  Pred : Int
  Succ : Int
  Pair : Int
  Deps : Deps
structure event_rest where
  mk ::
  hart : Int
  at_ : Int
  kind : Int
  pred : Int
  succ : Int
  pair : Int
  addr : Int
  load : Int
  store : Int
  aq : Bool
  rl : Bool
def event_rest.beq (x y : event_rest) : Bool := ((x.hart == y.hart) && ((x.at_ == y.at_) && ((x.kind == y.kind) && ((x.pred == y.pred) && ((x.succ == y.succ) && ((x.pair == y.pair) && ((x.addr == y.addr) && ((x.load == y.load) && ((x.store == y.store) && ((x.aq == y.aq) && (x.rl == y.rl)))))))))))
theorem event_rest.beq_eq {x y : event_rest} (h : event_rest.beq x y = true) : x = y := by
  obtain ⟨a1, a2, a3, a4, a5, a6, a7, a8, a9, a10, a11⟩ := x
  obtain ⟨b12, b13, b14, b15, b16, b17, b18, b19, b20, b21, b22⟩ := y
  unfold event_rest.beq at h
  simp only [Bool.and_eq_true, beq_iff_eq, toList_iff] at h
  simp_all
theorem event_rest.beq_refl (x : event_rest) : event_rest.beq x x = true := by
  unfold event_rest.beq
  simp
def Deps.wf (x : Deps) : Prop := (x.Addr.length ≤ maxLen ∧ ∀ z ∈ x.Addr, inR .i64 z) ∧ (x.Data.length ≤ maxLen ∧ ∀ z ∈ x.Data, inR .i64 z) ∧ (x.Way.length ≤ maxLen ∧ ∀ z ∈ x.Way, inR .i64 z)
def Event.wf (x : Event) : Prop := (inR .i64 x.Hart) ∧ (inR .i64 x.At) ∧ (inR .i64 x.Kind) ∧ (inR .u64 x.Addr) ∧ (inR .u64 x.Load) ∧ (inR .u64 x.Store) ∧ (True) ∧ (True) ∧ (inR .i64 x.Pred) ∧ (inR .i64 x.Succ) ∧ (inR .i64 x.Pair) ∧ (Deps.wf x.Deps)
def law_lives (n : Nat) : Option Bool := some true
def kit_LightDeps (n : Nat) (d : Deps) (most : Int) : Option Bool :=
 if (decide ((d.Addr.length : Int) ≤ most)) = true then
  if (decide ((d.Data.length : Int) ≤ most)) = true then
   some (decide ((d.Way.length : Int) ≤ most))
  else
   some false
 else
  some false
def kit_LightEvents_L1 (n : Nat) (l : (List Event)) (sa : Int) : Option (Int ⊕ (Unit ⊕ Unit)) :=
 if (decide (sa < (l.length : Int))) = true then
  (getI l sa).bind fun xa2 =>
  (kit_LightDeps n xa2.Deps 60).bind fun ya3 =>
  if (!ya3) = true then
   some (.inr (.inr ()))
  else
   some (.inl (addW .i64 sa 1))
 else
  some (.inr (.inl ()))
def kit_LightEvents (n : Nat) (l : (List Event)) (most : Int) : Option Bool :=
 if (decide ((l.length : Int) > most)) = true then
  some false
 else
  (iter (fun s => kit_LightEvents_L1 n l s) n 0).bind fun t2 =>
  match t2 with
  | .inl w3 =>
   some true
  | .inr w3 =>
   some false
def event_has (n : Nat) (kind : Int) : Option Int :=
 if (decide (kind < 1)) = true then
  some 0
 else
  if (decide (kind > 6)) = true then
   some 0
  else
   if (kind == 0) = true then
    some 0
   else
    if (kind == 1) = true then
     some 1
    else
     if (kind == 2) = true then
      some 2
     else
      if (kind == 3) = true then
       some 5
      else
       if (kind == 4) = true then
        some 14
       else
        if (kind == 5) = true then
         some 7
        else
         if (kind == 6) = true then
          some 16
         else
          none
def slices_Equal_int_int_L1 (n : Nat) (s1_ : (List Int)) (s2_ : (List Int)) (sa : Int) : Option (Int ⊕ (Unit ⊕ Unit)) :=
 if (decide (sa < (s1_.length : Int))) = true then
  (getI s1_ sa).bind fun xa2 =>
  (getI s2_ sa).bind fun xa3 =>
  if (xa2 != xa3) = true then
   some (.inr (.inr ()))
  else
   some (.inl (addW .i64 sa 1))
 else
  some (.inr (.inl ()))
def slices_Equal_int_int (n : Nat) (s1_ : (List Int)) (s2_ : (List Int)) : Option Bool :=
 if ((s1_.length : Int) != (s2_.length : Int)) = true then
  some false
 else
  (iter (fun s => slices_Equal_int_int_L1 n s1_ s2_ s) n 0).bind fun t2 =>
  match t2 with
  | .inl w3 =>
   some true
  | .inr w3 =>
   some false
def event_Same_1 (n : Nat) (e : Event) : Option event_rest :=
 some (event_rest.mk e.Hart e.At e.Kind e.Pred e.Succ e.Pair e.Addr e.Load e.Store e.Aq e.Rl)
def event_Same (n : Nat) (a : Event) (b : Event) : Option Bool :=
 (slices_Equal_int_int n a.Deps.Addr b.Deps.Addr).bind fun y1 =>
 if (!y1) = true then
  some false
 else
  (slices_Equal_int_int n a.Deps.Data b.Deps.Data).bind fun y3 =>
  if (!y3) = true then
   some false
  else
   (slices_Equal_int_int n a.Deps.Way b.Deps.Way).bind fun y5 =>
   if (!y5) = true then
    some false
   else
    (event_Same_1 n a).bind fun y7 =>
    (event_Same_1 n b).bind fun y8 =>
    if (event_rest.beq y7 y8) = true then
     some true
    else
     some false
def taint_Rising_L1 (n : Nat) (l : (List Int)) (sa : Int × Int) : Option ((Int × Int) ⊕ (Unit ⊕ Unit)) :=
 if (decide (sa.2 < (l.length : Int))) = true then
  (getI l sa.2).bind fun xa2 =>
  if (decide (xa2 ≤ sa.1)) = true then
   some (.inr (.inr ()))
  else
   some (.inl (xa2, (addW .i64 sa.2 1)))
 else
  some (.inr (.inl ()))
def taint_Rising (n : Nat) (l : (List Int)) : Option Bool :=
 (iter (fun s => taint_Rising_L1 n l s) n ((-1), 0)).bind fun t1 =>
 match t1 with
 | .inl w2 =>
  some true
 | .inr w2 =>
  some false
def event_below (n : Nat) (l : (List Int)) (at_ : Int) : Option Bool :=
 (taint_Rising n l).bind fun y1 =>
 if y1 = true then
  if ((l.length : Int) == 0) = true then
   some true
  else
   (getI l (subW .i64 (l.length : Int) 1)).bind fun x4 =>
   some (decide (x4 < at_))
 else
  some false
def event_Check_C5 (n : Nat) (e : Event) (y1 : Int) (sf : Int × (List Int) × (List Int) × (List Int) × Int × Int × Int × Bool × Bool × Int × Int) : Option Int :=
 if (y1 == 0) = true then
  some 2
 else
  if (decide (e.Hart < 0)) = true then
   some 2
  else
   if (decide (e.Hart ≥ 8)) = true then
    some 2
   else
    if (decide (e.At < 0)) = true then
     some 2
    else
     (event_Same n (Event.mk e.Hart e.At e.Kind sf.2.2.2.2.1 sf.2.2.2.2.2.1 sf.2.2.2.2.2.2.1 sf.2.2.2.2.2.2.2.1 sf.2.2.2.2.2.2.2.2.1 sf.2.2.2.2.2.2.2.2.2.1 sf.2.2.2.2.2.2.2.2.2.2 sf.1 (Deps.mk sf.2.1 sf.2.2.1 sf.2.2.2.1)) e).bind fun yf5 =>
     if (!yf5) = true then
      some 2
     else
      if ((remW .u64 e.Addr 8) != 0) = true then
       some 2
      else
       if (decide (e.Pred < 0)) = true then
        some 2
       else
        if (decide (e.Pred > 15)) = true then
         some 2
        else
         if (decide (e.Succ < 0)) = true then
          some 2
         else
          if (decide (e.Succ > 15)) = true then
           some 2
          else
           if ((andW .u64 y1 8) != 0) = true then
            if (decide (e.Pair < 0)) = true then
             some 2
            else
             if (decide (e.Pair ≥ e.At)) = true then
              some 2
             else
              (event_below n e.Deps.Addr e.At).bind fun yf15 =>
              if (!yf15) = true then
               some 2
              else
               (event_below n e.Deps.Data e.At).bind fun yf17 =>
               if (!yf17) = true then
                some 2
               else
                (event_below n e.Deps.Way e.At).bind fun yf19 =>
                if (!yf19) = true then
                 some 2
                else
                 some 0
           else
            (event_below n e.Deps.Addr e.At).bind fun yf13 =>
            if (!yf13) = true then
             some 2
            else
             (event_below n e.Deps.Data e.At).bind fun yf15 =>
             if (!yf15) = true then
              some 2
             else
              (event_below n e.Deps.Way e.At).bind fun yf17 =>
              if (!yf17) = true then
               some 2
              else
               some 0
def event_Check_C4 (n : Nat) (e : Event) (y1 : Int) (se : (List Int) × (List Int) × (List Int) × Int × Int × Int × Bool × Bool × Int × Int) : Option Int :=
 if ((andW .u64 y1 8) != 0) = true then
  (event_Check_C5 n e y1 (e.Pair, se.1, se.2.1, se.2.2.1, se.2.2.2.1, se.2.2.2.2.1, se.2.2.2.2.2.1, se.2.2.2.2.2.2.1, se.2.2.2.2.2.2.2.1, se.2.2.2.2.2.2.2.2.1, se.2.2.2.2.2.2.2.2.2)).bind fun te2 =>
  some te2
 else
  (event_Check_C5 n e y1 (0, se.1, se.2.1, se.2.2.1, se.2.2.2.1, se.2.2.2.2.1, se.2.2.2.2.2.1, se.2.2.2.2.2.2.1, se.2.2.2.2.2.2.2.1, se.2.2.2.2.2.2.2.2.1, se.2.2.2.2.2.2.2.2.2)).bind fun te2 =>
  some te2
def event_Check_C3 (n : Nat) (e : Event) (y1 : Int) (sd : (List Int) × (List Int) × (List Int) × Int × Int × Int × Int × Int) : Option Int :=
 if ((andW .u64 y1 4) != 0) = true then
  (event_Check_C4 n e y1 (sd.1, sd.2.1, sd.2.2.1, sd.2.2.2.1, sd.2.2.2.2.1, sd.2.2.2.2.2.1, e.Aq, e.Rl, sd.2.2.2.2.2.2.1, sd.2.2.2.2.2.2.2)).bind fun td2 =>
  some td2
 else
  (event_Check_C4 n e y1 (sd.1, sd.2.1, sd.2.2.1, sd.2.2.2.1, sd.2.2.2.2.1, sd.2.2.2.2.2.1, false, false, sd.2.2.2.2.2.2.1, sd.2.2.2.2.2.2.2)).bind fun td2 =>
  some td2
def event_Check_C2 (n : Nat) (e : Event) (y1 : Int) (sb : (List Int) × (List Int) × Int × Int × Int × Int) : Option Int :=
 if ((andW .u64 y1 2) != 0) = true then
  (event_Check_C3 n e y1 (sb.1, e.Deps.Data, sb.2.1, sb.2.2.1, sb.2.2.2.1, e.Store, sb.2.2.2.2.1, sb.2.2.2.2.2)).bind fun tb2 =>
  some tb2
 else
  (event_Check_C3 n e y1 (sb.1, ([] : List Int), sb.2.1, sb.2.2.1, sb.2.2.2.1, 0, sb.2.2.2.2.1, sb.2.2.2.2.2)).bind fun tb2 =>
  some tb2
def event_Check_C1 (n : Nat) (e : Event) (y1 : Int) (sa : (List Int) × (List Int) × Int × Int × Int) : Option Int :=
 if ((andW .u64 y1 1) != 0) = true then
  (event_Check_C2 n e y1 (sa.1, sa.2.1, sa.2.2.1, e.Load, sa.2.2.2.1, sa.2.2.2.2)).bind fun ta2 =>
  some ta2
 else
  (event_Check_C2 n e y1 (sa.1, sa.2.1, sa.2.2.1, 0, sa.2.2.2.1, sa.2.2.2.2)).bind fun ta2 =>
  some ta2
def event_Check (n : Nat) (e : Event) : Option Int :=
 (event_has n e.Kind).bind fun y1 =>
 if ((andW .u64 y1 16) != 0) = true then
  (event_Check_C1 n e y1 (([] : List Int), ([] : List Int), 0, e.Pred, e.Succ)).bind fun t3 =>
  some t3
 else
  (event_Check_C1 n e y1 (e.Deps.Addr, e.Deps.Way, e.Addr, 0, 0)).bind fun t3 =>
  some t3
def event_Row_L1 (n : Nat) (hart : Int) (l : (List Event)) (sa : Int × Int) : Option ((Int × Int) ⊕ (Unit ⊕ Unit)) :=
 if (decide (sa.1 < (l.length : Int))) = true then
  (getI l sa.1).bind fun xa2 =>
  (event_Check n xa2).bind fun ya3 =>
  if (ya3 != 0) = true then
   some (.inr (.inr ()))
  else
   if (xa2.Hart != hart) = true then
    some (.inr (.inr ()))
   else
    if (xa2.At != sa.1) = true then
     some (.inr (.inr ()))
    else
     if (xa2.Kind == 3) = true then
      some (.inl ((addW .i64 sa.1 1), sa.1))
     else
      if (xa2.Kind == 4) = true then
       if (xa2.Pair != sa.2) = true then
        some (.inr (.inr ()))
       else
        (getI l sa.2).bind fun xa10 =>
        if (xa10.Addr != xa2.Addr) = true then
         some (.inr (.inr ()))
        else
         some (.inl ((addW .i64 sa.1 1), (-1)))
      else
       some (.inl ((addW .i64 sa.1 1), sa.2))
 else
  some (.inr (.inl ()))
def event_Row (n : Nat) (hart : Int) (l : (List Event)) : Option Int :=
 (iter (fun s => event_Row_L1 n hart l s) n (0, (-1))).bind fun t1 =>
 match t1 with
 | .inl w2 =>
  some 0
 | .inr w2 =>
  some 4
def kit_Pick (n : Nat) (n_ : Int) (m : Int) : Option Int :=
 if (decide (m < 1)) = true then
  some 0
 else
  grd (decide (IntKind.i64 = IntKind.i64) && !(m == 0)) <|
  if (decide ((remW .i64 n_ m) < 0)) = true then
   some (addW .i64 (remW .i64 n_ m) m)
  else
   some (remW .i64 n_ m)
def kit_Own_int (n : Nat) (l : (List Int)) : Option (List Int) :=
 grd (Nat.ble (l.length * 8) 140737488355328) <|
 some l
def kit_OwnDeps (n : Nat) (d : Deps) : Option Deps :=
 (kit_Own_int n d.Addr).bind fun y1 =>
 (kit_Own_int n d.Data).bind fun y2 =>
 (kit_Own_int n d.Way).bind fun y3 =>
 some (Deps.mk y1 y2 y3)
def kit_OwnEvent (n : Nat) (e : Event) : Option Event :=
 (kit_OwnDeps n e.Deps).bind fun y1 =>
 some (Event.mk e.Hart e.At e.Kind e.Addr e.Load e.Store e.Aq e.Rl e.Pred e.Succ e.Pair y1)
def kit_OwnEvents_S_L1 (n : Nat) (l : (List Event)) (sa : (List Event) × Int) : Option (((List Event) × Int) ⊕ ((List Event))) :=
 if (decide (sa.2 < (l.length : Int))) = true then
  (getI l sa.2).bind fun xa2 =>
  (kit_OwnEvent n xa2).bind fun ya3 =>
  grd (Nat.ble ((sa.1.length + 1) * 152) 140737488355328) <|
  some (.inl ((sa.1 ++ ([ya3] : List Event)), (addW .i64 sa.2 1)))
 else
  some (.inr sa.1)
def kit_OwnEvents_S (n : Nat) (l : (List Event)) : Option (List Event) :=
 (iter (fun s => kit_OwnEvents_S_L1 n l s) n (([] : List Event), 0)).bind fun t1 =>
 some t1
def kit_OwnEvents_S2_L1 (n : Nat) (l : (List Event)) (ob : (List Event)) (sa : (List Event) × Int) : Option (((List Event) × Int) ⊕ ((List Event))) :=
 if (decide (sa.2 < (l.length : Int))) = true then
  (getI l sa.2).bind fun xa2 =>
  (kit_OwnEvent n xa2).bind fun ya3 =>
  grd (Nat.ble ((sa.1.length + 1) * 152) 140737488355328) <|
  some (.inl ((sa.1 ++ ([ya3] : List Event)), (addW .i64 sa.2 1)))
 else
  some (.inr sa.1)
def kit_OwnEvents_S2 (n : Nat) (l : (List Event)) (ob : (List Event)) : Option (List Event) :=
 (iter (fun s => kit_OwnEvents_S2_L1 n l ob s) n (([] : List Event), 0)).bind fun t1 =>
 some t1
def law_EventRows_L1 (n : Nat) (hart : Int) (l : (List Event)) (at_ : Int) (sa : (List (Int × Int)) × Int) : Option (((List (Int × Int)) × Int) ⊕ (Unit ⊕ Unit)) :=
 if (decide (sa.2 < (l.length : Int))) = true then
  grd (decide (0 ≤ sa.2) && decide (sa.2 ≤ (l.length : Int))) <|
  (event_Row n hart (l.take (sa.2).toNat)).bind fun ya3 =>
  if (ya3 != 0) = true then
   some (.inr (.inr ()))
  else
   (getI l sa.2).bind fun xa5 =>
   if (xa5.Hart != hart) = true then
    some (.inr (.inr ()))
   else
    if (xa5.At != sa.2) = true then
     some (.inr (.inr ()))
    else
     if (xa5.Kind == 4) = true then
      if (((mget beqI sa.1 xa5.Pair).getD 0) != 0) = true then
       some (.inr (.inr ()))
      else
       (getI l xa5.Pair).bind fun xa10 =>
       if (xa10.Kind != 3) = true then
        some (.inr (.inr ()))
       else
        some (.inl ((mput beqI sa.1 xa5.Pair 1), (addW .i64 sa.2 1)))
     else
      some (.inl (sa.1, (addW .i64 sa.2 1)))
 else
  some (.inr (.inl ()))
def law_EventRows (n : Nat) (hart : Int) (l : (List Event)) (at_ : Int) : Option Bool :=
 (law_lives n).bind fun y1 =>
 if (!y1) = true then
  some false
 else
  (kit_LightEvents n l 60).bind fun y3 =>
  if (!y3) = true then
   some true
  else
   (event_Row n hart l).bind fun y5 =>
   if (y5 != 0) = true then
    some true
   else
    (iter (fun s => law_EventRows_L1 n hart l at_ s) n (([] : (List (Int × Int))), 0)).bind fun t7 =>
    match t7 with
    | .inl w8 =>
     if ((l.length : Int) == 0) = true then
      some true
     else
      (kit_Pick n at_ (l.length : Int)).bind fun y10 =>
      (kit_OwnEvents_S n l).bind fun y11 =>
      (kit_OwnEvents_S2 n l y11).bind fun y12 =>
      (getI y11 y10).bind fun x13 =>
      (getI y12 y10).bind fun x14 =>
      (event_Row n hart (y11.set (y10).toNat (Event.mk (addW .i64 hart 1) x13.At x13.Kind x13.Addr x13.Load x13.Store x13.Aq x13.Rl x13.Pred x13.Succ x13.Pair x13.Deps))).bind fun y15 =>
      if (y15 == 4) = true then
       (event_Row n hart (y12.set (y10).toNat (Event.mk x14.Hart (addW .i64 y10 1) x14.Kind x14.Addr x14.Load x14.Store x14.Aq x14.Rl x14.Pred x14.Succ x14.Pair x14.Deps))).bind fun y17 =>
       if (y17 == 4) = true then
        (event_Row n (addW .i64 hart 1) l).bind fun y19 =>
        some (y19 == 4)
       else
        some false
      else
       some false
    | .inr w8 =>
     some false

end Go.Proofs.YtnmmknnnggcijaaDoor
