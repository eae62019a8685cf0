/- What the functions compute, as functions on lists and numbers. Printed by a program from the code; nothing is claimed here. -/
import Derived.Test.YtcckeabholabcaaM0
namespace Go.Proofs.Ytcckeabholabcaa
open Go A
set_option linter.unusedVariables false

structure Cell where
  mk ::
  Addr : Int
  Value : Int
structure Deps where
  mk ::
  Addr : (List Int)
  Data : (List Int)
  Way : (List Int)
structure Event where
  mk ::
  Hart : Int
  At : Int
  Kind : Int
  Addr : Int
  Load : Int
  Store : Int
  Aq : Bool
  Rl : Bool
  Pred : Int
  Succ : Int
  Pair : Int
  Deps : Deps
structure Cand where
  mk ::
  First : (List Cell)
  Harts : (List (List Event))
  From : (List Int)
  Order : (List Int)
structure event_rest where
  mk ::
  hart : Int
  at_ : Int
  kind : Int
  pred : Int
  succ : Int
  pair : Int
  addr : Int
  load : Int
  store : Int
  aq : Bool
  rl : Bool
def event_rest.beq (x y : event_rest) : Bool := ((x.hart == y.hart) && ((x.at_ == y.at_) && ((x.kind == y.kind) && ((x.pred == y.pred) && ((x.succ == y.succ) && ((x.pair == y.pair) && ((x.addr == y.addr) && ((x.load == y.load) && ((x.store == y.store) && ((x.aq == y.aq) && (x.rl == y.rl)))))))))))
theorem event_rest.beq_eq {x y : event_rest} (h : event_rest.beq x y = true) : x = y := by
  obtain ⟨a1, a2, a3, a4, a5, a6, a7, a8, a9, a10, a11⟩ := x
  obtain ⟨b12, b13, b14, b15, b16, b17, b18, b19, b20, b21, b22⟩ := y
  unfold event_rest.beq at h
  simp only [Bool.and_eq_true, beq_iff_eq, toList_iff] at h
  simp_all
theorem event_rest.beq_refl (x : event_rest) : event_rest.beq x x = true := by
  unfold event_rest.beq
  simp
def Cell.wf (x : Cell) : Prop := (inR .u64 x.Addr) ∧ (inR .u64 x.Value)
def Deps.wf (x : Deps) : Prop := (x.Addr.length ≤ maxLen ∧ ∀ z ∈ x.Addr, inR .i64 z) ∧ (x.Data.length ≤ maxLen ∧ ∀ z ∈ x.Data, inR .i64 z) ∧ (x.Way.length ≤ maxLen ∧ ∀ z ∈ x.Way, inR .i64 z)
def Event.wf (x : Event) : Prop := (inR .i64 x.Hart) ∧ (inR .i64 x.At) ∧ (inR .i64 x.Kind) ∧ (inR .u64 x.Addr) ∧ (inR .u64 x.Load) ∧ (inR .u64 x.Store) ∧ (True) ∧ (True) ∧ (inR .i64 x.Pred) ∧ (inR .i64 x.Succ) ∧ (inR .i64 x.Pair) ∧ (Deps.wf x.Deps)
def Cand.wf (x : Cand) : Prop := (x.First.length ≤ maxLen ∧ ∀ z ∈ x.First, Cell.wf z) ∧ (x.Harts.length ≤ maxLen ∧ ∀ z ∈ x.Harts, z.length ≤ maxLen ∧ ∀ zz ∈ z, Event.wf zz) ∧ (x.From.length ≤ maxLen ∧ ∀ z ∈ x.From, inR .i64 z) ∧ (x.Order.length ≤ maxLen ∧ ∀ z ∈ x.Order, inR .i64 z)
def law_lives (n : Nat) : Option Bool := some true
def kit_LightDeps (n : Nat) (d : Deps) (most : Int) : Option Bool :=
 if (decide ((d.Addr.length : Int) ≤ most)) = true then
  if (decide ((d.Data.length : Int) ≤ most)) = true then
   some (decide ((d.Way.length : Int) ≤ most))
  else
   some false
 else
  some false
def kit_LightEvents_L1 (n : Nat) (l : (List Event)) (sa : Int) : Option (Int ⊕ (Unit ⊕ Unit)) :=
 if (decide (sa < (l.length : Int))) = true then
  (getI l sa).bind fun xa2 =>
  (kit_LightDeps n xa2.Deps 60).bind fun ya3 =>
  if (!ya3) = true then
   some (.inr (.inr ()))
  else
   some (.inl (addW .i64 sa 1))
 else
  some (.inr (.inl ()))
def kit_LightEvents (n : Nat) (l : (List Event)) (most : Int) : Option Bool :=
 if (decide ((l.length : Int) > most)) = true then
  some false
 else
  (iter (fun s => kit_LightEvents_L1 n l s) n 0).bind fun t2 =>
  match t2 with
  | .inl w3 =>
   some true
  | .inr w3 =>
   some false
def kit_LightCand_L1 (n : Nat) (c : Cand) (most : Int) (sa : Int × Int) : Option ((Int × Int) ⊕ (Int ⊕ Unit)) :=
 if (decide (sa.2 < (c.Harts.length : Int))) = true then
  if (decide (sa.2 < 10)) = true then
   (getI c.Harts sa.2).bind fun xa3 =>
   (kit_LightEvents n xa3 most).bind fun ya4 =>
   if (!ya4) = true then
    some (.inr (.inr ()))
   else
    some (.inl ((addW .i64 sa.1 (xa3.length : Int)), (addW .i64 sa.2 1)))
  else
   some (.inr (.inl sa.1))
 else
  some (.inr (.inl sa.1))
def kit_LightCand (n : Nat) (c : Cand) (most : Int) : Option Bool :=
 (iter (fun s => kit_LightCand_L1 n c most s) n (0, 0)).bind fun t1 =>
 match t1 with
 | .inl w2 =>
  if (decide ((c.Harts.length : Int) ≤ 9)) = true then
   if (decide (w2 ≤ most)) = true then
    if (decide ((c.First.length : Int) ≤ most)) = true then
     if (decide ((c.From.length : Int) ≤ (mulW .i64 2 most))) = true then
      some (decide ((c.Order.length : Int) ≤ (mulW .i64 2 most)))
     else
      some false
    else
     some false
   else
    some false
  else
   some false
 | .inr w2 =>
  some false
def cand_cells_L1 (n : Nat) (l : (List Cell)) (sa : Int) : Option (Int ⊕ (Unit ⊕ Unit)) :=
 if (decide (sa < (l.length : Int))) = true then
  (getI l sa).bind fun xa2 =>
  if ((remW .u64 xa2.Addr 8) != 0) = true then
   some (.inr (.inr ()))
  else
   if (decide (sa > 0)) = true then
    (getI l (subW .i64 sa 1)).bind fun xa5 =>
    if (decide (xa5.Addr ≥ xa2.Addr)) = true then
     some (.inr (.inr ()))
    else
     some (.inl (addW .i64 sa 1))
   else
    some (.inl (addW .i64 sa 1))
 else
  some (.inr (.inl ()))
def cand_cells (n : Nat) (l : (List Cell)) : Option Bool :=
 (iter (fun s => cand_cells_L1 n l s) n 0).bind fun t1 =>
 match t1 with
 | .inl w2 =>
  some true
 | .inr w2 =>
  some false
def event_has (n : Nat) (kind : Int) : Option Int :=
 if (decide (kind < 1)) = true then
  some 0
 else
  if (decide (kind > 6)) = true then
   some 0
  else
   if (kind == 0) = true then
    some 0
   else
    if (kind == 1) = true then
     some 1
    else
     if (kind == 2) = true then
      some 2
     else
      if (kind == 3) = true then
       some 5
      else
       if (kind == 4) = true then
        some 14
       else
        if (kind == 5) = true then
         some 7
        else
         if (kind == 6) = true then
          some 16
         else
          none
def slices_Equal_int_int_L1 (n : Nat) (s1_ : (List Int)) (s2_ : (List Int)) (sa : Int) : Option (Int ⊕ (Unit ⊕ Unit)) :=
 if (decide (sa < (s1_.length : Int))) = true then
  (getI s1_ sa).bind fun xa2 =>
  (getI s2_ sa).bind fun xa3 =>
  if (xa2 != xa3) = true then
   some (.inr (.inr ()))
  else
   some (.inl (addW .i64 sa 1))
 else
  some (.inr (.inl ()))
def slices_Equal_int_int (n : Nat) (s1_ : (List Int)) (s2_ : (List Int)) : Option Bool :=
 if ((s1_.length : Int) != (s2_.length : Int)) = true then
  some false
 else
  (iter (fun s => slices_Equal_int_int_L1 n s1_ s2_ s) n 0).bind fun t2 =>
  match t2 with
  | .inl w3 =>
   some true
  | .inr w3 =>
   some false
def event_Same_1 (n : Nat) (e : Event) : Option event_rest :=
 some (event_rest.mk e.Hart e.At e.Kind e.Pred e.Succ e.Pair e.Addr e.Load e.Store e.Aq e.Rl)
def event_Same (n : Nat) (a : Event) (b : Event) : Option Bool :=
 (slices_Equal_int_int n a.Deps.Addr b.Deps.Addr).bind fun y1 =>
 if (!y1) = true then
  some false
 else
  (slices_Equal_int_int n a.Deps.Data b.Deps.Data).bind fun y3 =>
  if (!y3) = true then
   some false
  else
   (slices_Equal_int_int n a.Deps.Way b.Deps.Way).bind fun y5 =>
   if (!y5) = true then
    some false
   else
    (event_Same_1 n a).bind fun y7 =>
    (event_Same_1 n b).bind fun y8 =>
    if (event_rest.beq y7 y8) = true then
     some true
    else
     some false
def taint_Rising_L1 (n : Nat) (l : (List Int)) (sa : Int × Int) : Option ((Int × Int) ⊕ (Unit ⊕ Unit)) :=
 if (decide (sa.2 < (l.length : Int))) = true then
  (getI l sa.2).bind fun xa2 =>
  if (decide (xa2 ≤ sa.1)) = true then
   some (.inr (.inr ()))
  else
   some (.inl (xa2, (addW .i64 sa.2 1)))
 else
  some (.inr (.inl ()))
def taint_Rising (n : Nat) (l : (List Int)) : Option Bool :=
 (iter (fun s => taint_Rising_L1 n l s) n ((-1), 0)).bind fun t1 =>
 match t1 with
 | .inl w2 =>
  some true
 | .inr w2 =>
  some false
def event_below (n : Nat) (l : (List Int)) (at_ : Int) : Option Bool :=
 (taint_Rising n l).bind fun y1 =>
 if y1 = true then
  if ((l.length : Int) == 0) = true then
   some true
  else
   (getI l (subW .i64 (l.length : Int) 1)).bind fun x4 =>
   some (decide (x4 < at_))
 else
  some false
def event_Check_C5 (n : Nat) (e : Event) (y1 : Int) (sf : Int × (List Int) × (List Int) × (List Int) × Int × Int × Int × Bool × Bool × Int × Int) : Option Int :=
 if (y1 == 0) = true then
  some 2
 else
  if (decide (e.Hart < 0)) = true then
   some 2
  else
   if (decide (e.Hart ≥ 8)) = true then
    some 2
   else
    if (decide (e.At < 0)) = true then
     some 2
    else
     (event_Same n (Event.mk e.Hart e.At e.Kind sf.2.2.2.2.1 sf.2.2.2.2.2.1 sf.2.2.2.2.2.2.1 sf.2.2.2.2.2.2.2.1 sf.2.2.2.2.2.2.2.2.1 sf.2.2.2.2.2.2.2.2.2.1 sf.2.2.2.2.2.2.2.2.2.2 sf.1 (Deps.mk sf.2.1 sf.2.2.1 sf.2.2.2.1)) e).bind fun yf5 =>
     if (!yf5) = true then
      some 2
     else
      if ((remW .u64 e.Addr 8) != 0) = true then
       some 2
      else
       if (decide (e.Pred < 0)) = true then
        some 2
       else
        if (decide (e.Pred > 15)) = true then
         some 2
        else
         if (decide (e.Succ < 0)) = true then
          some 2
         else
          if (decide (e.Succ > 15)) = true then
           some 2
          else
           if ((andW .u64 y1 8) != 0) = true then
            if (decide (e.Pair < 0)) = true then
             some 2
            else
             if (decide (e.Pair ≥ e.At)) = true then
              some 2
             else
              (event_below n e.Deps.Addr e.At).bind fun yf15 =>
              if (!yf15) = true then
               some 2
              else
               (event_below n e.Deps.Data e.At).bind fun yf17 =>
               if (!yf17) = true then
                some 2
               else
                (event_below n e.Deps.Way e.At).bind fun yf19 =>
                if (!yf19) = true then
                 some 2
                else
                 some 0
           else
            (event_below n e.Deps.Addr e.At).bind fun yf13 =>
            if (!yf13) = true then
             some 2
            else
             (event_below n e.Deps.Data e.At).bind fun yf15 =>
             if (!yf15) = true then
              some 2
             else
              (event_below n e.Deps.Way e.At).bind fun yf17 =>
              if (!yf17) = true then
               some 2
              else
               some 0
def event_Check_C4 (n : Nat) (e : Event) (y1 : Int) (se : (List Int) × (List Int) × (List Int) × Int × Int × Int × Bool × Bool × Int × Int) : Option Int :=
 if ((andW .u64 y1 8) != 0) = true then
  (event_Check_C5 n e y1 (e.Pair, se.1, se.2.1, se.2.2.1, se.2.2.2.1, se.2.2.2.2.1, se.2.2.2.2.2.1, se.2.2.2.2.2.2.1, se.2.2.2.2.2.2.2.1, se.2.2.2.2.2.2.2.2.1, se.2.2.2.2.2.2.2.2.2)).bind fun te2 =>
  some te2
 else
  (event_Check_C5 n e y1 (0, se.1, se.2.1, se.2.2.1, se.2.2.2.1, se.2.2.2.2.1, se.2.2.2.2.2.1, se.2.2.2.2.2.2.1, se.2.2.2.2.2.2.2.1, se.2.2.2.2.2.2.2.2.1, se.2.2.2.2.2.2.2.2.2)).bind fun te2 =>
  some te2
def event_Check_C3 (n : Nat) (e : Event) (y1 : Int) (sd : (List Int) × (List Int) × (List Int) × Int × Int × Int × Int × Int) : Option Int :=
 if ((andW .u64 y1 4) != 0) = true then
  (event_Check_C4 n e y1 (sd.1, sd.2.1, sd.2.2.1, sd.2.2.2.1, sd.2.2.2.2.1, sd.2.2.2.2.2.1, e.Aq, e.Rl, sd.2.2.2.2.2.2.1, sd.2.2.2.2.2.2.2)).bind fun td2 =>
  some td2
 else
  (event_Check_C4 n e y1 (sd.1, sd.2.1, sd.2.2.1, sd.2.2.2.1, sd.2.2.2.2.1, sd.2.2.2.2.2.1, false, false, sd.2.2.2.2.2.2.1, sd.2.2.2.2.2.2.2)).bind fun td2 =>
  some td2
def event_Check_C2 (n : Nat) (e : Event) (y1 : Int) (sb : (List Int) × (List Int) × Int × Int × Int × Int) : Option Int :=
 if ((andW .u64 y1 2) != 0) = true then
  (event_Check_C3 n e y1 (sb.1, e.Deps.Data, sb.2.1, sb.2.2.1, sb.2.2.2.1, e.Store, sb.2.2.2.2.1, sb.2.2.2.2.2)).bind fun tb2 =>
  some tb2
 else
  (event_Check_C3 n e y1 (sb.1, ([] : List Int), sb.2.1, sb.2.2.1, sb.2.2.2.1, 0, sb.2.2.2.2.1, sb.2.2.2.2.2)).bind fun tb2 =>
  some tb2
def event_Check_C1 (n : Nat) (e : Event) (y1 : Int) (sa : (List Int) × (List Int) × Int × Int × Int) : Option Int :=
 if ((andW .u64 y1 1) != 0) = true then
  (event_Check_C2 n e y1 (sa.1, sa.2.1, sa.2.2.1, e.Load, sa.2.2.2.1, sa.2.2.2.2)).bind fun ta2 =>
  some ta2
 else
  (event_Check_C2 n e y1 (sa.1, sa.2.1, sa.2.2.1, 0, sa.2.2.2.1, sa.2.2.2.2)).bind fun ta2 =>
  some ta2
def event_Check (n : Nat) (e : Event) : Option Int :=
 (event_has n e.Kind).bind fun y1 =>
 if ((andW .u64 y1 16) != 0) = true then
  (event_Check_C1 n e y1 (([] : List Int), ([] : List Int), 0, e.Pred, e.Succ)).bind fun t3 =>
  some t3
 else
  (event_Check_C1 n e y1 (e.Deps.Addr, e.Deps.Way, e.Addr, 0, 0)).bind fun t3 =>
  some t3
def event_Row_L1 (n : Nat) (hart : Int) (l : (List Event)) (sa : Int × Int) : Option ((Int × Int) ⊕ (Unit ⊕ Unit)) :=
 if (decide (sa.1 < (l.length : Int))) = true then
  (getI l sa.1).bind fun xa2 =>
  (event_Check n xa2).bind fun ya3 =>
  if (ya3 != 0) = true then
   some (.inr (.inr ()))
  else
   if (xa2.Hart != hart) = true then
    some (.inr (.inr ()))
   else
    if (xa2.At != sa.1) = true then
     some (.inr (.inr ()))
    else
     if (xa2.Kind == 3) = true then
      some (.inl ((addW .i64 sa.1 1), sa.1))
     else
      if (xa2.Kind == 4) = true then
       if (xa2.Pair != sa.2) = true then
        some (.inr (.inr ()))
       else
        (getI l sa.2).bind fun xa10 =>
        if (xa10.Addr != xa2.Addr) = true then
         some (.inr (.inr ()))
        else
         some (.inl ((addW .i64 sa.1 1), (-1)))
      else
       some (.inl ((addW .i64 sa.1 1), sa.2))
 else
  some (.inr (.inl ()))
def event_Row (n : Nat) (hart : Int) (l : (List Event)) : Option Int :=
 (iter (fun s => event_Row_L1 n hart l s) n (0, (-1))).bind fun t1 =>
 match t1 with
 | .inl w2 =>
  some 0
 | .inr w2 =>
  some 4
def slices_Grow_api_Event_api_Event_S (n : Nat) (n_ : Int) : Option ((Nat × Nat × Nat × (List Event)) ⊕ Unit) :=
 if (decide (n_ < 0)) = true then
  none
 else
  if (decide ((subW .i64 n_ 0) > 0)) = true then
   grd (Nat.blt 0 14 && Nat.blt 0 152 && decide (0 < (subW .i64 n_ 0)) && decide ((subW .i64 n_ 0) * 152 ≤ 140737488355328) && decide ((subW .i64 n_ 0) ≤ 140737488355328)) <|
   grd (decide (0 ≤ 0) && decide (0 ≤ (((subW .i64 n_ 0)).toNat : Int))) <|
   some (.inl (0, 0, ((subW .i64 n_ 0)).toNat, (List.replicate ((subW .i64 n_ 0)).toNat (Event.mk 0 0 0 0 0 0 false false 0 0 0 (Deps.mk ([] : List Int) ([] : List Int) ([] : List Int))))))
  else
   some (.inr ())
def slices_Concat_api_Event_api_Event_L1 (n : Nat) (slices : (List (List Event))) (sa : Int × Int) : Option ((Int × Int) ⊕ Int) :=
 if (decide (sa.1 < (slices.length : Int))) = true then
  (getI slices sa.1).bind fun xa2 =>
  if (decide ((addW .i64 sa.2 (xa2.length : Int)) < 0)) = true then
   none
  else
   some (.inl ((addW .i64 sa.1 1), (addW .i64 sa.2 (xa2.length : Int))))
 else
  some (.inr sa.2)
def slices_Concat_api_Event_api_Event_L2 (n : Nat) (slices : (List (List Event))) (wa3 : Nat × Nat × Nat × (List Event)) (sa : Nat × Nat × (List Event) × Int) : Option ((Nat × Nat × (List Event) × Int) ⊕ (Nat × Nat × (List Event))) :=
 if (decide (sa.2.2.2 < (slices.length : Int))) = true then
  (getI slices sa.2.2.2).bind fun xa2 =>
  grd (Nat.ble xa2.length sa.2.1) <|
  grd (Nat.ble (wa3.1 + sa.1 + sa.2.1) sa.2.2.1.length) <|
  some (.inl ((sa.1 + xa2.length), (sa.2.1 - xa2.length), (sa.2.2.1.take (wa3.1 + sa.1) ++ (xa2 ++ sa.2.2.1.drop (wa3.1 + sa.1 + xa2.length))), (addW .i64 sa.2.2.2 1)))
 else
  some (.inr (sa.1, sa.2.1, sa.2.2.1))
def slices_Concat_api_Event_api_Event_L3 (n : Nat) (slices : (List (List Event))) (sa : (List Event) × Int) : Option (((List Event) × Int) ⊕ ((List Event))) :=
 if (decide (sa.2 < (slices.length : Int))) = true then
  (getI slices sa.2).bind fun xa2 =>
  grd (Nat.ble ((sa.1.length + xa2.length) * 152) 140737488355328) <|
  some (.inl ((sa.1 ++ xa2), (addW .i64 sa.2 1)))
 else
  some (.inr sa.1)
def slices_Concat_api_Event_api_Event (n : Nat) (slices : (List (List Event))) : Option (List Event) :=
 (iter (fun s => slices_Concat_api_Event_api_Event_L1 n slices s) n (0, 0)).bind fun t1 =>
 (slices_Grow_api_Event_api_Event_S n t1).bind fun y2 =>
 match y2 with
 | .inl wa3 =>
  (iter (fun s => slices_Concat_api_Event_api_Event_L2 n slices wa3 s) n (wa3.2.1, wa3.2.2.1, wa3.2.2.2, 0)).bind fun t4 =>
  some ((t4.2.2.drop wa3.1).take t4.1)
 | .inr wb3 =>
  (iter (fun s => slices_Concat_api_Event_api_Event_L3 n slices s) n (([] : List Event), 0)).bind fun t4 =>
  some t4
def cand_flat_S (n : Nat) (ob : (List Cell)) (ob_ : (List (List Event))) (ob__ : (List Int)) (ob___ : (List Int)) : Option (List Event) :=
 (slices_Concat_api_Event_api_Event n ob_).bind fun y1 =>
 some y1
def event_Reads (n : Nat) (e : Event) : Option Bool :=
 (event_has n e.Kind).bind fun y1 =>
 some ((andW .u64 y1 1) != 0)
def cmp_isNaN_uint64 (n : Nat) (x : Int) : Option Bool :=
 some (x != x)
def cmp_Compare_uint64 (n : Nat) (x : Int) (y : Int) : Option Int :=
 (cmp_isNaN_uint64 n x).bind fun y1 =>
 (cmp_isNaN_uint64 n y).bind fun y2 =>
 if y1 = true then
  if y2 = true then
   some 0
  else
   some (-1)
 else
  if y2 = true then
   some 1
  else
   if (decide (x < y)) = true then
    some (-1)
   else
    if (decide (x > y)) = true then
     some 1
    else
     some 0
def cand_found_1 (n : Nat) (x : Cell) (a : Int) : Option Int :=
 (cmp_Compare_uint64 n x.Addr a).bind fun y1 =>
 some y1
def slices_BinarySearchFunc_api_Cell_api_Cell_uint64_L1 (n : Nat) (x : (List Cell)) (target : Int) (sa : Int × Int) : Option ((Int × Int) ⊕ Int) :=
 if (decide (sa.2 < sa.1)) = true then
  (getI x (IntKind.wrap .i64 (shrW .u64 (IntKind.wrap .u64 (addW .i64 sa.2 sa.1)) 1))).bind fun xa2 =>
  (cand_found_1 n xa2 target).bind fun ya3 =>
  if (decide (ya3 < 0)) = true then
   some (.inl (sa.1, (addW .i64 (IntKind.wrap .i64 (shrW .u64 (IntKind.wrap .u64 (addW .i64 sa.2 sa.1)) 1)) 1)))
  else
   some (.inl ((IntKind.wrap .i64 (shrW .u64 (IntKind.wrap .u64 (addW .i64 sa.2 sa.1)) 1)), sa.2))
 else
  some (.inr sa.2)
def slices_BinarySearchFunc_api_Cell_api_Cell_uint64 (n : Nat) (x : (List Cell)) (target : Int) : Option (Int × Bool) :=
 (iter (fun s => slices_BinarySearchFunc_api_Cell_api_Cell_uint64_L1 n x target s) n ((x.length : Int), 0)).bind fun t1 =>
 if (decide (t1 < (x.length : Int))) = true then
  (getI x t1).bind fun x3 =>
  (cand_found_1 n x3 target).bind fun y4 =>
  some (t1, (y4 == 0))
 else
  some (t1, false)
def cand_found (n : Nat) (l : (List Cell)) (addr : Int) : Option Int :=
 (slices_BinarySearchFunc_api_Cell_api_Cell_uint64 n l addr).bind fun y1 =>
 if (!y1.2) = true then
  some 0
 else
  (getI l y1.1).bind fun x3 =>
  some x3.Value
def event_Writes (n : Nat) (e : Event) : Option Bool :=
 (event_has n e.Kind).bind fun y1 =>
 some ((andW .u64 y1 2) != 0)
def cand_from (n : Nat) (c : Cand) (all : (List Event)) (n_ : Int) : Option Bool :=
 (getI all n_).bind fun x1 =>
 (getI c.From n_).bind fun x2 =>
 (event_Reads n x1).bind fun y3 =>
 if (!y3) = true then
  some (x2 == (-1))
 else
  if (x2 == (-1)) = true then
   (cand_found n c.First x1.Addr).bind fun y6 =>
   some (x1.Load == y6)
  else
   if (decide (x2 < 0)) = true then
    some false
   else
    if (decide (x2 ≥ (all.length : Int))) = true then
     some false
    else
     if (x2 == n_) = true then
      some false
     else
      (getI all x2).bind fun x9 =>
      (event_Writes n x9).bind fun y10 =>
      if y10 = true then
       if (x9.Addr == x1.Addr) = true then
        some (x9.Store == x1.Load)
       else
        some false
      else
       some false
def event_Memory (n : Nat) (e : Event) : Option Bool :=
 (event_Reads n e).bind fun y1 =>
 if y1 = true then
  some true
 else
  (event_Writes n e).bind fun y3 =>
  some y3
def cand_ordered_L1 (n : Nat) (c : Cand) (all : (List Event)) (sa : (List Bool) × Int × Int) : Option (((List Bool) × Int × Int) ⊕ ((List Bool) × Int)) :=
 if (decide (sa.2.1 < (all.length : Int))) = true then
  (getI all sa.2.1).bind fun xa2 =>
  (event_Memory n xa2).bind fun ya3 =>
  if ya3 = true then
   (getI sa.1 sa.2.1).bind fun xa5 =>
   some (.inl ((sa.1.set (sa.2.1).toNat true), (addW .i64 sa.2.1 1), (addW .i64 sa.2.2 1)))
  else
   some (.inl (sa.1, (addW .i64 sa.2.1 1), sa.2.2))
 else
  some (.inr (sa.1, sa.2.2))
def cand_ordered_L2 (n : Nat) (c : Cand) (sa : (List Bool) × Int × Int) : Option (((List Bool) × Int × Int) ⊕ (Int ⊕ Unit)) :=
 if (decide (sa.2.1 < (c.Order.length : Int))) = true then
  (getI c.Order sa.2.1).bind fun xa2 =>
  if (decide (xa2 < 0)) = true then
   some (.inr (.inr ()))
  else
   if (decide (xa2 ≥ (sa.1.length : Int))) = true then
    some (.inr (.inr ()))
   else
    (getI sa.1 xa2).bind fun xa5 =>
    if (!xa5) = true then
     some (.inr (.inr ()))
    else
     some (.inl ((sa.1.set (xa2).toNat false), (addW .i64 sa.2.1 1), (subW .i64 sa.2.2 1)))
 else
  some (.inr (.inl sa.2.2))
def cand_ordered (n : Nat) (c : Cand) (all : (List Event)) : Option Bool :=
 grd (decide (0 ≤ (all.length : Int)) && decide ((all.length : Int) ≤ (all.length : Int)) && decide (1 * (all.length : Int) ≤ 140737488355328) && decide ((all.length : Int) ≤ 140737488355328) && Nat.blt 0 1) <|
 (iter (fun s => cand_ordered_L1 n c all s) n ((List.replicate ((all.length : Int)).toNat false), 0, 0)).bind fun t2 =>
 (iter (fun s => cand_ordered_L2 n c s) n (t2.1, 0, t2.2)).bind fun t3 =>
 match t3 with
 | .inl w4 =>
  some (w4 == 0)
 | .inr w4 =>
  some false
def cand_Check_L1 (n : Nat) (c : Cand) (sa : Int × Int) : Option ((Int × Int) ⊕ (Int ⊕ Unit)) :=
 if (decide (sa.1 < (c.Harts.length : Int))) = true then
  (getI c.Harts sa.1).bind fun xa2 =>
  if (decide ((addW .i64 sa.2 (xa2.length : Int)) > 4096)) = true then
   some (.inr (.inr ()))
  else
   (event_Row n sa.1 xa2).bind fun ya4 =>
   if (ya4 != 0) = true then
    some (.inr (.inr ()))
   else
    some (.inl ((addW .i64 sa.1 1), (addW .i64 sa.2 (xa2.length : Int))))
 else
  some (.inr (.inl sa.2))
def cand_Check_L2 (n : Nat) (c : Cand) (y7 : (List Event)) (sa : Int) : Option (Int ⊕ (Unit ⊕ Unit)) :=
 if (decide (sa < (y7.length : Int))) = true then
  (cand_from n c y7 sa).bind fun ya2 =>
  if (!ya2) = true then
   some (.inr (.inr ()))
  else
   some (.inl (addW .i64 sa 1))
 else
  some (.inr (.inl ()))
def cand_Check (n : Nat) (c : Cand) : Option Int :=
 (cand_cells n c.First).bind fun y1 =>
 if (!y1) = true then
  some 2
 else
  if (decide ((c.Harts.length : Int) < 1)) = true then
   some 2
  else
   if (decide ((c.Harts.length : Int) > 8)) = true then
    some 2
   else
    (iter (fun s => cand_Check_L1 n c s) n (0, 0)).bind fun t5 =>
    match t5 with
    | .inl w6 =>
     (cand_flat_S n c.First c.Harts c.From c.Order).bind fun y7 =>
     if ((c.From.length : Int) != w6) = true then
      some 2
     else
      (iter (fun s => cand_Check_L2 n c y7 s) n 0).bind fun t9 =>
      match t9 with
      | .inl w10 =>
       (cand_ordered n c y7).bind fun y11 =>
       if (!y11) = true then
        some 2
       else
        some 0
      | .inr w10 =>
       some 2
    | .inr w6 =>
     some 2
def slices_Clone_int_int (n : Nat) (l : List Int) : Option (List Int) := grd (Nat.ble (l.length * 8) 140737488355328) (some l)
def cand_own (n : Nat) (e : Event) : Option Event :=
 (slices_Clone_int_int n e.Deps.Addr).bind fun y1 =>
 (slices_Clone_int_int n e.Deps.Data).bind fun y2 =>
 (slices_Clone_int_int n e.Deps.Way).bind fun y3 =>
 some (Event.mk e.Hart e.At e.Kind e.Addr e.Load e.Store e.Aq e.Rl e.Pred e.Succ e.Pair (Deps.mk y1 y2 y3))
def cand_All_L1 (n : Nat) (y3 : (List Event)) (sa : (List Event) × Int) : Option (((List Event) × Int) ⊕ ((List Event))) :=
 if (decide (sa.2 < (y3.length : Int))) = true then
  (getI y3 sa.2).bind fun xa2 =>
  (cand_own n xa2).bind fun ya3 =>
  grd (Nat.ble ((sa.1.length + 1) * 152) 140737488355328) <|
  some (.inl ((sa.1 ++ ([ya3] : List Event)), (addW .i64 sa.2 1)))
 else
  some (.inr sa.1)
def cand_All (n : Nat) (c : Cand) : Option (List Event) :=
 (cand_Check n c).bind fun y1 =>
 if (y1 != 0) = true then
  some ([] : List Event)
 else
  (cand_flat_S n c.First c.Harts c.From c.Order).bind fun y3 =>
  (iter (fun s => cand_All_L1 n y3 s) n (([] : List Event), 0)).bind fun t4 =>
  some t4
def math_bits_Mul64 (n : Nat) (x : Int) (y : Int) : Option (Int × Int) :=
 some ((addW .u64 (addW .u64 (mulW .u64 (shrW .u64 x 32) (shrW .u64 y 32)) (shrW .u64 (addW .u64 (mulW .u64 (shrW .u64 x 32) (andW .u64 y 4294967295)) (shrW .u64 (mulW .u64 (andW .u64 x 4294967295) (andW .u64 y 4294967295)) 32)) 32)) (shrW .u64 (addW .u64 (andW .u64 (addW .u64 (mulW .u64 (shrW .u64 x 32) (andW .u64 y 4294967295)) (shrW .u64 (mulW .u64 (andW .u64 x 4294967295) (andW .u64 y 4294967295)) 32)) 4294967295) (mulW .u64 (andW .u64 x 4294967295) (shrW .u64 y 32))) 32)), (mulW .u64 x y))
def math_bits_Mul (n : Nat) (x : Int) (y : Int) : Option (Int × Int) :=
 (math_bits_Mul64 n x y).bind fun y1 =>
 some (y1.1, y1.2)
def slices_Repeat_int_int_S_L1 (n : Nat) (sa : (List Int) × Int) : Option (((List Int) × Int) ⊕ ((List Int))) :=
 if (decide (sa.2 < (sa.1.length : Int))) = true then
  grd (decide (0 ≤ sa.2) && decide (sa.2 ≤ (sa.1.length : Int))) <|
  grd (decide (0 ≤ sa.2) && decide (sa.2 ≤ (sa.1.length : Int))) <|
  grd (Nat.ble ((sa.2).toNat + (sa.1.length - (sa.2).toNat)) sa.1.length) <|
  some (.inl ((sa.1.take ((sa.2).toNat) ++ (((sa.1.drop 0).take ((sa.2).toNat)).take (sa.1.length - (sa.2).toNat) ++ sa.1.drop ((sa.2).toNat + min ((sa.1.drop 0).take ((sa.2).toNat)).length (sa.1.length - (sa.2).toNat)))), (addW .i64 sa.2 ((min ((sa.1.drop 0).take ((sa.2).toNat)).length (sa.1.length - (sa.2).toNat) : Nat) : Int))))
 else
  some (.inr sa.1)
def slices_Repeat_int_int_S (n : Nat) (x : (List Int)) (count : Int) : Option (List Int) :=
 if (decide (count < 0)) = true then
  none
 else
  (math_bits_Mul n (IntKind.wrap .u64 (x.length : Int)) (IntKind.wrap .u64 count)).bind fun y2 =>
  if (decide (y2.1 > 0)) = true then
   none
  else
   if (decide (y2.2 > 9223372036854775807)) = true then
    none
   else
    grd (decide (0 ≤ (IntKind.wrap .i64 y2.2)) && decide ((IntKind.wrap .i64 y2.2) ≤ (IntKind.wrap .i64 y2.2)) && decide (8 * (IntKind.wrap .i64 y2.2) ≤ 140737488355328) && decide ((IntKind.wrap .i64 y2.2) ≤ 140737488355328) && Nat.blt 0 1) <|
    (iter (fun s => slices_Repeat_int_int_S_L1 n s) n ((x.take (List.replicate ((IntKind.wrap .i64 y2.2)).toNat 0).length ++ (List.replicate ((IntKind.wrap .i64 y2.2)).toNat 0).drop x.length), ((min x.length (List.replicate ((IntKind.wrap .i64 y2.2)).toNat 0).length : Nat) : Int))).bind fun t6 =>
    some t6
def cand_Places_L1 (n : Nat) (c : Cand) (sa : (List Int) × Int) : Option (((List Int) × Int) ⊕ ((List Int))) :=
 if (decide (sa.2 < (c.Order.length : Int))) = true then
  (getI c.Order sa.2).bind fun xa2 =>
  (getI sa.1 xa2).bind fun xa3 =>
  some (.inl ((sa.1.set (xa2).toNat sa.2), (addW .i64 sa.2 1)))
 else
  some (.inr sa.1)
def cand_Places (n : Nat) (c : Cand) : Option (List Int) :=
 (cand_Check n c).bind fun y1 =>
 if (y1 != 0) = true then
  some ([] : List Int)
 else
  (slices_Repeat_int_int_S n ([(-1)] : List Int) (c.From.length : Int)).bind fun y3 =>
  (iter (fun s => cand_Places_L1 n c s) n (y3, 0)).bind fun t4 =>
  some t4
def cand_bases_S (n : Nat) (ob : (List Cell)) (ob_ : (List (List Event))) (ob__ : (List Int)) (ob___ : (List Int)) : Option (Int × Int) :=
 some (0, 0)
def cand_bases_1_S (n : Nat) (ob : (List Cell)) (ob_ : (List (List Event))) (ob__ : (List Int)) (ob___ : (List Int)) (ob____ : Int) (ob_____ : Int) : Option (Int × Int) :=
 if (decide (ob_____ < (ob_.length : Int))) = true then
  (getI ob_ ob_____).bind fun x2 =>
  some ((addW .i64 ob____ (x2.length : Int)), (addW .i64 ob_____ 1))
 else
  some (ob____, ob_____)
def cand_Number_L1 (n : Nat) (c : Cand) (hart : Int) (at_ : Int) (sa : Int × Int × Int) : Option ((Int × Int × Int) ⊕ (Int × Int)) :=
 if (decide (sa.2.2 < hart)) = true then
  (cand_bases_1_S n c.First c.Harts c.From c.Order sa.1 sa.2.1).bind fun ya2 =>
  some (.inl (ya2.1, ya2.2, (addW .i64 sa.2.2 1)))
 else
  some (.inr (sa.1, sa.2.1))
def cand_Number (n : Nat) (c : Cand) (hart : Int) (at_ : Int) : Option (Int × Int) :=
 (cand_Check n c).bind fun y1 =>
 if (y1 != 0) = true then
  some (0, y1)
 else
  if (decide (hart < 0)) = true then
   some (0, 6)
  else
   if (decide (hart ≥ (c.Harts.length : Int))) = true then
    some (0, 6)
   else
    if (decide (at_ < 0)) = true then
     some (0, 6)
    else
     (getI c.Harts hart).bind fun x6 =>
     if (decide (at_ ≥ (x6.length : Int))) = true then
      some (0, 6)
     else
      (cand_bases_S n c.First c.Harts c.From c.Order).bind fun y8 =>
      (iter (fun s => cand_Number_L1 n c hart at_ s) n (y8.1, y8.2, 0)).bind fun t9 =>
      (cand_bases_1_S n c.First c.Harts c.From c.Order t9.1 t9.2).bind fun y10 =>
      some ((addW .i64 t9.1 at_), 0)
def kit_Same_int_L1 (n : Nat) (a : (List Int)) (b : (List Int)) (sa : Int) : Option (Int ⊕ (Unit ⊕ Unit)) :=
 if (decide (sa < (a.length : Int))) = true then
  (getI a sa).bind fun xa2 =>
  (getI b sa).bind fun xa3 =>
  if (xa2 != xa3) = true then
   some (.inr (.inr ()))
  else
   some (.inl (addW .i64 sa 1))
 else
  some (.inr (.inl ()))
def kit_Same_int (n : Nat) (a : (List Int)) (b : (List Int)) : Option Bool :=
 if ((a.length : Int) != (b.length : Int)) = true then
  some false
 else
  (iter (fun s => kit_Same_int_L1 n a b s) n 0).bind fun t2 =>
  match t2 with
  | .inl w3 =>
   some true
  | .inr w3 =>
   some false
def kit_Deps (n : Nat) (a : Deps) (b : Deps) : Option Bool :=
 (kit_Same_int n a.Addr b.Addr).bind fun y1 =>
 if y1 = true then
  (kit_Same_int n a.Data b.Data).bind fun y3 =>
  if y3 = true then
   (kit_Same_int n a.Way b.Way).bind fun y5 =>
   some y5
  else
   some false
 else
  some false
def kit_Event (n : Nat) (a : Event) (b : Event) : Option Bool :=
 (kit_Deps n a.Deps b.Deps).bind fun y1 =>
 if y1 = true then
  if (a.Hart == b.Hart) = true then
   if (a.At == b.At) = true then
    if (a.Kind == b.Kind) = true then
     if (a.Addr == b.Addr) = true then
      if (a.Load == b.Load) = true then
       if (a.Store == b.Store) = true then
        if (a.Aq == b.Aq) = true then
         if (a.Rl == b.Rl) = true then
          if (a.Pred == b.Pred) = true then
           if (a.Succ == b.Succ) = true then
            some (a.Pair == b.Pair)
           else
            some false
          else
           some false
         else
          some false
        else
         some false
       else
        some false
      else
       some false
     else
      some false
    else
     some false
   else
    some false
  else
   some false
 else
  some false
def ref_Reads (n : Nat) (e : Event) : Option Bool :=
 if (e.Kind == 1) = true then
  some true
 else
  if (e.Kind == 3) = true then
   some true
  else
   some (e.Kind == 5)
def ref_Writes (n : Nat) (e : Event) : Option Bool :=
 if (e.Kind == 2) = true then
  some true
 else
  if (e.Kind == 4) = true then
   some true
  else
   some (e.Kind == 5)
def ref_Memory (n : Nat) (e : Event) : Option Bool :=
 (ref_Reads n e).bind fun y1 =>
 if y1 = true then
  some true
 else
  (ref_Writes n e).bind fun y3 =>
  some y3
def law_CandNumbers_L2 (n : Nat) (c : Cand) (y7 : (List Event)) (y8 : (List Int)) (sb : Int × Int × Int) : Option ((Int × Int × Int) ⊕ ((Int × Int) ⊕ Unit)) :=
 (getI c.Harts sb.2.1).bind fun xb1 =>
 if (decide (sb.2.2 < (xb1.length : Int))) = true then
  (cand_Number n c sb.2.1 sb.2.2).bind fun yb3 =>
  if (yb3.2 != 0) = true then
   some (.inr (.inr ()))
  else
   if (yb3.1 != sb.1) = true then
    some (.inr (.inr ()))
   else
    if (decide (sb.1 ≥ (y7.length : Int))) = true then
     some (.inr (.inr ()))
    else
     (getI y7 sb.1).bind fun xb7 =>
     (getI xb1 sb.2.2).bind fun xb8 =>
     (kit_Event n xb7 xb8).bind fun yb9 =>
     if (!yb9) = true then
      some (.inr (.inr ()))
     else
      some (.inl ((addW .i64 sb.1 1), sb.2.1, (addW .i64 sb.2.2 1)))
 else
  some (.inr (.inl (sb.1, sb.2.1)))
def law_CandNumbers_L1 (n : Nat) (c : Cand) (y7 : (List Event)) (y8 : (List Int)) (sa : Int × Int) : Option ((Int × Int) ⊕ (Int ⊕ Unit)) :=
 if (decide (sa.2 < (c.Harts.length : Int))) = true then
  (iter (fun s => law_CandNumbers_L2 n c y7 y8 s) n (sa.1, sa.2, 0)).bind fun ta2 =>
  match ta2 with
  | .inl wa3 =>
   some (.inl (wa3.1, (addW .i64 wa3.2 1)))
  | .inr wa3 =>
   some (.inr (.inr ()))
 else
  some (.inr (.inl sa.1))
def law_CandNumbers_L3 (n : Nat) (c : Cand) (y7 : (List Event)) (y8 : (List Int)) (w10 : Int) (sa : Int × Int) : Option ((Int × Int) ⊕ (Int ⊕ Unit)) :=
 if (decide (sa.2 < w10)) = true then
  (getI y7 sa.2).bind fun xa2 =>
  (ref_Memory n xa2).bind fun ya3 =>
  if (!ya3) = true then
   (getI y8 sa.2).bind fun xa5 =>
   if (xa5 != (-1)) = true then
    some (.inr (.inr ()))
   else
    some (.inl (sa.1, (addW .i64 sa.2 1)))
  else
   (getI y8 sa.2).bind fun xa5 =>
   if (decide (xa5 < 0)) = true then
    some (.inr (.inr ()))
   else
    if (decide (xa5 ≥ (c.Order.length : Int))) = true then
     some (.inr (.inr ()))
    else
     (getI c.Order xa5).bind fun xa8 =>
     if (xa8 != sa.2) = true then
      some (.inr (.inr ()))
     else
      some (.inl ((addW .i64 sa.1 1), (addW .i64 sa.2 1)))
 else
  some (.inr (.inl sa.1))
def law_CandNumbers (n : Nat) (c : Cand) : Option Bool :=
 (law_lives n).bind fun y1 =>
 if (!y1) = true then
  some false
 else
  (kit_LightCand n c 60).bind fun y3 =>
  if (!y3) = true then
   some true
  else
   (cand_Check n c).bind fun y5 =>
   if (y5 != 0) = true then
    some true
   else
    (cand_All n c).bind fun y7 =>
    (cand_Places n c).bind fun y8 =>
    (iter (fun s => law_CandNumbers_L1 n c y7 y8 s) n (0, 0)).bind fun t9 =>
    match t9 with
    | .inl w10 =>
     if ((y7.length : Int) != w10) = true then
      some false
     else
      if ((y8.length : Int) != w10) = true then
       some false
      else
       if ((c.From.length : Int) != w10) = true then
        some false
       else
        (iter (fun s => law_CandNumbers_L3 n c y7 y8 w10 s) n (0, 0)).bind fun t14 =>
        match t14 with
        | .inl w15 =>
         some (w15 == (c.Order.length : Int))
        | .inr w15 =>
         some false
    | .inr w10 =>
     some false

end Go.Proofs.Ytcckeabholabcaa
