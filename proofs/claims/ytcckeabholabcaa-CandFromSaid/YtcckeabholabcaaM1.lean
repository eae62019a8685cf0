/- What the functions compute, as functions on lists and numbers. Printed by a program from the code; nothing is claimed here. -/
import Derived.Test.YtcckeabholabcaaM0
namespace Go.Proofs.Ytcckeabholabcaa
open Go A
set_option linter.unusedVariables false

structure Cell where
  mk ::
  Addr : Int
  Value : Int
structure Deps where
  mk ::
  Addr : (List Int)
  Data : (List Int)
  Way : (List Int)
structure Event where
  mk ::
  Hart : Int
  At : Int
  Kind : Int
  Addr : Int
  Load : Int
  Store : Int
  Aq : Bool
  Rl : Bool
  Pred : Int
  Succ : Int
  Pair : Int
  Deps : Deps
structure Cand where
  mk ::
  First : (List Cell)
  Harts : (List (List Event))
  From : (List Int)
  Order : (List Int)
structure event_rest where
  mk ::
  hart : Int
  at_ : Int
  kind : Int
  pred : Int
  succ : Int
  pair : Int
  addr : Int
  load : Int
  store : Int
  aq : Bool
  rl : Bool
def event_rest.beq (x y : event_rest) : Bool := ((x.hart == y.hart) && ((x.at_ == y.at_) && ((x.kind == y.kind) && ((x.pred == y.pred) && ((x.succ == y.succ) && ((x.pair == y.pair) && ((x.addr == y.addr) && ((x.load == y.load) && ((x.store == y.store) && ((x.aq == y.aq) && (x.rl == y.rl)))))))))))
theorem event_rest.beq_eq {x y : event_rest} (h : event_rest.beq x y = true) : x = y := by
  obtain ⟨a1, a2, a3, a4, a5, a6, a7, a8, a9, a10, a11⟩ := x
  obtain ⟨b12, b13, b14, b15, b16, b17, b18, b19, b20, b21, b22⟩ := y
  unfold event_rest.beq at h
  simp only [Bool.and_eq_true, beq_iff_eq, toList_iff] at h
  simp_all
theorem event_rest.beq_refl (x : event_rest) : event_rest.beq x x = true := by
  unfold event_rest.beq
  simp
def Cell.wf (x : Cell) : Prop := (inR .u64 x.Addr) ∧ (inR .u64 x.Value)
def Deps.wf (x : Deps) : Prop := (x.Addr.length ≤ maxLen ∧ ∀ z ∈ x.Addr, inR .i64 z) ∧ (x.Data.length ≤ maxLen ∧ ∀ z ∈ x.Data, inR .i64 z) ∧ (x.Way.length ≤ maxLen ∧ ∀ z ∈ x.Way, inR .i64 z)
def Event.wf (x : Event) : Prop := (inR .i64 x.Hart) ∧ (inR .i64 x.At) ∧ (inR .i64 x.Kind) ∧ (inR .u64 x.Addr) ∧ (inR .u64 x.Load) ∧ (inR .u64 x.Store) ∧ (True) ∧ (True) ∧ (inR .i64 x.Pred) ∧ (inR .i64 x.Succ) ∧ (inR .i64 x.Pair) ∧ (Deps.wf x.Deps)
def Cand.wf (x : Cand) : Prop := (x.First.length ≤ maxLen ∧ ∀ z ∈ x.First, Cell.wf z) ∧ (x.Harts.length ≤ maxLen ∧ ∀ z ∈ x.Harts, z.length ≤ maxLen ∧ ∀ zz ∈ z, Event.wf zz) ∧ (x.From.length ≤ maxLen ∧ ∀ z ∈ x.From, inR .i64 z) ∧ (x.Order.length ≤ maxLen ∧ ∀ z ∈ x.Order, inR .i64 z)
def law_lives (n : Nat) : Option Bool := some true
def kit_LightDeps (n : Nat) (d : Deps) (most : Int) : Option Bool :=
 if (decide ((d.Addr.length : Int) ≤ most)) = true then
  if (decide ((d.Data.length : Int) ≤ most)) = true then
   some (decide ((d.Way.length : Int) ≤ most))
  else
   some false
 else
  some false
def kit_LightEvents_L1 (n : Nat) (l : (List Event)) (sa : Int) : Option (Int ⊕ (Unit ⊕ Unit)) :=
 if (decide (sa < (l.length : Int))) = true then
  (getI l sa).bind fun xa2 =>
  (kit_LightDeps n xa2.Deps 60).bind fun ya3 =>
  if (!ya3) = true then
   some (.inr (.inr ()))
  else
   some (.inl (addW .i64 sa 1))
 else
  some (.inr (.inl ()))
def kit_LightEvents (n : Nat) (l : (List Event)) (most : Int) : Option Bool :=
 if (decide ((l.length : Int) > most)) = true then
  some false
 else
  (iter (fun s => kit_LightEvents_L1 n l s) n 0).bind fun t2 =>
  match t2 with
  | .inl w3 =>
   some true
  | .inr w3 =>
   some false
def kit_LightCand_L1 (n : Nat) (c : Cand) (most : Int) (sa : Int × Int) : Option ((Int × Int) ⊕ (Int ⊕ Unit)) :=
 if (decide (sa.2 < (c.Harts.length : Int))) = true then
  if (decide (sa.2 < 10)) = true then
   (getI c.Harts sa.2).bind fun xa3 =>
   (kit_LightEvents n xa3 most).bind fun ya4 =>
   if (!ya4) = true then
    some (.inr (.inr ()))
   else
    some (.inl ((addW .i64 sa.1 (xa3.length : Int)), (addW .i64 sa.2 1)))
  else
   some (.inr (.inl sa.1))
 else
  some (.inr (.inl sa.1))
def kit_LightCand (n : Nat) (c : Cand) (most : Int) : Option Bool :=
 (iter (fun s => kit_LightCand_L1 n c most s) n (0, 0)).bind fun t1 =>
 match t1 with
 | .inl w2 =>
  if (decide ((c.Harts.length : Int) ≤ 9)) = true then
   if (decide (w2 ≤ most)) = true then
    if (decide ((c.First.length : Int) ≤ most)) = true then
     if (decide ((c.From.length : Int) ≤ (mulW .i64 2 most))) = true then
      some (decide ((c.Order.length : Int) ≤ (mulW .i64 2 most)))
     else
      some false
    else
     some false
   else
    some false
  else
   some false
 | .inr w2 =>
  some false
def cand_cells_L1 (n : Nat) (l : (List Cell)) (sa : Int) : Option (Int ⊕ (Unit ⊕ Unit)) :=
 if (decide (sa < (l.length : Int))) = true then
  (getI l sa).bind fun xa2 =>
  if ((remW .u64 xa2.Addr 8) != 0) = true then
   some (.inr (.inr ()))
  else
   if (decide (sa > 0)) = true then
    (getI l (subW .i64 sa 1)).bind fun xa5 =>
    if (decide (xa5.Addr ≥ xa2.Addr)) = true then
     some (.inr (.inr ()))
    else
     some (.inl (addW .i64 sa 1))
   else
    some (.inl (addW .i64 sa 1))
 else
  some (.inr (.inl ()))
def cand_cells (n : Nat) (l : (List Cell)) : Option Bool :=
 (iter (fun s => cand_cells_L1 n l s) n 0).bind fun t1 =>
 match t1 with
 | .inl w2 =>
  some true
 | .inr w2 =>
  some false
def event_has (n : Nat) (kind : Int) : Option Int :=
 if (decide (kind < 1)) = true then
  some 0
 else
  if (decide (kind > 6)) = true then
   some 0
  else
   if (kind == 0) = true then
    some 0
   else
    if (kind == 1) = true then
     some 1
    else
     if (kind == 2) = true then
      some 2
     else
      if (kind == 3) = true then
       some 5
      else
       if (kind == 4) = true then
        some 14
       else
        if (kind == 5) = true then
         some 7
        else
         if (kind == 6) = true then
          some 16
         else
          none
def slices_Equal_int_int_L1 (n : Nat) (s1_ : (List Int)) (s2_ : (List Int)) (sa : Int) : Option (Int ⊕ (Unit ⊕ Unit)) :=
 if (decide (sa < (s1_.length : Int))) = true then
  (getI s1_ sa).bind fun xa2 =>
  (getI s2_ sa).bind fun xa3 =>
  if (xa2 != xa3) = true then
   some (.inr (.inr ()))
  else
   some (.inl (addW .i64 sa 1))
 else
  some (.inr (.inl ()))
def slices_Equal_int_int (n : Nat) (s1_ : (List Int)) (s2_ : (List Int)) : Option Bool :=
 if ((s1_.length : Int) != (s2_.length : Int)) = true then
  some false
 else
  (iter (fun s => slices_Equal_int_int_L1 n s1_ s2_ s) n 0).bind fun t2 =>
  match t2 with
  | .inl w3 =>
   some true
  | .inr w3 =>
   some false
def event_Same_1 (n : Nat) (e : Event) : Option event_rest :=
 some (event_rest.mk e.Hart e.At e.Kind e.Pred e.Succ e.Pair e.Addr e.Load e.Store e.Aq e.Rl)
def event_Same (n : Nat) (a : Event) (b : Event) : Option Bool :=
 (slices_Equal_int_int n a.Deps.Addr b.Deps.Addr).bind fun y1 =>
 if (!y1) = true then
  some false
 else
  (slices_Equal_int_int n a.Deps.Data b.Deps.Data).bind fun y3 =>
  if (!y3) = true then
   some false
  else
   (slices_Equal_int_int n a.Deps.Way b.Deps.Way).bind fun y5 =>
   if (!y5) = true then
    some false
   else
    (event_Same_1 n a).bind fun y7 =>
    (event_Same_1 n b).bind fun y8 =>
    if (event_rest.beq y7 y8) = true then
     some true
    else
     some false
def taint_Rising_L1 (n : Nat) (l : (List Int)) (sa : Int × Int) : Option ((Int × Int) ⊕ (Unit ⊕ Unit)) :=
 if (decide (sa.2 < (l.length : Int))) = true then
  (getI l sa.2).bind fun xa2 =>
  if (decide (xa2 ≤ sa.1)) = true then
   some (.inr (.inr ()))
  else
   some (.inl (xa2, (addW .i64 sa.2 1)))
 else
  some (.inr (.inl ()))
def taint_Rising (n : Nat) (l : (List Int)) : Option Bool :=
 (iter (fun s => taint_Rising_L1 n l s) n ((-1), 0)).bind fun t1 =>
 match t1 with
 | .inl w2 =>
  some true
 | .inr w2 =>
  some false
def event_below (n : Nat) (l : (List Int)) (at_ : Int) : Option Bool :=
 (taint_Rising n l).bind fun y1 =>
 if y1 = true then
  if ((l.length : Int) == 0) = true then
   some true
  else
   (getI l (subW .i64 (l.length : Int) 1)).bind fun x4 =>
   some (decide (x4 < at_))
 else
  some false
def event_Check_C5 (n : Nat) (e : Event) (y1 : Int) (sf : Int × (List Int) × (List Int) × (List Int) × Int × Int × Int × Bool × Bool × Int × Int) : Option Int :=
 if (y1 == 0) = true then
  some 2
 else
  if (decide (e.Hart < 0)) = true then
   some 2
  else
   if (decide (e.Hart ≥ 8)) = true then
    some 2
   else
    if (decide (e.At < 0)) = true then
     some 2
    else
     (event_Same n (Event.mk e.Hart e.At e.Kind sf.2.2.2.2.1 sf.2.2.2.2.2.1 sf.2.2.2.2.2.2.1 sf.2.2.2.2.2.2.2.1 sf.2.2.2.2.2.2.2.2.1 sf.2.2.2.2.2.2.2.2.2.1 sf.2.2.2.2.2.2.2.2.2.2 sf.1 (Deps.mk sf.2.1 sf.2.2.1 sf.2.2.2.1)) e).bind fun yf5 =>
     if (!yf5) = true then
      some 2
     else
      if ((remW .u64 e.Addr 8) != 0) = true then
       some 2
      else
       if (decide (e.Pred < 0)) = true then
        some 2
       else
        if (decide (e.Pred > 15)) = true then
         some 2
        else
         if (decide (e.Succ < 0)) = true then
          some 2
         else
          if (decide (e.Succ > 15)) = true then
           some 2
          else
           if ((andW .u64 y1 8) != 0) = true then
            if (decide (e.Pair < 0)) = true then
             some 2
            else
             if (decide (e.Pair ≥ e.At)) = true then
              some 2
             else
              (event_below n e.Deps.Addr e.At).bind fun yf15 =>
              if (!yf15) = true then
               some 2
              else
               (event_below n e.Deps.Data e.At).bind fun yf17 =>
               if (!yf17) = true then
                some 2
               else
                (event_below n e.Deps.Way e.At).bind fun yf19 =>
                if (!yf19) = true then
                 some 2
                else
                 some 0
           else
            (event_below n e.Deps.Addr e.At).bind fun yf13 =>
            if (!yf13) = true then
             some 2
            else
             (event_below n e.Deps.Data e.At).bind fun yf15 =>
             if (!yf15) = true then
              some 2
             else
              (event_below n e.Deps.Way e.At).bind fun yf17 =>
              if (!yf17) = true then
               some 2
              else
               some 0
def event_Check_C4 (n : Nat) (e : Event) (y1 : Int) (se : (List Int) × (List Int) × (List Int) × Int × Int × Int × Bool × Bool × Int × Int) : Option Int :=
 if ((andW .u64 y1 8) != 0) = true then
  (event_Check_C5 n e y1 (e.Pair, se.1, se.2.1, se.2.2.1, se.2.2.2.1, se.2.2.2.2.1, se.2.2.2.2.2.1, se.2.2.2.2.2.2.1, se.2.2.2.2.2.2.2.1, se.2.2.2.2.2.2.2.2.1, se.2.2.2.2.2.2.2.2.2)).bind fun te2 =>
  some te2
 else
  (event_Check_C5 n e y1 (0, se.1, se.2.1, se.2.2.1, se.2.2.2.1, se.2.2.2.2.1, se.2.2.2.2.2.1, se.2.2.2.2.2.2.1, se.2.2.2.2.2.2.2.1, se.2.2.2.2.2.2.2.2.1, se.2.2.2.2.2.2.2.2.2)).bind fun te2 =>
  some te2
def event_Check_C3 (n : Nat) (e : Event) (y1 : Int) (sd : (List Int) × (List Int) × (List Int) × Int × Int × Int × Int × Int) : Option Int :=
 if ((andW .u64 y1 4) != 0) = true then
  (event_Check_C4 n e y1 (sd.1, sd.2.1, sd.2.2.1, sd.2.2.2.1, sd.2.2.2.2.1, sd.2.2.2.2.2.1, e.Aq, e.Rl, sd.2.2.2.2.2.2.1, sd.2.2.2.2.2.2.2)).bind fun td2 =>
  some td2
 else
  (event_Check_C4 n e y1 (sd.1, sd.2.1, sd.2.2.1, sd.2.2.2.1, sd.2.2.2.2.1, sd.2.2.2.2.2.1, false, false, sd.2.2.2.2.2.2.1, sd.2.2.2.2.2.2.2)).bind fun td2 =>
  some td2
def event_Check_C2 (n : Nat) (e : Event) (y1 : Int) (sb : (List Int) × (List Int) × Int × Int × Int × Int) : Option Int :=
 if ((andW .u64 y1 2) != 0) = true then
  (event_Check_C3 n e y1 (sb.1, e.Deps.Data, sb.2.1, sb.2.2.1, sb.2.2.2.1, e.Store, sb.2.2.2.2.1, sb.2.2.2.2.2)).bind fun tb2 =>
  some tb2
 else
  (event_Check_C3 n e y1 (sb.1, ([] : List Int), sb.2.1, sb.2.2.1, sb.2.2.2.1, 0, sb.2.2.2.2.1, sb.2.2.2.2.2)).bind fun tb2 =>
  some tb2
def event_Check_C1 (n : Nat) (e : Event) (y1 : Int) (sa : (List Int) × (List Int) × Int × Int × Int) : Option Int :=
 if ((andW .u64 y1 1) != 0) = true then
  (event_Check_C2 n e y1 (sa.1, sa.2.1, sa.2.2.1, e.Load, sa.2.2.2.1, sa.2.2.2.2)).bind fun ta2 =>
  some ta2
 else
  (event_Check_C2 n e y1 (sa.1, sa.2.1, sa.2.2.1, 0, sa.2.2.2.1, sa.2.2.2.2)).bind fun ta2 =>
  some ta2
def event_Check (n : Nat) (e : Event) : Option Int :=
 (event_has n e.Kind).bind fun y1 =>
 if ((andW .u64 y1 16) != 0) = true then
  (event_Check_C1 n e y1 (([] : List Int), ([] : List Int), 0, e.Pred, e.Succ)).bind fun t3 =>
  some t3
 else
  (event_Check_C1 n e y1 (e.Deps.Addr, e.Deps.Way, e.Addr, 0, 0)).bind fun t3 =>
  some t3
def event_Row_L1 (n : Nat) (hart : Int) (l : (List Event)) (sa : Int × Int) : Option ((Int × Int) ⊕ (Unit ⊕ Unit)) :=
 if (decide (sa.1 < (l.length : Int))) = true then
  (getI l sa.1).bind fun xa2 =>
  (event_Check n xa2).bind fun ya3 =>
  if (ya3 != 0) = true then
   some (.inr (.inr ()))
  else
   if (xa2.Hart != hart) = true then
    some (.inr (.inr ()))
   else
    if (xa2.At != sa.1) = true then
     some (.inr (.inr ()))
    else
     if (xa2.Kind == 3) = true then
      some (.inl ((addW .i64 sa.1 1), sa.1))
     else
      if (xa2.Kind == 4) = true then
       if (xa2.Pair != sa.2) = true then
        some (.inr (.inr ()))
       else
        (getI l sa.2).bind fun xa10 =>
        if (xa10.Addr != xa2.Addr) = true then
         some (.inr (.inr ()))
        else
         some (.inl ((addW .i64 sa.1 1), (-1)))
      else
       some (.inl ((addW .i64 sa.1 1), sa.2))
 else
  some (.inr (.inl ()))
def event_Row (n : Nat) (hart : Int) (l : (List Event)) : Option Int :=
 (iter (fun s => event_Row_L1 n hart l s) n (0, (-1))).bind fun t1 =>
 match t1 with
 | .inl w2 =>
  some 0
 | .inr w2 =>
  some 4
def slices_Grow_api_Event_api_Event_S (n : Nat) (n_ : Int) : Option ((Nat × Nat × Nat × (List Event)) ⊕ Unit) :=
 if (decide (n_ < 0)) = true then
  none
 else
  if (decide ((subW .i64 n_ 0) > 0)) = true then
   grd (Nat.blt 0 14 && Nat.blt 0 152 && decide (0 < (subW .i64 n_ 0)) && decide ((subW .i64 n_ 0) * 152 ≤ 140737488355328) && decide ((subW .i64 n_ 0) ≤ 140737488355328)) <|
   grd (decide ((0 : Int) ≤ 0) && decide (0 ≤ (((subW .i64 n_ 0)).toNat : Int))) <|
   some (.inl (0, 0, ((subW .i64 n_ 0)).toNat, (List.replicate ((subW .i64 n_ 0)).toNat (Event.mk 0 0 0 0 0 0 false false 0 0 0 (Deps.mk ([] : List Int) ([] : List Int) ([] : List Int))))))
  else
   some (.inr ())
def slices_Concat_api_Event_api_Event_L1 (n : Nat) (slices : (List (List Event))) (sa : Int × Int) : Option ((Int × Int) ⊕ Int) :=
 if (decide (sa.1 < (slices.length : Int))) = true then
  (getI slices sa.1).bind fun xa2 =>
  if (decide ((addW .i64 sa.2 (xa2.length : Int)) < 0)) = true then
   none
  else
   some (.inl ((addW .i64 sa.1 1), (addW .i64 sa.2 (xa2.length : Int))))
 else
  some (.inr sa.2)
def slices_Concat_api_Event_api_Event_L2 (n : Nat) (slices : (List (List Event))) (wa3 : Nat × Nat × Nat × (List Event)) (sa : Nat × Nat × (List Event) × Int) : Option ((Nat × Nat × (List Event) × Int) ⊕ (Nat × Nat × (List Event))) :=
 if (decide (sa.2.2.2 < (slices.length : Int))) = true then
  (getI slices sa.2.2.2).bind fun xa2 =>
  grd (Nat.ble xa2.length sa.2.1) <|
  grd (Nat.ble (wa3.1 + sa.1 + sa.2.1) sa.2.2.1.length) <|
  some (.inl ((sa.1 + xa2.length), (sa.2.1 - xa2.length), (sa.2.2.1.take (wa3.1 + sa.1) ++ (xa2 ++ sa.2.2.1.drop (wa3.1 + sa.1 + xa2.length))), (addW .i64 sa.2.2.2 1)))
 else
  some (.inr (sa.1, sa.2.1, sa.2.2.1))
def slices_Concat_api_Event_api_Event_L3 (n : Nat) (slices : (List (List Event))) (sa : (List Event) × Int) : Option (((List Event) × Int) ⊕ ((List Event))) :=
 if (decide (sa.2 < (slices.length : Int))) = true then
  (getI slices sa.2).bind fun xa2 =>
  grd (Nat.ble ((sa.1.length + xa2.length) * 152) 140737488355328) <|
  some (.inl ((sa.1 ++ xa2), (addW .i64 sa.2 1)))
 else
  some (.inr sa.1)
def slices_Concat_api_Event_api_Event (n : Nat) (slices : (List (List Event))) : Option (List Event) :=
 (iter (fun s => slices_Concat_api_Event_api_Event_L1 n slices s) n (0, 0)).bind fun t1 =>
 (slices_Grow_api_Event_api_Event_S n t1).bind fun y2 =>
 match y2 with
 | .inl wa3 =>
  (iter (fun s => slices_Concat_api_Event_api_Event_L2 n slices wa3 s) n (wa3.2.1, wa3.2.2.1, wa3.2.2.2, 0)).bind fun t4 =>
  some ((t4.2.2.drop wa3.1).take t4.1)
 | .inr wb3 =>
  (iter (fun s => slices_Concat_api_Event_api_Event_L3 n slices s) n (([] : List Event), 0)).bind fun t4 =>
  some t4
def cand_flat_S (n : Nat) (ob : (List Cell)) (ob_ : (List (List Event))) (ob__ : (List Int)) (ob___ : (List Int)) : Option (List Event) :=
 (slices_Concat_api_Event_api_Event n ob_).bind fun y1 =>
 some y1
def event_Reads (n : Nat) (e : Event) : Option Bool :=
 (event_has n e.Kind).bind fun y1 =>
 some ((andW .u64 y1 1) != 0)
def cmp_isNaN_uint64 (n : Nat) (x : Int) : Option Bool :=
 some (x != x)
def cmp_Compare_uint64 (n : Nat) (x : Int) (y : Int) : Option Int :=
 (cmp_isNaN_uint64 n x).bind fun y1 =>
 (cmp_isNaN_uint64 n y).bind fun y2 =>
 if y1 = true then
  if y2 = true then
   some 0
  else
   some (-1)
 else
  if y2 = true then
   some 1
  else
   if (decide (x < y)) = true then
    some (-1)
   else
    if (decide (x > y)) = true then
     some 1
    else
     some 0
def cand_found_1 (n : Nat) (x : Cell) (a : Int) : Option Int :=
 (cmp_Compare_uint64 n x.Addr a).bind fun y1 =>
 some y1
def slices_BinarySearchFunc_api_Cell_api_Cell_uint64_L1 (n : Nat) (x : (List Cell)) (target : Int) (sa : Int × Int) : Option ((Int × Int) ⊕ Int) :=
 if (decide (sa.2 < sa.1)) = true then
  (getI x (IntKind.wrap .i64 (shrW .u64 (IntKind.wrap .u64 (addW .i64 sa.2 sa.1)) 1))).bind fun xa2 =>
  (cand_found_1 n xa2 target).bind fun ya3 =>
  if (decide (ya3 < 0)) = true then
   some (.inl (sa.1, (addW .i64 (IntKind.wrap .i64 (shrW .u64 (IntKind.wrap .u64 (addW .i64 sa.2 sa.1)) 1)) 1)))
  else
   some (.inl ((IntKind.wrap .i64 (shrW .u64 (IntKind.wrap .u64 (addW .i64 sa.2 sa.1)) 1)), sa.2))
 else
  some (.inr sa.2)
def slices_BinarySearchFunc_api_Cell_api_Cell_uint64 (n : Nat) (x : (List Cell)) (target : Int) : Option (Int × Bool) :=
 (iter (fun s => slices_BinarySearchFunc_api_Cell_api_Cell_uint64_L1 n x target s) n ((x.length : Int), 0)).bind fun t1 =>
 if (decide (t1 < (x.length : Int))) = true then
  (getI x t1).bind fun x3 =>
  (cand_found_1 n x3 target).bind fun y4 =>
  some (t1, (y4 == 0))
 else
  some (t1, false)
def cand_found (n : Nat) (l : (List Cell)) (addr : Int) : Option Int :=
 (slices_BinarySearchFunc_api_Cell_api_Cell_uint64 n l addr).bind fun y1 =>
 if (!y1.2) = true then
  some 0
 else
  (getI l y1.1).bind fun x3 =>
  some x3.Value
def event_Writes (n : Nat) (e : Event) : Option Bool :=
 (event_has n e.Kind).bind fun y1 =>
 some ((andW .u64 y1 2) != 0)
def cand_from (n : Nat) (c : Cand) (all : (List Event)) (n_ : Int) : Option Bool :=
 (getI all n_).bind fun x1 =>
 (getI c.From n_).bind fun x2 =>
 (event_Reads n x1).bind fun y3 =>
 if (!y3) = true then
  some (x2 == (-1))
 else
  if (x2 == (-1)) = true then
   (cand_found n c.First x1.Addr).bind fun y6 =>
   some (x1.Load == y6)
  else
   if (decide (x2 < 0)) = true then
    some false
   else
    if (decide (x2 ≥ (all.length : Int))) = true then
     some false
    else
     if (x2 == n_) = true then
      some false
     else
      (getI all x2).bind fun x9 =>
      (event_Writes n x9).bind fun y10 =>
      if y10 = true then
       if (x9.Addr == x1.Addr) = true then
        some (x9.Store == x1.Load)
       else
        some false
      else
       some false
def event_Memory (n : Nat) (e : Event) : Option Bool :=
 (event_Reads n e).bind fun y1 =>
 if y1 = true then
  some true
 else
  (event_Writes n e).bind fun y3 =>
  some y3
def cand_ordered_L1 (n : Nat) (c : Cand) (all : (List Event)) (sa : (List Bool) × Int × Int) : Option (((List Bool) × Int × Int) ⊕ ((List Bool) × Int)) :=
 if (decide (sa.2.1 < (all.length : Int))) = true then
  (getI all sa.2.1).bind fun xa2 =>
  (event_Memory n xa2).bind fun ya3 =>
  if ya3 = true then
   (getI sa.1 sa.2.1).bind fun xa5 =>
   some (.inl ((sa.1.set (sa.2.1).toNat true), (addW .i64 sa.2.1 1), (addW .i64 sa.2.2 1)))
  else
   some (.inl (sa.1, (addW .i64 sa.2.1 1), sa.2.2))
 else
  some (.inr (sa.1, sa.2.2))
def cand_ordered_L2 (n : Nat) (c : Cand) (sa : (List Bool) × Int × Int) : Option (((List Bool) × Int × Int) ⊕ (Int ⊕ Unit)) :=
 if (decide (sa.2.1 < (c.Order.length : Int))) = true then
  (getI c.Order sa.2.1).bind fun xa2 =>
  if (decide (xa2 < 0)) = true then
   some (.inr (.inr ()))
  else
   if (decide (xa2 ≥ (sa.1.length : Int))) = true then
    some (.inr (.inr ()))
   else
    (getI sa.1 xa2).bind fun xa5 =>
    if (!xa5) = true then
     some (.inr (.inr ()))
    else
     some (.inl ((sa.1.set (xa2).toNat false), (addW .i64 sa.2.1 1), (subW .i64 sa.2.2 1)))
 else
  some (.inr (.inl sa.2.2))
def cand_ordered (n : Nat) (c : Cand) (all : (List Event)) : Option Bool :=
 grd (decide ((0 : Int) ≤ (all.length : Int)) && decide ((all.length : Int) ≤ (all.length : Int)) && decide (1 * (all.length : Int) ≤ 140737488355328) && decide ((all.length : Int) ≤ 140737488355328) && Nat.blt 0 1) <|
 (iter (fun s => cand_ordered_L1 n c all s) n ((List.replicate ((all.length : Int)).toNat false), 0, 0)).bind fun t2 =>
 (iter (fun s => cand_ordered_L2 n c s) n (t2.1, 0, t2.2)).bind fun t3 =>
 match t3 with
 | .inl w4 =>
  some (w4 == 0)
 | .inr w4 =>
  some false
def cand_Check_L1 (n : Nat) (c : Cand) (sa : Int × Int) : Option ((Int × Int) ⊕ (Int ⊕ Unit)) :=
 if (decide (sa.1 < (c.Harts.length : Int))) = true then
  (getI c.Harts sa.1).bind fun xa2 =>
  if (decide ((addW .i64 sa.2 (xa2.length : Int)) > 4096)) = true then
   some (.inr (.inr ()))
  else
   (event_Row n sa.1 xa2).bind fun ya4 =>
   if (ya4 != 0) = true then
    some (.inr (.inr ()))
   else
    some (.inl ((addW .i64 sa.1 1), (addW .i64 sa.2 (xa2.length : Int))))
 else
  some (.inr (.inl sa.2))
def cand_Check_L2 (n : Nat) (c : Cand) (y7 : (List Event)) (sa : Int) : Option (Int ⊕ (Unit ⊕ Unit)) :=
 if (decide (sa < (y7.length : Int))) = true then
  (cand_from n c y7 sa).bind fun ya2 =>
  if (!ya2) = true then
   some (.inr (.inr ()))
  else
   some (.inl (addW .i64 sa 1))
 else
  some (.inr (.inl ()))
def cand_Check (n : Nat) (c : Cand) : Option Int :=
 (cand_cells n c.First).bind fun y1 =>
 if (!y1) = true then
  some 2
 else
  if (decide ((c.Harts.length : Int) < 1)) = true then
   some 2
  else
   if (decide ((c.Harts.length : Int) > 8)) = true then
    some 2
   else
    (iter (fun s => cand_Check_L1 n c s) n (0, 0)).bind fun t5 =>
    match t5 with
    | .inl w6 =>
     (cand_flat_S n c.First c.Harts c.From c.Order).bind fun y7 =>
     if ((c.From.length : Int) != w6) = true then
      some 2
     else
      (iter (fun s => cand_Check_L2 n c y7 s) n 0).bind fun t9 =>
      match t9 with
      | .inl w10 =>
       (cand_ordered n c y7).bind fun y11 =>
       if (!y11) = true then
        some 2
       else
        some 0
      | .inr w10 =>
       some 2
    | .inr w6 =>
     some 2
def kit_Pick (n : Nat) (n_ : Int) (m : Int) : Option Int :=
 if (decide (m < 1)) = true then
  some 0
 else
  grd (decide (IntKind.i64 = IntKind.i64) && !(m == 0)) <|
  if (decide ((remW .i64 n_ m) < 0)) = true then
   some (addW .i64 (remW .i64 n_ m) m)
  else
   some (remW .i64 n_ m)
def slices_Clone_int_int (n : Nat) (l : List Int) : Option (List Int) := grd (Nat.ble (l.length * 8) 140737488355328) (some l)
def cand_own (n : Nat) (e : Event) : Option Event :=
 (slices_Clone_int_int n e.Deps.Addr).bind fun y1 =>
 (slices_Clone_int_int n e.Deps.Data).bind fun y2 =>
 (slices_Clone_int_int n e.Deps.Way).bind fun y3 =>
 some (Event.mk e.Hart e.At e.Kind e.Addr e.Load e.Store e.Aq e.Rl e.Pred e.Succ e.Pair (Deps.mk y1 y2 y3))
def cand_All_L1 (n : Nat) (y3 : (List Event)) (sa : (List Event) × Int) : Option (((List Event) × Int) ⊕ ((List Event))) :=
 if (decide (sa.2 < (y3.length : Int))) = true then
  (getI y3 sa.2).bind fun xa2 =>
  (cand_own n xa2).bind fun ya3 =>
  grd (Nat.ble ((sa.1.length + 1) * 152) 140737488355328) <|
  some (.inl ((sa.1 ++ ([ya3] : List Event)), (addW .i64 sa.2 1)))
 else
  some (.inr sa.1)
def cand_All (n : Nat) (c : Cand) : Option (List Event) :=
 (cand_Check n c).bind fun y1 =>
 if (y1 != 0) = true then
  some ([] : List Event)
 else
  (cand_flat_S n c.First c.Harts c.From c.Order).bind fun y3 =>
  (iter (fun s => cand_All_L1 n y3 s) n (([] : List Event), 0)).bind fun t4 =>
  some t4
def kit_Own_Cell (n : Nat) (l : (List Cell)) : Option (List Cell) :=
 grd (Nat.ble (l.length * 16) 140737488355328) <|
 some l
def kit_Own_int_S (n : Nat) (l : (List Int)) : Option Unit :=
 grd (Nat.ble (l.length * 8) 140737488355328) <|
 some ()
def kit_Own_int_S2 (n : Nat) (l : (List Int)) (ob : (List Int)) : Option Unit :=
 grd (Nat.ble (l.length * 8) 140737488355328) <|
 some ()
def kit_Own_int_S3 (n : Nat) (l : (List Int)) (ob : (List Int)) (ob_ : (List Int)) : Option Unit :=
 grd (Nat.ble (l.length * 8) 140737488355328) <|
 some ()
def kit_OwnDeps (n : Nat) (d : Deps) : Option Deps :=
 (kit_Own_int_S n d.Addr).bind fun y1 =>
 (kit_Own_int_S2 n d.Data d.Addr).bind fun y2 =>
 (kit_Own_int_S3 n d.Way d.Addr d.Data).bind fun y3 =>
 some d
def kit_OwnEvent (n : Nat) (e : Event) : Option Event :=
 (kit_OwnDeps n e.Deps).bind fun y1 =>
 some (Event.mk e.Hart e.At e.Kind e.Addr e.Load e.Store e.Aq e.Rl e.Pred e.Succ e.Pair y1)
def kit_OwnEvents_L1 (n : Nat) (l : (List Event)) (sa : (List Event) × Int) : Option (((List Event) × Int) ⊕ ((List Event))) :=
 if (decide (sa.2 < (l.length : Int))) = true then
  (getI l sa.2).bind fun xa2 =>
  (kit_OwnEvent n xa2).bind fun ya3 =>
  grd (Nat.ble ((sa.1.length + 1) * 152) 140737488355328) <|
  some (.inl ((sa.1 ++ ([ya3] : List Event)), (addW .i64 sa.2 1)))
 else
  some (.inr sa.1)
def kit_OwnEvents (n : Nat) (l : (List Event)) : Option (List Event) :=
 (iter (fun s => kit_OwnEvents_L1 n l s) n (([] : List Event), 0)).bind fun t1 =>
 some t1
def kit_OwnCand_S_L1 (n : Nat) (c : Cand) (y1 : (List Cell)) (sa : (List (List Event)) × Int) : Option (((List (List Event)) × Int) ⊕ ((List (List Event)))) :=
 if (decide (sa.2 < (c.Harts.length : Int))) = true then
  (getI c.Harts sa.2).bind fun xa2 =>
  (kit_OwnEvents n xa2).bind fun ya3 =>
  grd (Nat.ble ((sa.1.length + 1) * 24) 140737488355328) <|
  some (.inl ((sa.1 ++ ([ya3] : List (List Event))), (addW .i64 sa.2 1)))
 else
  some (.inr sa.1)
def kit_OwnCand_S (n : Nat) (c : Cand) : Option ((List Cell) × (List Int) × (List Int) × (List (List Event))) :=
 (kit_Own_Cell n c.First).bind fun y1 =>
 (kit_Own_int_S n c.From).bind fun y2 =>
 (kit_Own_int_S2 n c.Order c.From).bind fun y3 =>
 (iter (fun s => kit_OwnCand_S_L1 n c y1 s) n (([] : List (List Event)), 0)).bind fun t4 =>
 some (y1, c.From, c.Order, t4)
def ref_Reads (n : Nat) (e : Event) : Option Bool :=
 if (e.Kind == 1) = true then
  some true
 else
  if (e.Kind == 3) = true then
   some true
  else
   some (e.Kind == 5)
def ref_Writes (n : Nat) (e : Event) : Option Bool :=
 if (e.Kind == 2) = true then
  some true
 else
  if (e.Kind == 4) = true then
   some true
  else
   some (e.Kind == 5)
def kit_Own_int_S4 (n : Nat) (l : (List Int)) (ob : (List Int)) (ob_ : (List Int)) (ob__ : (List (List Event))) : Option Unit :=
 grd (Nat.ble (l.length * 8) 140737488355328) <|
 some ()
def kit_Own_int_S5 (n : Nat) (l : (List Int)) (ob : (List Int)) (ob_ : (List Int)) (ob__ : (List (List Event))) (ob___ : (List Int)) : Option Unit :=
 grd (Nat.ble (l.length * 8) 140737488355328) <|
 some ()
def kit_OwnCand_S2_L1 (n : Nat) (c : Cand) (ob : (List Int)) (ob_ : (List Int)) (ob__ : (List (List Event))) (y1 : (List Cell)) (sa : (List (List Event)) × Int) : Option (((List (List Event)) × Int) ⊕ ((List (List Event)))) :=
 if (decide (sa.2 < (c.Harts.length : Int))) = true then
  (getI c.Harts sa.2).bind fun xa2 =>
  (kit_OwnEvents n xa2).bind fun ya3 =>
  grd (Nat.ble ((sa.1.length + 1) * 24) 140737488355328) <|
  some (.inl ((sa.1 ++ ([ya3] : List (List Event))), (addW .i64 sa.2 1)))
 else
  some (.inr sa.1)
def kit_OwnCand_S2 (n : Nat) (c : Cand) (ob : (List Int)) (ob_ : (List Int)) (ob__ : (List (List Event))) : Option ((List Cell) × (List Int) × (List Int) × (List (List Event))) :=
 (kit_Own_Cell n c.First).bind fun y1 =>
 (kit_Own_int_S4 n c.From ob ob_ ob__).bind fun y2 =>
 (kit_Own_int_S5 n c.Order ob ob_ ob__ c.From).bind fun y3 =>
 (iter (fun s => kit_OwnCand_S2_L1 n c ob ob_ ob__ y1 s) n (([] : List (List Event)), 0)).bind fun t4 =>
 some (y1, c.From, c.Order, t4)
def kit_Own_int_S6 (n : Nat) (l : (List Int)) (ob : (List Int)) (ob_ : (List Int)) (ob__ : (List (List Event))) (ob___ : (List Int)) (ob____ : (List Int)) (ob_____ : (List (List Event))) : Option Unit :=
 grd (Nat.ble (l.length * 8) 140737488355328) <|
 some ()
def kit_Own_int_S7 (n : Nat) (l : (List Int)) (ob : (List Int)) (ob_ : (List Int)) (ob__ : (List (List Event))) (ob___ : (List Int)) (ob____ : (List Int)) (ob_____ : (List (List Event))) (ob______ : (List Int)) : Option Unit :=
 grd (Nat.ble (l.length * 8) 140737488355328) <|
 some ()
def kit_OwnCand_S3_L1 (n : Nat) (c : Cand) (ob : (List Int)) (ob_ : (List Int)) (ob__ : (List (List Event))) (ob___ : (List Int)) (ob____ : (List Int)) (ob_____ : (List (List Event))) (y1 : (List Cell)) (sa : (List (List Event)) × Int) : Option (((List (List Event)) × Int) ⊕ ((List (List Event)))) :=
 if (decide (sa.2 < (c.Harts.length : Int))) = true then
  (getI c.Harts sa.2).bind fun xa2 =>
  (kit_OwnEvents n xa2).bind fun ya3 =>
  grd (Nat.ble ((sa.1.length + 1) * 24) 140737488355328) <|
  some (.inl ((sa.1 ++ ([ya3] : List (List Event))), (addW .i64 sa.2 1)))
 else
  some (.inr sa.1)
def kit_OwnCand_S3 (n : Nat) (c : Cand) (ob : (List Int)) (ob_ : (List Int)) (ob__ : (List (List Event))) (ob___ : (List Int)) (ob____ : (List Int)) (ob_____ : (List (List Event))) : Option ((List Cell) × (List Int) × (List Int) × (List (List Event))) :=
 (kit_Own_Cell n c.First).bind fun y1 =>
 (kit_Own_int_S6 n c.From ob ob_ ob__ ob___ ob____ ob_____).bind fun y2 =>
 (kit_Own_int_S7 n c.Order ob ob_ ob__ ob___ ob____ ob_____ c.From).bind fun y3 =>
 (iter (fun s => kit_OwnCand_S3_L1 n c ob ob_ ob__ ob___ ob____ ob_____ y1 s) n (([] : List (List Event)), 0)).bind fun t4 =>
 some (y1, c.From, c.Order, t4)
def cand_First (n : Nat) (c : Cand) (addr : Int) : Option Int :=
 (cand_Check n c).bind fun y1 =>
 if (y1 != 0) = true then
  some 0
 else
  (cand_found n c.First addr).bind fun y3 =>
  some y3
def law_CandFrom (n : Nat) (c : Cand) (n_ : Int) (from_ : Int) : Option Bool :=
 (law_lives n).bind fun y1 =>
 if (!y1) = true then
  some false
 else
  (kit_LightCand n c 60).bind fun y3 =>
  if (!y3) = true then
   some true
  else
   (cand_Check n c).bind fun y5 =>
   if (y5 != 0) = true then
    some true
   else
    if ((c.From.length : Int) == 0) = true then
     some true
    else
     (kit_Pick n n_ (c.From.length : Int)).bind fun y8 =>
     (kit_Pick n from_ (addW .i64 (c.From.length : Int) 1)).bind fun y9 =>
     (cand_All n c).bind fun y10 =>
     if ((y10.length : Int) != (c.From.length : Int)) = true then
      some false
     else
      (kit_OwnCand_S n c).bind fun y12 =>
      (getI y12.2.1 y8).bind fun x13 =>
      if ((subW .i64 y9 1) == (-1)) = true then
       (getI y10 y8).bind fun x15 =>
       (ref_Reads n x15).bind fun y16 =>
       if (!y16) = true then
        if (decide ((subW .i64 y9 1) ≥ 0)) = true then
         (ref_Reads n x15).bind fun y19 =>
         if y19 = true then
          if ((subW .i64 y9 1) != y8) = true then
           (getI y10 (subW .i64 y9 1)).bind fun x22 =>
           (ref_Writes n x22).bind fun y23 =>
           if y23 = true then
            if (x22.Addr == x15.Addr) = true then
             (cand_Check n (Cand.mk y12.1 y12.2.2.2 (y12.2.1.set (y8).toNat (subW .i64 y9 1)) y12.2.2.1)).bind fun y26 =>
             if (!((y26 == 0) == (x22.Store == x15.Load))) = true then
              some false
             else
              if ((c.Order.length : Int) == 0) = true then
               some true
              else
               (kit_OwnCand_S2 n c (y12.2.1.set (y8).toNat (subW .i64 y9 1)) y12.2.2.1 y12.2.2.2).bind fun y29 =>
               (kit_OwnCand_S3 n c (y12.2.1.set (y8).toNat (subW .i64 y9 1)) y12.2.2.1 y12.2.2.2 y29.2.1 y29.2.2.1 y29.2.2.2).bind fun y30 =>
               grd (decide ((0 : Int) ≤ 1) && decide (1 ≤ (y29.2.2.1.length : Int))) <|
               (getI y30.2.2.1 0).bind fun x32 =>
               grd (Nat.ble ((y30.2.2.1.length + 1) * 8) 140737488355328) <|
               (cand_Check n (Cand.mk y29.1 y29.2.2.2 y29.2.1 ((y29.2.2.1.drop 1).take (y29.2.2.1.length - 1)))).bind fun y34 =>
               if (y34 == 2) = true then
                (cand_Check n (Cand.mk y30.1 y30.2.2.2 y30.2.1 (y30.2.2.1 ++ ([x32] : List Int)))).bind fun y36 =>
                some (y36 == 2)
               else
                some false
            else
             (cand_Check n (Cand.mk y12.1 y12.2.2.2 (y12.2.1.set (y8).toNat (subW .i64 y9 1)) y12.2.2.1)).bind fun y26 =>
             if (!((y26 == 0) == false)) = true then
              some false
             else
              if ((c.Order.length : Int) == 0) = true then
               some true
              else
               (kit_OwnCand_S2 n c (y12.2.1.set (y8).toNat (subW .i64 y9 1)) y12.2.2.1 y12.2.2.2).bind fun y29 =>
               (kit_OwnCand_S3 n c (y12.2.1.set (y8).toNat (subW .i64 y9 1)) y12.2.2.1 y12.2.2.2 y29.2.1 y29.2.2.1 y29.2.2.2).bind fun y30 =>
               grd (decide ((0 : Int) ≤ 1) && decide (1 ≤ (y29.2.2.1.length : Int))) <|
               (getI y30.2.2.1 0).bind fun x32 =>
               grd (Nat.ble ((y30.2.2.1.length + 1) * 8) 140737488355328) <|
               (cand_Check n (Cand.mk y29.1 y29.2.2.2 y29.2.1 ((y29.2.2.1.drop 1).take (y29.2.2.1.length - 1)))).bind fun y34 =>
               if (y34 == 2) = true then
                (cand_Check n (Cand.mk y30.1 y30.2.2.2 y30.2.1 (y30.2.2.1 ++ ([x32] : List Int)))).bind fun y36 =>
                some (y36 == 2)
               else
                some false
           else
            (cand_Check n (Cand.mk y12.1 y12.2.2.2 (y12.2.1.set (y8).toNat (subW .i64 y9 1)) y12.2.2.1)).bind fun y25 =>
            if (!((y25 == 0) == false)) = true then
             some false
            else
             if ((c.Order.length : Int) == 0) = true then
              some true
             else
              (kit_OwnCand_S2 n c (y12.2.1.set (y8).toNat (subW .i64 y9 1)) y12.2.2.1 y12.2.2.2).bind fun y28 =>
              (kit_OwnCand_S3 n c (y12.2.1.set (y8).toNat (subW .i64 y9 1)) y12.2.2.1 y12.2.2.2 y28.2.1 y28.2.2.1 y28.2.2.2).bind fun y29 =>
              grd (decide ((0 : Int) ≤ 1) && decide (1 ≤ (y28.2.2.1.length : Int))) <|
              (getI y29.2.2.1 0).bind fun x31 =>
              grd (Nat.ble ((y29.2.2.1.length + 1) * 8) 140737488355328) <|
              (cand_Check n (Cand.mk y28.1 y28.2.2.2 y28.2.1 ((y28.2.2.1.drop 1).take (y28.2.2.1.length - 1)))).bind fun y33 =>
              if (y33 == 2) = true then
               (cand_Check n (Cand.mk y29.1 y29.2.2.2 y29.2.1 (y29.2.2.1 ++ ([x31] : List Int)))).bind fun y35 =>
               some (y35 == 2)
              else
               some false
          else
           (cand_Check n (Cand.mk y12.1 y12.2.2.2 (y12.2.1.set (y8).toNat (subW .i64 y9 1)) y12.2.2.1)).bind fun y22 =>
           if (!((y22 == 0) == false)) = true then
            some false
           else
            if ((c.Order.length : Int) == 0) = true then
             some true
            else
             (kit_OwnCand_S2 n c (y12.2.1.set (y8).toNat (subW .i64 y9 1)) y12.2.2.1 y12.2.2.2).bind fun y25 =>
             (kit_OwnCand_S3 n c (y12.2.1.set (y8).toNat (subW .i64 y9 1)) y12.2.2.1 y12.2.2.2 y25.2.1 y25.2.2.1 y25.2.2.2).bind fun y26 =>
             grd (decide ((0 : Int) ≤ 1) && decide (1 ≤ (y25.2.2.1.length : Int))) <|
             (getI y26.2.2.1 0).bind fun x28 =>
             grd (Nat.ble ((y26.2.2.1.length + 1) * 8) 140737488355328) <|
             (cand_Check n (Cand.mk y25.1 y25.2.2.2 y25.2.1 ((y25.2.2.1.drop 1).take (y25.2.2.1.length - 1)))).bind fun y30 =>
             if (y30 == 2) = true then
              (cand_Check n (Cand.mk y26.1 y26.2.2.2 y26.2.1 (y26.2.2.1 ++ ([x28] : List Int)))).bind fun y32 =>
              some (y32 == 2)
             else
              some false
         else
          (cand_Check n (Cand.mk y12.1 y12.2.2.2 (y12.2.1.set (y8).toNat (subW .i64 y9 1)) y12.2.2.1)).bind fun y21 =>
          if (!((y21 == 0) == false)) = true then
           some false
          else
           if ((c.Order.length : Int) == 0) = true then
            some true
           else
            (kit_OwnCand_S2 n c (y12.2.1.set (y8).toNat (subW .i64 y9 1)) y12.2.2.1 y12.2.2.2).bind fun y24 =>
            (kit_OwnCand_S3 n c (y12.2.1.set (y8).toNat (subW .i64 y9 1)) y12.2.2.1 y12.2.2.2 y24.2.1 y24.2.2.1 y24.2.2.2).bind fun y25 =>
            grd (decide ((0 : Int) ≤ 1) && decide (1 ≤ (y24.2.2.1.length : Int))) <|
            (getI y25.2.2.1 0).bind fun x27 =>
            grd (Nat.ble ((y25.2.2.1.length + 1) * 8) 140737488355328) <|
            (cand_Check n (Cand.mk y24.1 y24.2.2.2 y24.2.1 ((y24.2.2.1.drop 1).take (y24.2.2.1.length - 1)))).bind fun y29 =>
            if (y29 == 2) = true then
             (cand_Check n (Cand.mk y25.1 y25.2.2.2 y25.2.1 (y25.2.2.1 ++ ([x27] : List Int)))).bind fun y31 =>
             some (y31 == 2)
            else
             some false
        else
         (cand_Check n (Cand.mk y12.1 y12.2.2.2 (y12.2.1.set (y8).toNat (subW .i64 y9 1)) y12.2.2.1)).bind fun y19 =>
         if (!((y19 == 0) == true)) = true then
          some false
         else
          if ((c.Order.length : Int) == 0) = true then
           some true
          else
           (kit_OwnCand_S2 n c (y12.2.1.set (y8).toNat (subW .i64 y9 1)) y12.2.2.1 y12.2.2.2).bind fun y22 =>
           (kit_OwnCand_S3 n c (y12.2.1.set (y8).toNat (subW .i64 y9 1)) y12.2.2.1 y12.2.2.2 y22.2.1 y22.2.2.1 y22.2.2.2).bind fun y23 =>
           grd (decide ((0 : Int) ≤ 1) && decide (1 ≤ (y22.2.2.1.length : Int))) <|
           (getI y23.2.2.1 0).bind fun x25 =>
           grd (Nat.ble ((y23.2.2.1.length + 1) * 8) 140737488355328) <|
           (cand_Check n (Cand.mk y22.1 y22.2.2.2 y22.2.1 ((y22.2.2.1.drop 1).take (y22.2.2.1.length - 1)))).bind fun y27 =>
           if (y27 == 2) = true then
            (cand_Check n (Cand.mk y23.1 y23.2.2.2 y23.2.1 (y23.2.2.1 ++ ([x25] : List Int)))).bind fun y29 =>
            some (y29 == 2)
           else
            some false
       else
        (cand_First n c x15.Addr).bind fun y18 =>
        if (decide ((subW .i64 y9 1) ≥ 0)) = true then
         (ref_Reads n x15).bind fun y20 =>
         if y20 = true then
          if ((subW .i64 y9 1) != y8) = true then
           (getI y10 (subW .i64 y9 1)).bind fun x23 =>
           (ref_Writes n x23).bind fun y24 =>
           if y24 = true then
            if (x23.Addr == x15.Addr) = true then
             (cand_Check n (Cand.mk y12.1 y12.2.2.2 (y12.2.1.set (y8).toNat (subW .i64 y9 1)) y12.2.2.1)).bind fun y27 =>
             if (!((y27 == 0) == (x23.Store == x15.Load))) = true then
              some false
             else
              if ((c.Order.length : Int) == 0) = true then
               some true
              else
               (kit_OwnCand_S2 n c (y12.2.1.set (y8).toNat (subW .i64 y9 1)) y12.2.2.1 y12.2.2.2).bind fun y30 =>
               (kit_OwnCand_S3 n c (y12.2.1.set (y8).toNat (subW .i64 y9 1)) y12.2.2.1 y12.2.2.2 y30.2.1 y30.2.2.1 y30.2.2.2).bind fun y31 =>
               grd (decide ((0 : Int) ≤ 1) && decide (1 ≤ (y30.2.2.1.length : Int))) <|
               (getI y31.2.2.1 0).bind fun x33 =>
               grd (Nat.ble ((y31.2.2.1.length + 1) * 8) 140737488355328) <|
               (cand_Check n (Cand.mk y30.1 y30.2.2.2 y30.2.1 ((y30.2.2.1.drop 1).take (y30.2.2.1.length - 1)))).bind fun y35 =>
               if (y35 == 2) = true then
                (cand_Check n (Cand.mk y31.1 y31.2.2.2 y31.2.1 (y31.2.2.1 ++ ([x33] : List Int)))).bind fun y37 =>
                some (y37 == 2)
               else
                some false
            else
             (cand_Check n (Cand.mk y12.1 y12.2.2.2 (y12.2.1.set (y8).toNat (subW .i64 y9 1)) y12.2.2.1)).bind fun y27 =>
             if (!((y27 == 0) == false)) = true then
              some false
             else
              if ((c.Order.length : Int) == 0) = true then
               some true
              else
               (kit_OwnCand_S2 n c (y12.2.1.set (y8).toNat (subW .i64 y9 1)) y12.2.2.1 y12.2.2.2).bind fun y30 =>
               (kit_OwnCand_S3 n c (y12.2.1.set (y8).toNat (subW .i64 y9 1)) y12.2.2.1 y12.2.2.2 y30.2.1 y30.2.2.1 y30.2.2.2).bind fun y31 =>
               grd (decide ((0 : Int) ≤ 1) && decide (1 ≤ (y30.2.2.1.length : Int))) <|
               (getI y31.2.2.1 0).bind fun x33 =>
               grd (Nat.ble ((y31.2.2.1.length + 1) * 8) 140737488355328) <|
               (cand_Check n (Cand.mk y30.1 y30.2.2.2 y30.2.1 ((y30.2.2.1.drop 1).take (y30.2.2.1.length - 1)))).bind fun y35 =>
               if (y35 == 2) = true then
                (cand_Check n (Cand.mk y31.1 y31.2.2.2 y31.2.1 (y31.2.2.1 ++ ([x33] : List Int)))).bind fun y37 =>
                some (y37 == 2)
               else
                some false
           else
            (cand_Check n (Cand.mk y12.1 y12.2.2.2 (y12.2.1.set (y8).toNat (subW .i64 y9 1)) y12.2.2.1)).bind fun y26 =>
            if (!((y26 == 0) == false)) = true then
             some false
            else
             if ((c.Order.length : Int) == 0) = true then
              some true
             else
              (kit_OwnCand_S2 n c (y12.2.1.set (y8).toNat (subW .i64 y9 1)) y12.2.2.1 y12.2.2.2).bind fun y29 =>
              (kit_OwnCand_S3 n c (y12.2.1.set (y8).toNat (subW .i64 y9 1)) y12.2.2.1 y12.2.2.2 y29.2.1 y29.2.2.1 y29.2.2.2).bind fun y30 =>
              grd (decide ((0 : Int) ≤ 1) && decide (1 ≤ (y29.2.2.1.length : Int))) <|
              (getI y30.2.2.1 0).bind fun x32 =>
              grd (Nat.ble ((y30.2.2.1.length + 1) * 8) 140737488355328) <|
              (cand_Check n (Cand.mk y29.1 y29.2.2.2 y29.2.1 ((y29.2.2.1.drop 1).take (y29.2.2.1.length - 1)))).bind fun y34 =>
              if (y34 == 2) = true then
               (cand_Check n (Cand.mk y30.1 y30.2.2.2 y30.2.1 (y30.2.2.1 ++ ([x32] : List Int)))).bind fun y36 =>
               some (y36 == 2)
              else
               some false
          else
           (cand_Check n (Cand.mk y12.1 y12.2.2.2 (y12.2.1.set (y8).toNat (subW .i64 y9 1)) y12.2.2.1)).bind fun y23 =>
           if (!((y23 == 0) == false)) = true then
            some false
           else
            if ((c.Order.length : Int) == 0) = true then
             some true
            else
             (kit_OwnCand_S2 n c (y12.2.1.set (y8).toNat (subW .i64 y9 1)) y12.2.2.1 y12.2.2.2).bind fun y26 =>
             (kit_OwnCand_S3 n c (y12.2.1.set (y8).toNat (subW .i64 y9 1)) y12.2.2.1 y12.2.2.2 y26.2.1 y26.2.2.1 y26.2.2.2).bind fun y27 =>
             grd (decide ((0 : Int) ≤ 1) && decide (1 ≤ (y26.2.2.1.length : Int))) <|
             (getI y27.2.2.1 0).bind fun x29 =>
             grd (Nat.ble ((y27.2.2.1.length + 1) * 8) 140737488355328) <|
             (cand_Check n (Cand.mk y26.1 y26.2.2.2 y26.2.1 ((y26.2.2.1.drop 1).take (y26.2.2.1.length - 1)))).bind fun y31 =>
             if (y31 == 2) = true then
              (cand_Check n (Cand.mk y27.1 y27.2.2.2 y27.2.1 (y27.2.2.1 ++ ([x29] : List Int)))).bind fun y33 =>
              some (y33 == 2)
             else
              some false
         else
          (cand_Check n (Cand.mk y12.1 y12.2.2.2 (y12.2.1.set (y8).toNat (subW .i64 y9 1)) y12.2.2.1)).bind fun y22 =>
          if (!((y22 == 0) == false)) = true then
           some false
          else
           if ((c.Order.length : Int) == 0) = true then
            some true
           else
            (kit_OwnCand_S2 n c (y12.2.1.set (y8).toNat (subW .i64 y9 1)) y12.2.2.1 y12.2.2.2).bind fun y25 =>
            (kit_OwnCand_S3 n c (y12.2.1.set (y8).toNat (subW .i64 y9 1)) y12.2.2.1 y12.2.2.2 y25.2.1 y25.2.2.1 y25.2.2.2).bind fun y26 =>
            grd (decide ((0 : Int) ≤ 1) && decide (1 ≤ (y25.2.2.1.length : Int))) <|
            (getI y26.2.2.1 0).bind fun x28 =>
            grd (Nat.ble ((y26.2.2.1.length + 1) * 8) 140737488355328) <|
            (cand_Check n (Cand.mk y25.1 y25.2.2.2 y25.2.1 ((y25.2.2.1.drop 1).take (y25.2.2.1.length - 1)))).bind fun y30 =>
            if (y30 == 2) = true then
             (cand_Check n (Cand.mk y26.1 y26.2.2.2 y26.2.1 (y26.2.2.1 ++ ([x28] : List Int)))).bind fun y32 =>
             some (y32 == 2)
            else
             some false
        else
         (cand_Check n (Cand.mk y12.1 y12.2.2.2 (y12.2.1.set (y8).toNat (subW .i64 y9 1)) y12.2.2.1)).bind fun y20 =>
         if (!((y20 == 0) == (x15.Load == y18))) = true then
          some false
         else
          if ((c.Order.length : Int) == 0) = true then
           some true
          else
           (kit_OwnCand_S2 n c (y12.2.1.set (y8).toNat (subW .i64 y9 1)) y12.2.2.1 y12.2.2.2).bind fun y23 =>
           (kit_OwnCand_S3 n c (y12.2.1.set (y8).toNat (subW .i64 y9 1)) y12.2.2.1 y12.2.2.2 y23.2.1 y23.2.2.1 y23.2.2.2).bind fun y24 =>
           grd (decide ((0 : Int) ≤ 1) && decide (1 ≤ (y23.2.2.1.length : Int))) <|
           (getI y24.2.2.1 0).bind fun x26 =>
           grd (Nat.ble ((y24.2.2.1.length + 1) * 8) 140737488355328) <|
           (cand_Check n (Cand.mk y23.1 y23.2.2.2 y23.2.1 ((y23.2.2.1.drop 1).take (y23.2.2.1.length - 1)))).bind fun y28 =>
           if (y28 == 2) = true then
            (cand_Check n (Cand.mk y24.1 y24.2.2.2 y24.2.1 (y24.2.2.1 ++ ([x26] : List Int)))).bind fun y30 =>
            some (y30 == 2)
           else
            some false
      else
       if (decide ((subW .i64 y9 1) ≥ 0)) = true then
        (getI y10 y8).bind fun x16 =>
        (ref_Reads n x16).bind fun y17 =>
        if y17 = true then
         if ((subW .i64 y9 1) != y8) = true then
          (getI y10 (subW .i64 y9 1)).bind fun x20 =>
          (ref_Writes n x20).bind fun y21 =>
          if y21 = true then
           if (x20.Addr == x16.Addr) = true then
            (cand_Check n (Cand.mk y12.1 y12.2.2.2 (y12.2.1.set (y8).toNat (subW .i64 y9 1)) y12.2.2.1)).bind fun y24 =>
            if (!((y24 == 0) == (x20.Store == x16.Load))) = true then
             some false
            else
             if ((c.Order.length : Int) == 0) = true then
              some true
             else
              (kit_OwnCand_S2 n c (y12.2.1.set (y8).toNat (subW .i64 y9 1)) y12.2.2.1 y12.2.2.2).bind fun y27 =>
              (kit_OwnCand_S3 n c (y12.2.1.set (y8).toNat (subW .i64 y9 1)) y12.2.2.1 y12.2.2.2 y27.2.1 y27.2.2.1 y27.2.2.2).bind fun y28 =>
              grd (decide ((0 : Int) ≤ 1) && decide (1 ≤ (y27.2.2.1.length : Int))) <|
              (getI y28.2.2.1 0).bind fun x30 =>
              grd (Nat.ble ((y28.2.2.1.length + 1) * 8) 140737488355328) <|
              (cand_Check n (Cand.mk y27.1 y27.2.2.2 y27.2.1 ((y27.2.2.1.drop 1).take (y27.2.2.1.length - 1)))).bind fun y32 =>
              if (y32 == 2) = true then
               (cand_Check n (Cand.mk y28.1 y28.2.2.2 y28.2.1 (y28.2.2.1 ++ ([x30] : List Int)))).bind fun y34 =>
               some (y34 == 2)
              else
               some false
           else
            (cand_Check n (Cand.mk y12.1 y12.2.2.2 (y12.2.1.set (y8).toNat (subW .i64 y9 1)) y12.2.2.1)).bind fun y24 =>
            if (!((y24 == 0) == false)) = true then
             some false
            else
             if ((c.Order.length : Int) == 0) = true then
              some true
             else
              (kit_OwnCand_S2 n c (y12.2.1.set (y8).toNat (subW .i64 y9 1)) y12.2.2.1 y12.2.2.2).bind fun y27 =>
              (kit_OwnCand_S3 n c (y12.2.1.set (y8).toNat (subW .i64 y9 1)) y12.2.2.1 y12.2.2.2 y27.2.1 y27.2.2.1 y27.2.2.2).bind fun y28 =>
              grd (decide ((0 : Int) ≤ 1) && decide (1 ≤ (y27.2.2.1.length : Int))) <|
              (getI y28.2.2.1 0).bind fun x30 =>
              grd (Nat.ble ((y28.2.2.1.length + 1) * 8) 140737488355328) <|
              (cand_Check n (Cand.mk y27.1 y27.2.2.2 y27.2.1 ((y27.2.2.1.drop 1).take (y27.2.2.1.length - 1)))).bind fun y32 =>
              if (y32 == 2) = true then
               (cand_Check n (Cand.mk y28.1 y28.2.2.2 y28.2.1 (y28.2.2.1 ++ ([x30] : List Int)))).bind fun y34 =>
               some (y34 == 2)
              else
               some false
          else
           (cand_Check n (Cand.mk y12.1 y12.2.2.2 (y12.2.1.set (y8).toNat (subW .i64 y9 1)) y12.2.2.1)).bind fun y23 =>
           if (!((y23 == 0) == false)) = true then
            some false
           else
            if ((c.Order.length : Int) == 0) = true then
             some true
            else
             (kit_OwnCand_S2 n c (y12.2.1.set (y8).toNat (subW .i64 y9 1)) y12.2.2.1 y12.2.2.2).bind fun y26 =>
             (kit_OwnCand_S3 n c (y12.2.1.set (y8).toNat (subW .i64 y9 1)) y12.2.2.1 y12.2.2.2 y26.2.1 y26.2.2.1 y26.2.2.2).bind fun y27 =>
             grd (decide ((0 : Int) ≤ 1) && decide (1 ≤ (y26.2.2.1.length : Int))) <|
             (getI y27.2.2.1 0).bind fun x29 =>
             grd (Nat.ble ((y27.2.2.1.length + 1) * 8) 140737488355328) <|
             (cand_Check n (Cand.mk y26.1 y26.2.2.2 y26.2.1 ((y26.2.2.1.drop 1).take (y26.2.2.1.length - 1)))).bind fun y31 =>
             if (y31 == 2) = true then
              (cand_Check n (Cand.mk y27.1 y27.2.2.2 y27.2.1 (y27.2.2.1 ++ ([x29] : List Int)))).bind fun y33 =>
              some (y33 == 2)
             else
              some false
         else
          (cand_Check n (Cand.mk y12.1 y12.2.2.2 (y12.2.1.set (y8).toNat (subW .i64 y9 1)) y12.2.2.1)).bind fun y20 =>
          if (!((y20 == 0) == false)) = true then
           some false
          else
           if ((c.Order.length : Int) == 0) = true then
            some true
           else
            (kit_OwnCand_S2 n c (y12.2.1.set (y8).toNat (subW .i64 y9 1)) y12.2.2.1 y12.2.2.2).bind fun y23 =>
            (kit_OwnCand_S3 n c (y12.2.1.set (y8).toNat (subW .i64 y9 1)) y12.2.2.1 y12.2.2.2 y23.2.1 y23.2.2.1 y23.2.2.2).bind fun y24 =>
            grd (decide ((0 : Int) ≤ 1) && decide (1 ≤ (y23.2.2.1.length : Int))) <|
            (getI y24.2.2.1 0).bind fun x26 =>
            grd (Nat.ble ((y24.2.2.1.length + 1) * 8) 140737488355328) <|
            (cand_Check n (Cand.mk y23.1 y23.2.2.2 y23.2.1 ((y23.2.2.1.drop 1).take (y23.2.2.1.length - 1)))).bind fun y28 =>
            if (y28 == 2) = true then
             (cand_Check n (Cand.mk y24.1 y24.2.2.2 y24.2.1 (y24.2.2.1 ++ ([x26] : List Int)))).bind fun y30 =>
             some (y30 == 2)
            else
             some false
        else
         (cand_Check n (Cand.mk y12.1 y12.2.2.2 (y12.2.1.set (y8).toNat (subW .i64 y9 1)) y12.2.2.1)).bind fun y19 =>
         if (!((y19 == 0) == false)) = true then
          some false
         else
          if ((c.Order.length : Int) == 0) = true then
           some true
          else
           (kit_OwnCand_S2 n c (y12.2.1.set (y8).toNat (subW .i64 y9 1)) y12.2.2.1 y12.2.2.2).bind fun y22 =>
           (kit_OwnCand_S3 n c (y12.2.1.set (y8).toNat (subW .i64 y9 1)) y12.2.2.1 y12.2.2.2 y22.2.1 y22.2.2.1 y22.2.2.2).bind fun y23 =>
           grd (decide ((0 : Int) ≤ 1) && decide (1 ≤ (y22.2.2.1.length : Int))) <|
           (getI y23.2.2.1 0).bind fun x25 =>
           grd (Nat.ble ((y23.2.2.1.length + 1) * 8) 140737488355328) <|
           (cand_Check n (Cand.mk y22.1 y22.2.2.2 y22.2.1 ((y22.2.2.1.drop 1).take (y22.2.2.1.length - 1)))).bind fun y27 =>
           if (y27 == 2) = true then
            (cand_Check n (Cand.mk y23.1 y23.2.2.2 y23.2.1 (y23.2.2.1 ++ ([x25] : List Int)))).bind fun y29 =>
            some (y29 == 2)
           else
            some false
       else
        (cand_Check n (Cand.mk y12.1 y12.2.2.2 (y12.2.1.set (y8).toNat (subW .i64 y9 1)) y12.2.2.1)).bind fun y16 =>
        if (!((y16 == 0) == false)) = true then
         some false
        else
         if ((c.Order.length : Int) == 0) = true then
          some true
         else
          (kit_OwnCand_S2 n c (y12.2.1.set (y8).toNat (subW .i64 y9 1)) y12.2.2.1 y12.2.2.2).bind fun y19 =>
          (kit_OwnCand_S3 n c (y12.2.1.set (y8).toNat (subW .i64 y9 1)) y12.2.2.1 y12.2.2.2 y19.2.1 y19.2.2.1 y19.2.2.2).bind fun y20 =>
          grd (decide ((0 : Int) ≤ 1) && decide (1 ≤ (y19.2.2.1.length : Int))) <|
          (getI y20.2.2.1 0).bind fun x22 =>
          grd (Nat.ble ((y20.2.2.1.length + 1) * 8) 140737488355328) <|
          (cand_Check n (Cand.mk y19.1 y19.2.2.2 y19.2.1 ((y19.2.2.1.drop 1).take (y19.2.2.1.length - 1)))).bind fun y24 =>
          if (y24 == 2) = true then
           (cand_Check n (Cand.mk y20.1 y20.2.2.2 y20.2.1 (y20.2.2.1 ++ ([x22] : List Int)))).bind fun y26 =>
           some (y26 == 2)
          else
           some false

end Go.Proofs.Ytcckeabholabcaa
