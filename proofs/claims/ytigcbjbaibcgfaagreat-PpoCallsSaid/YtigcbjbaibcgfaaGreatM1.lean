/- What the functions compute, as functions on lists and numbers. Printed by a program from the code; nothing is claimed here. -/
import Derived.Test.YtigcbjbaibcgfaaGreatM0
namespace Go.Proofs.YtigcbjbaibcgfaaGreat
open Go A
set_option linter.unusedVariables false

structure Arr2 (α : Type) where
  mk ::
  e0 : α
  e1 : α
structure Arr4 (α : Type) where
  mk ::
  e0 : α
  e1 : α
  e2 : α
  e3 : α
structure Arr13 (α : Type) where
  mk ::
  e0 : α
  e1 : α
  e2 : α
  e3 : α
  e4 : α
  e5 : α
  e6 : α
  e7 : α
  e8 : α
  e9 : α
  e10 : α
  e11 : α
  e12 : α
structure Cell where
  mk ::
  Addr : Int
  Value : Int
structure Deps where
  mk ::
  Addr : (List Int)
  Data : (List Int)
  Way : (List Int)
structure Event where
  mk ::
  Hart : Int
  At : Int
  Kind : Int
  Addr : Int
  Load : Int
  Store : Int
  Aq : Bool
  Rl : Bool
  Pred : Int
  Succ : Int
  Pair : Int
  Deps : Deps
structure Cand where
  mk ::
  First : (List Cell)
  Harts : (List (List Event))
  From : (List Int)
  Order : (List Int)
structure ppo_view where
  mk ::
  c : (Option Cand)
  all : (List Event)
  fences : (Arr4 (List Int))
  hung : (List Int)
structure event_rest where
  mk ::
  hart : Int
  at_ : Int
  kind : Int
  pred : Int
  succ : Int
  pair : Int
  addr : Int
  load : Int
  store : Int
  aq : Bool
  rl : Bool
structure fencepostref10_View where
  mk ::
  C_ : Cand
  All : (List Event)
def arr36_beq (x y : (Arr2 Int)) : Bool := ((x.e0 == y.e0) && ((x.e1 == y.e1) && true))
theorem arr36_beq_eq {x y : (Arr2 Int)} (h : arr36_beq x y = true) : x = y := by
  obtain ⟨a0, a1⟩ := x
  obtain ⟨b0, b1⟩ := y
  unfold arr36_beq at h
  simp only [Bool.and_eq_true, beq_iff_eq, toList_iff] at h
  simp_all
def event_rest.beq (x y : event_rest) : Bool := ((x.hart == y.hart) && ((x.at_ == y.at_) && ((x.kind == y.kind) && ((x.pred == y.pred) && ((x.succ == y.succ) && ((x.pair == y.pair) && ((x.addr == y.addr) && ((x.load == y.load) && ((x.store == y.store) && ((x.aq == y.aq) && (x.rl == y.rl)))))))))))
theorem event_rest.beq_eq {x y : event_rest} (h : event_rest.beq x y = true) : x = y := by
  obtain ⟨a1, a2, a3, a4, a5, a6, a7, a8, a9, a10, a11⟩ := x
  obtain ⟨b12, b13, b14, b15, b16, b17, b18, b19, b20, b21, b22⟩ := y
  unfold event_rest.beq at h
  simp only [Bool.and_eq_true, beq_iff_eq, toList_iff] at h
  simp_all
theorem event_rest.beq_refl (x : event_rest) : event_rest.beq x x = true := by
  unfold event_rest.beq
  simp
def Cell.wf (x : Cell) : Prop := (inR .u64 x.Addr) ∧ (inR .u64 x.Value)
def Deps.wf (x : Deps) : Prop := (x.Addr.length ≤ maxLen ∧ ∀ z ∈ x.Addr, inR .i64 z) ∧ (x.Data.length ≤ maxLen ∧ ∀ z ∈ x.Data, inR .i64 z) ∧ (x.Way.length ≤ maxLen ∧ ∀ z ∈ x.Way, inR .i64 z)
def Event.wf (x : Event) : Prop := (inR .i64 x.Hart) ∧ (inR .i64 x.At) ∧ (inR .i64 x.Kind) ∧ (inR .u64 x.Addr) ∧ (inR .u64 x.Load) ∧ (inR .u64 x.Store) ∧ (True) ∧ (True) ∧ (inR .i64 x.Pred) ∧ (inR .i64 x.Succ) ∧ (inR .i64 x.Pair) ∧ (Deps.wf x.Deps)
def Cand.wf (x : Cand) : Prop := (x.First.length ≤ maxLen ∧ ∀ z ∈ x.First, Cell.wf z) ∧ (x.Harts.length ≤ maxLen ∧ ∀ z ∈ x.Harts, z.length ≤ maxLen ∧ ∀ zz ∈ z, Event.wf zz) ∧ (x.From.length ≤ maxLen ∧ ∀ z ∈ x.From, inR .i64 z) ∧ (x.Order.length ≤ maxLen ∧ ∀ z ∈ x.Order, inR .i64 z)
def law_example_L1 (n : Nat) (between : (List Event)) (sa : (List Int) × Int) : Option (((List Int) × Int) ⊕ ((List Int))) :=
 if (decide (sa.2 < (((([(Event.mk 0 0 2 8 0 0 false false 0 0 0 (Deps.mk ([] : List Int) ([] : List Int) ([] : List Int)))] : List Event) ++ between) ++ ([(Event.mk 0 ((([(Event.mk 0 0 2 8 0 0 false false 0 0 0 (Deps.mk ([] : List Int) ([] : List Int) ([] : List Int)))] : List Event) ++ between).length : Int) 1 16 0 0 false false 0 0 0 (Deps.mk ([] : List Int) ([] : List Int) ([] : List Int)))] : List Event)).length : Int))) = true then
  grd (Nat.ble ((sa.1.length + 1) * 8) 140737488355328) <|
  some (.inl ((sa.1 ++ ([(-1)] : List Int)), (addW .i64 sa.2 1)))
 else
  some (.inr sa.1)
def law_example (n : Nat) (between : (List Event)) : Option Cand :=
 grd (Nat.ble ((1 + between.length) * 152) 140737488355328) <|
 grd (Nat.ble (((([(Event.mk 0 0 2 8 0 0 false false 0 0 0 (Deps.mk ([] : List Int) ([] : List Int) ([] : List Int)))] : List Event) ++ between).length + 1) * 152) 140737488355328) <|
 (iter (fun s => law_example_L1 n between s) n (([] : List Int), 0)).bind fun t3 =>
 some (Cand.mk ([] : List Cell) ([((([(Event.mk 0 0 2 8 0 0 false false 0 0 0 (Deps.mk ([] : List Int) ([] : List Int) ([] : List Int)))] : List Event) ++ between) ++ ([(Event.mk 0 ((([(Event.mk 0 0 2 8 0 0 false false 0 0 0 (Deps.mk ([] : List Int) ([] : List Int) ([] : List Int)))] : List Event) ++ between).length : Int) 1 16 0 0 false false 0 0 0 (Deps.mk ([] : List Int) ([] : List Int) ([] : List Int)))] : List Event))] : List (List Event)) t3 ([0, (subW .i64 (((([(Event.mk 0 0 2 8 0 0 false false 0 0 0 (Deps.mk ([] : List Int) ([] : List Int) ([] : List Int)))] : List Event) ++ between) ++ ([(Event.mk 0 ((([(Event.mk 0 0 2 8 0 0 false false 0 0 0 (Deps.mk ([] : List Int) ([] : List Int) ([] : List Int)))] : List Event) ++ between).length : Int) 1 16 0 0 false false 0 0 0 (Deps.mk ([] : List Int) ([] : List Int) ([] : List Int)))] : List Event)).length : Int) 1)] : List Int))
def cand_cells_L1 (n : Nat) (l : (List Cell)) (sa : Int) : Option (Int ⊕ (Unit ⊕ Unit)) :=
 if (decide (sa < (l.length : Int))) = true then
  (getI l sa).bind fun xa2 =>
  if ((remW .u64 xa2.Addr 8) != 0) = true then
   some (.inr (.inr ()))
  else
   if (decide (sa > 0)) = true then
    (getI l (subW .i64 sa 1)).bind fun xa5 =>
    if (decide (xa5.Addr ≥ xa2.Addr)) = true then
     some (.inr (.inr ()))
    else
     some (.inl (addW .i64 sa 1))
   else
    some (.inl (addW .i64 sa 1))
 else
  some (.inr (.inl ()))
def cand_cells (n : Nat) (l : (List Cell)) : Option Bool :=
 (iter (fun s => cand_cells_L1 n l s) n 0).bind fun t1 =>
 match t1 with
 | .inl w2 =>
  some true
 | .inr w2 =>
  some false
def event_has (n : Nat) (kind : Int) : Option Int :=
 if (decide (kind < 1)) = true then
  some 0
 else
  if (decide (kind > 6)) = true then
   some 0
  else
   if (kind == 0) = true then
    some 0
   else
    if (kind == 1) = true then
     some 1
    else
     if (kind == 2) = true then
      some 2
     else
      if (kind == 3) = true then
       some 5
      else
       if (kind == 4) = true then
        some 14
       else
        if (kind == 5) = true then
         some 7
        else
         if (kind == 6) = true then
          some 16
         else
          none
def slices_Equal_int_int_L1 (n : Nat) (s1_ : (List Int)) (s2_ : (List Int)) (sa : Int) : Option (Int ⊕ (Unit ⊕ Unit)) :=
 if (decide (sa < (s1_.length : Int))) = true then
  (getI s1_ sa).bind fun xa2 =>
  (getI s2_ sa).bind fun xa3 =>
  if (xa2 != xa3) = true then
   some (.inr (.inr ()))
  else
   some (.inl (addW .i64 sa 1))
 else
  some (.inr (.inl ()))
def slices_Equal_int_int (n : Nat) (s1_ : (List Int)) (s2_ : (List Int)) : Option Bool :=
 if ((s1_.length : Int) != (s2_.length : Int)) = true then
  some false
 else
  (iter (fun s => slices_Equal_int_int_L1 n s1_ s2_ s) n 0).bind fun t2 =>
  match t2 with
  | .inl w3 =>
   some true
  | .inr w3 =>
   some false
def event_Same_1 (n : Nat) (e : Event) : Option event_rest :=
 some (event_rest.mk e.Hart e.At e.Kind e.Pred e.Succ e.Pair e.Addr e.Load e.Store e.Aq e.Rl)
def event_Same (n : Nat) (a : Event) (b : Event) : Option Bool :=
 (slices_Equal_int_int n a.Deps.Addr b.Deps.Addr).bind fun y1 =>
 if (!y1) = true then
  some false
 else
  (slices_Equal_int_int n a.Deps.Data b.Deps.Data).bind fun y3 =>
  if (!y3) = true then
   some false
  else
   (slices_Equal_int_int n a.Deps.Way b.Deps.Way).bind fun y5 =>
   if (!y5) = true then
    some false
   else
    (event_Same_1 n a).bind fun y7 =>
    (event_Same_1 n b).bind fun y8 =>
    if (event_rest.beq y7 y8) = true then
     some true
    else
     some false
def taint_Rising_L1 (n : Nat) (l : (List Int)) (sa : Int × Int) : Option ((Int × Int) ⊕ (Unit ⊕ Unit)) :=
 if (decide (sa.2 < (l.length : Int))) = true then
  (getI l sa.2).bind fun xa2 =>
  if (decide (xa2 ≤ sa.1)) = true then
   some (.inr (.inr ()))
  else
   some (.inl (xa2, (addW .i64 sa.2 1)))
 else
  some (.inr (.inl ()))
def taint_Rising (n : Nat) (l : (List Int)) : Option Bool :=
 (iter (fun s => taint_Rising_L1 n l s) n ((-1), 0)).bind fun t1 =>
 match t1 with
 | .inl w2 =>
  some true
 | .inr w2 =>
  some false
def event_below (n : Nat) (l : (List Int)) (at_ : Int) : Option Bool :=
 (taint_Rising n l).bind fun y1 =>
 if y1 = true then
  if ((l.length : Int) == 0) = true then
   some true
  else
   (getI l (subW .i64 (l.length : Int) 1)).bind fun x4 =>
   some (decide (x4 < at_))
 else
  some false
def event_Check_C5 (n : Nat) (e : Event) (y1 : Int) (sf : Int × (List Int) × (List Int) × (List Int) × Int × Int × Int × Bool × Bool × Int × Int) : Option Int :=
 if (y1 == 0) = true then
  some 2
 else
  if (decide (e.Hart < 0)) = true then
   some 2
  else
   if (decide (e.Hart ≥ 8)) = true then
    some 2
   else
    if (decide (e.At < 0)) = true then
     some 2
    else
     (event_Same n (Event.mk e.Hart e.At e.Kind sf.2.2.2.2.1 sf.2.2.2.2.2.1 sf.2.2.2.2.2.2.1 sf.2.2.2.2.2.2.2.1 sf.2.2.2.2.2.2.2.2.1 sf.2.2.2.2.2.2.2.2.2.1 sf.2.2.2.2.2.2.2.2.2.2 sf.1 (Deps.mk sf.2.1 sf.2.2.1 sf.2.2.2.1)) e).bind fun yf5 =>
     if (!yf5) = true then
      some 2
     else
      if ((remW .u64 e.Addr 8) != 0) = true then
       some 2
      else
       if (decide (e.Pred < 0)) = true then
        some 2
       else
        if (decide (e.Pred > 15)) = true then
         some 2
        else
         if (decide (e.Succ < 0)) = true then
          some 2
         else
          if (decide (e.Succ > 15)) = true then
           some 2
          else
           if ((andW .u64 y1 8) != 0) = true then
            if (decide (e.Pair < 0)) = true then
             some 2
            else
             if (decide (e.Pair ≥ e.At)) = true then
              some 2
             else
              (event_below n e.Deps.Addr e.At).bind fun yf15 =>
              if (!yf15) = true then
               some 2
              else
               (event_below n e.Deps.Data e.At).bind fun yf17 =>
               if (!yf17) = true then
                some 2
               else
                (event_below n e.Deps.Way e.At).bind fun yf19 =>
                if (!yf19) = true then
                 some 2
                else
                 some 0
           else
            (event_below n e.Deps.Addr e.At).bind fun yf13 =>
            if (!yf13) = true then
             some 2
            else
             (event_below n e.Deps.Data e.At).bind fun yf15 =>
             if (!yf15) = true then
              some 2
             else
              (event_below n e.Deps.Way e.At).bind fun yf17 =>
              if (!yf17) = true then
               some 2
              else
               some 0
def event_Check_C4 (n : Nat) (e : Event) (y1 : Int) (se : (List Int) × (List Int) × (List Int) × Int × Int × Int × Bool × Bool × Int × Int) : Option Int :=
 if ((andW .u64 y1 8) != 0) = true then
  (event_Check_C5 n e y1 (e.Pair, se.1, se.2.1, se.2.2.1, se.2.2.2.1, se.2.2.2.2.1, se.2.2.2.2.2.1, se.2.2.2.2.2.2.1, se.2.2.2.2.2.2.2.1, se.2.2.2.2.2.2.2.2.1, se.2.2.2.2.2.2.2.2.2)).bind fun te2 =>
  some te2
 else
  (event_Check_C5 n e y1 (0, se.1, se.2.1, se.2.2.1, se.2.2.2.1, se.2.2.2.2.1, se.2.2.2.2.2.1, se.2.2.2.2.2.2.1, se.2.2.2.2.2.2.2.1, se.2.2.2.2.2.2.2.2.1, se.2.2.2.2.2.2.2.2.2)).bind fun te2 =>
  some te2
def event_Check_C3 (n : Nat) (e : Event) (y1 : Int) (sd : (List Int) × (List Int) × (List Int) × Int × Int × Int × Int × Int) : Option Int :=
 if ((andW .u64 y1 4) != 0) = true then
  (event_Check_C4 n e y1 (sd.1, sd.2.1, sd.2.2.1, sd.2.2.2.1, sd.2.2.2.2.1, sd.2.2.2.2.2.1, e.Aq, e.Rl, sd.2.2.2.2.2.2.1, sd.2.2.2.2.2.2.2)).bind fun td2 =>
  some td2
 else
  (event_Check_C4 n e y1 (sd.1, sd.2.1, sd.2.2.1, sd.2.2.2.1, sd.2.2.2.2.1, sd.2.2.2.2.2.1, false, false, sd.2.2.2.2.2.2.1, sd.2.2.2.2.2.2.2)).bind fun td2 =>
  some td2
def event_Check_C2 (n : Nat) (e : Event) (y1 : Int) (sb : (List Int) × (List Int) × Int × Int × Int × Int) : Option Int :=
 if ((andW .u64 y1 2) != 0) = true then
  (event_Check_C3 n e y1 (sb.1, e.Deps.Data, sb.2.1, sb.2.2.1, sb.2.2.2.1, e.Store, sb.2.2.2.2.1, sb.2.2.2.2.2)).bind fun tb2 =>
  some tb2
 else
  (event_Check_C3 n e y1 (sb.1, ([] : List Int), sb.2.1, sb.2.2.1, sb.2.2.2.1, 0, sb.2.2.2.2.1, sb.2.2.2.2.2)).bind fun tb2 =>
  some tb2
def event_Check_C1 (n : Nat) (e : Event) (y1 : Int) (sa : (List Int) × (List Int) × Int × Int × Int) : Option Int :=
 if ((andW .u64 y1 1) != 0) = true then
  (event_Check_C2 n e y1 (sa.1, sa.2.1, sa.2.2.1, e.Load, sa.2.2.2.1, sa.2.2.2.2)).bind fun ta2 =>
  some ta2
 else
  (event_Check_C2 n e y1 (sa.1, sa.2.1, sa.2.2.1, 0, sa.2.2.2.1, sa.2.2.2.2)).bind fun ta2 =>
  some ta2
def event_Check (n : Nat) (e : Event) : Option Int :=
 (event_has n e.Kind).bind fun y1 =>
 if ((andW .u64 y1 16) != 0) = true then
  (event_Check_C1 n e y1 (([] : List Int), ([] : List Int), 0, e.Pred, e.Succ)).bind fun t3 =>
  some t3
 else
  (event_Check_C1 n e y1 (e.Deps.Addr, e.Deps.Way, e.Addr, 0, 0)).bind fun t3 =>
  some t3
def event_Row_L1 (n : Nat) (hart : Int) (l : (List Event)) (sa : Int × Int) : Option ((Int × Int) ⊕ (Unit ⊕ Unit)) :=
 if (decide (sa.1 < (l.length : Int))) = true then
  (getI l sa.1).bind fun xa2 =>
  (event_Check n xa2).bind fun ya3 =>
  if (ya3 != 0) = true then
   some (.inr (.inr ()))
  else
   if (xa2.Hart != hart) = true then
    some (.inr (.inr ()))
   else
    if (xa2.At != sa.1) = true then
     some (.inr (.inr ()))
    else
     if (xa2.Kind == 3) = true then
      some (.inl ((addW .i64 sa.1 1), sa.1))
     else
      if (xa2.Kind == 4) = true then
       if (xa2.Pair != sa.2) = true then
        some (.inr (.inr ()))
       else
        (getI l sa.2).bind fun xa10 =>
        if (xa10.Addr != xa2.Addr) = true then
         some (.inr (.inr ()))
        else
         some (.inl ((addW .i64 sa.1 1), (-1)))
      else
       some (.inl ((addW .i64 sa.1 1), sa.2))
 else
  some (.inr (.inl ()))
def event_Row (n : Nat) (hart : Int) (l : (List Event)) : Option Int :=
 (iter (fun s => event_Row_L1 n hart l s) n (0, (-1))).bind fun t1 =>
 match t1 with
 | .inl w2 =>
  some 0
 | .inr w2 =>
  some 4
def slices_Grow_api_Event_api_Event_S (n : Nat) (n_ : Int) : Option ((Nat × Nat × Nat × (List Event)) ⊕ Unit) :=
 if (decide (n_ < 0)) = true then
  none
 else
  if (decide ((subW .i64 n_ 0) > 0)) = true then
   grd (Nat.blt 0 14 && Nat.blt 0 152 && decide (0 < (subW .i64 n_ 0)) && decide ((subW .i64 n_ 0) * 152 ≤ 140737488355328) && decide ((subW .i64 n_ 0) ≤ 140737488355328)) <|
   grd (decide (0 ≤ 0) && decide (0 ≤ (((subW .i64 n_ 0)).toNat : Int))) <|
   some (.inl (0, 0, ((subW .i64 n_ 0)).toNat, (List.replicate ((subW .i64 n_ 0)).toNat (Event.mk 0 0 0 0 0 0 false false 0 0 0 (Deps.mk ([] : List Int) ([] : List Int) ([] : List Int))))))
  else
   some (.inr ())
def slices_Concat_api_Event_api_Event_L1 (n : Nat) (slices : (List (List Event))) (sa : Int × Int) : Option ((Int × Int) ⊕ Int) :=
 if (decide (sa.1 < (slices.length : Int))) = true then
  (getI slices sa.1).bind fun xa2 =>
  if (decide ((addW .i64 sa.2 (xa2.length : Int)) < 0)) = true then
   none
  else
   some (.inl ((addW .i64 sa.1 1), (addW .i64 sa.2 (xa2.length : Int))))
 else
  some (.inr sa.2)
def slices_Concat_api_Event_api_Event_L2 (n : Nat) (slices : (List (List Event))) (wa3 : Nat × Nat × Nat × (List Event)) (sa : Nat × Nat × (List Event) × Int) : Option ((Nat × Nat × (List Event) × Int) ⊕ (Nat × Nat × (List Event))) :=
 if (decide (sa.2.2.2 < (slices.length : Int))) = true then
  (getI slices sa.2.2.2).bind fun xa2 =>
  grd (Nat.ble xa2.length sa.2.1) <|
  grd (Nat.ble (wa3.1 + sa.1 + sa.2.1) sa.2.2.1.length) <|
  some (.inl ((sa.1 + xa2.length), (sa.2.1 - xa2.length), (sa.2.2.1.take (wa3.1 + sa.1) ++ (xa2 ++ sa.2.2.1.drop (wa3.1 + sa.1 + xa2.length))), (addW .i64 sa.2.2.2 1)))
 else
  some (.inr (sa.1, sa.2.1, sa.2.2.1))
def slices_Concat_api_Event_api_Event_L3 (n : Nat) (slices : (List (List Event))) (sa : (List Event) × Int) : Option (((List Event) × Int) ⊕ ((List Event))) :=
 if (decide (sa.2 < (slices.length : Int))) = true then
  (getI slices sa.2).bind fun xa2 =>
  grd (Nat.ble ((sa.1.length + xa2.length) * 152) 140737488355328) <|
  some (.inl ((sa.1 ++ xa2), (addW .i64 sa.2 1)))
 else
  some (.inr sa.1)
def slices_Concat_api_Event_api_Event (n : Nat) (slices : (List (List Event))) : Option (List Event) :=
 (iter (fun s => slices_Concat_api_Event_api_Event_L1 n slices s) n (0, 0)).bind fun t1 =>
 (slices_Grow_api_Event_api_Event_S n t1).bind fun y2 =>
 match y2 with
 | .inl wa3 =>
  (iter (fun s => slices_Concat_api_Event_api_Event_L2 n slices wa3 s) n (wa3.2.1, wa3.2.2.1, wa3.2.2.2, 0)).bind fun t4 =>
  some ((t4.2.2.drop wa3.1).take t4.1)
 | .inr wb3 =>
  (iter (fun s => slices_Concat_api_Event_api_Event_L3 n slices s) n (([] : List Event), 0)).bind fun t4 =>
  some t4
def cand_flat_S (n : Nat) (ob : (List Cell)) (ob_ : (List (List Event))) (ob__ : (List Int)) (ob___ : (List Int)) : Option (List Event) :=
 (slices_Concat_api_Event_api_Event n ob_).bind fun y1 =>
 some y1
def event_Reads (n : Nat) (e : Event) : Option Bool :=
 (event_has n e.Kind).bind fun y1 =>
 some ((andW .u64 y1 1) != 0)
def cmp_isNaN_uint64 (n : Nat) (x : Int) : Option Bool :=
 some (x != x)
def cmp_Compare_uint64 (n : Nat) (x : Int) (y : Int) : Option Int :=
 (cmp_isNaN_uint64 n x).bind fun y1 =>
 (cmp_isNaN_uint64 n y).bind fun y2 =>
 if y1 = true then
  if y2 = true then
   some 0
  else
   some (-1)
 else
  if y2 = true then
   some 1
  else
   if (decide (x < y)) = true then
    some (-1)
   else
    if (decide (x > y)) = true then
     some 1
    else
     some 0
def cand_found_1 (n : Nat) (x : Cell) (a : Int) : Option Int :=
 (cmp_Compare_uint64 n x.Addr a).bind fun y1 =>
 some y1
def slices_BinarySearchFunc_api_Cell_api_Cell_uint64_L1 (n : Nat) (x : (List Cell)) (target : Int) (sa : Int × Int) : Option ((Int × Int) ⊕ Int) :=
 if (decide (sa.2 < sa.1)) = true then
  (getI x (IntKind.wrap .i64 (shrW .u64 (IntKind.wrap .u64 (addW .i64 sa.2 sa.1)) 1))).bind fun xa2 =>
  (cand_found_1 n xa2 target).bind fun ya3 =>
  if (decide (ya3 < 0)) = true then
   some (.inl (sa.1, (addW .i64 (IntKind.wrap .i64 (shrW .u64 (IntKind.wrap .u64 (addW .i64 sa.2 sa.1)) 1)) 1)))
  else
   some (.inl ((IntKind.wrap .i64 (shrW .u64 (IntKind.wrap .u64 (addW .i64 sa.2 sa.1)) 1)), sa.2))
 else
  some (.inr sa.2)
def slices_BinarySearchFunc_api_Cell_api_Cell_uint64 (n : Nat) (x : (List Cell)) (target : Int) : Option (Int × Bool) :=
 (iter (fun s => slices_BinarySearchFunc_api_Cell_api_Cell_uint64_L1 n x target s) n ((x.length : Int), 0)).bind fun t1 =>
 if (decide (t1 < (x.length : Int))) = true then
  (getI x t1).bind fun x3 =>
  (cand_found_1 n x3 target).bind fun y4 =>
  some (t1, (y4 == 0))
 else
  some (t1, false)
def cand_found (n : Nat) (l : (List Cell)) (addr : Int) : Option Int :=
 (slices_BinarySearchFunc_api_Cell_api_Cell_uint64 n l addr).bind fun y1 =>
 if (!y1.2) = true then
  some 0
 else
  (getI l y1.1).bind fun x3 =>
  some x3.Value
def event_Writes (n : Nat) (e : Event) : Option Bool :=
 (event_has n e.Kind).bind fun y1 =>
 some ((andW .u64 y1 2) != 0)
def cand_from (n : Nat) (c : Cand) (all : (List Event)) (n_ : Int) : Option Bool :=
 (getI all n_).bind fun x1 =>
 (getI c.From n_).bind fun x2 =>
 (event_Reads n x1).bind fun y3 =>
 if (!y3) = true then
  some (x2 == (-1))
 else
  if (x2 == (-1)) = true then
   (cand_found n c.First x1.Addr).bind fun y6 =>
   some (x1.Load == y6)
  else
   if (decide (x2 < 0)) = true then
    some false
   else
    if (decide (x2 ≥ (all.length : Int))) = true then
     some false
    else
     if (x2 == n_) = true then
      some false
     else
      (getI all x2).bind fun x9 =>
      (event_Writes n x9).bind fun y10 =>
      if y10 = true then
       if (x9.Addr == x1.Addr) = true then
        some (x9.Store == x1.Load)
       else
        some false
      else
       some false
def event_Memory (n : Nat) (e : Event) : Option Bool :=
 (event_Reads n e).bind fun y1 =>
 if y1 = true then
  some true
 else
  (event_Writes n e).bind fun y3 =>
  some y3
def cand_ordered_L1 (n : Nat) (c : Cand) (all : (List Event)) (sa : (List Bool) × Int × Int) : Option (((List Bool) × Int × Int) ⊕ ((List Bool) × Int)) :=
 if (decide (sa.2.1 < (all.length : Int))) = true then
  (getI all sa.2.1).bind fun xa2 =>
  (event_Memory n xa2).bind fun ya3 =>
  if ya3 = true then
   (getI sa.1 sa.2.1).bind fun xa5 =>
   some (.inl ((sa.1.set (sa.2.1).toNat true), (addW .i64 sa.2.1 1), (addW .i64 sa.2.2 1)))
  else
   some (.inl (sa.1, (addW .i64 sa.2.1 1), sa.2.2))
 else
  some (.inr (sa.1, sa.2.2))
def cand_ordered_L2 (n : Nat) (c : Cand) (sa : (List Bool) × Int × Int) : Option (((List Bool) × Int × Int) ⊕ (Int ⊕ Unit)) :=
 if (decide (sa.2.1 < (c.Order.length : Int))) = true then
  (getI c.Order sa.2.1).bind fun xa2 =>
  if (decide (xa2 < 0)) = true then
   some (.inr (.inr ()))
  else
   if (decide (xa2 ≥ (sa.1.length : Int))) = true then
    some (.inr (.inr ()))
   else
    (getI sa.1 xa2).bind fun xa5 =>
    if (!xa5) = true then
     some (.inr (.inr ()))
    else
     some (.inl ((sa.1.set (xa2).toNat false), (addW .i64 sa.2.1 1), (subW .i64 sa.2.2 1)))
 else
  some (.inr (.inl sa.2.2))
def cand_ordered (n : Nat) (c : Cand) (all : (List Event)) : Option Bool :=
 grd (decide (0 ≤ (all.length : Int)) && decide ((all.length : Int) ≤ (all.length : Int)) && decide (1 * (all.length : Int) ≤ 140737488355328) && decide ((all.length : Int) ≤ 140737488355328) && Nat.blt 0 1) <|
 (iter (fun s => cand_ordered_L1 n c all s) n ((List.replicate ((all.length : Int)).toNat false), 0, 0)).bind fun t2 =>
 (iter (fun s => cand_ordered_L2 n c s) n (t2.1, 0, t2.2)).bind fun t3 =>
 match t3 with
 | .inl w4 =>
  some (w4 == 0)
 | .inr w4 =>
  some false
def cand_Check_L1 (n : Nat) (c : Cand) (sa : Int × Int) : Option ((Int × Int) ⊕ (Int ⊕ Unit)) :=
 if (decide (sa.1 < (c.Harts.length : Int))) = true then
  (getI c.Harts sa.1).bind fun xa2 =>
  if (decide ((addW .i64 sa.2 (xa2.length : Int)) > 4096)) = true then
   some (.inr (.inr ()))
  else
   (event_Row n sa.1 xa2).bind fun ya4 =>
   if (ya4 != 0) = true then
    some (.inr (.inr ()))
   else
    some (.inl ((addW .i64 sa.1 1), (addW .i64 sa.2 (xa2.length : Int))))
 else
  some (.inr (.inl sa.2))
def cand_Check_L2 (n : Nat) (c : Cand) (y7 : (List Event)) (sa : Int) : Option (Int ⊕ (Unit ⊕ Unit)) :=
 if (decide (sa < (y7.length : Int))) = true then
  (cand_from n c y7 sa).bind fun ya2 =>
  if (!ya2) = true then
   some (.inr (.inr ()))
  else
   some (.inl (addW .i64 sa 1))
 else
  some (.inr (.inl ()))
def cand_Check (n : Nat) (c : Cand) : Option Int :=
 (cand_cells n c.First).bind fun y1 =>
 if (!y1) = true then
  some 2
 else
  if (decide ((c.Harts.length : Int) < 1)) = true then
   some 2
  else
   if (decide ((c.Harts.length : Int) > 8)) = true then
    some 2
   else
    (iter (fun s => cand_Check_L1 n c s) n (0, 0)).bind fun t5 =>
    match t5 with
    | .inl w6 =>
     (cand_flat_S n c.First c.Harts c.From c.Order).bind fun y7 =>
     if ((c.From.length : Int) != w6) = true then
      some 2
     else
      (iter (fun s => cand_Check_L2 n c y7 s) n 0).bind fun t9 =>
      match t9 with
      | .inl w10 =>
       (cand_ordered n c y7).bind fun y11 =>
       if (!y11) = true then
        some 2
       else
        some 0
      | .inr w10 =>
       some 2
    | .inr w6 =>
     some 2
def math_bits_Mul64 (n : Nat) (x : Int) (y : Int) : Option (Int × Int) :=
 some ((addW .u64 (addW .u64 (mulW .u64 (shrW .u64 x 32) (shrW .u64 y 32)) (shrW .u64 (addW .u64 (mulW .u64 (shrW .u64 x 32) (andW .u64 y 4294967295)) (shrW .u64 (mulW .u64 (andW .u64 x 4294967295) (andW .u64 y 4294967295)) 32)) 32)) (shrW .u64 (addW .u64 (andW .u64 (addW .u64 (mulW .u64 (shrW .u64 x 32) (andW .u64 y 4294967295)) (shrW .u64 (mulW .u64 (andW .u64 x 4294967295) (andW .u64 y 4294967295)) 32)) 4294967295) (mulW .u64 (andW .u64 x 4294967295) (shrW .u64 y 32))) 32)), (mulW .u64 x y))
def math_bits_Mul (n : Nat) (x : Int) (y : Int) : Option (Int × Int) :=
 (math_bits_Mul64 n x y).bind fun y1 =>
 some (y1.1, y1.2)
def slices_Repeat_int_int_S_L1 (n : Nat) (ob : (List Cell)) (ob_ : (List (List Event))) (ob__ : (List Int)) (ob___ : (List Int)) (ob____ : (List Event)) (sa : (List Int) × Int) : Option (((List Int) × Int) ⊕ ((List Int))) :=
 if (decide (sa.2 < (sa.1.length : Int))) = true then
  grd (decide (0 ≤ sa.2) && decide (sa.2 ≤ (sa.1.length : Int))) <|
  grd (decide (0 ≤ sa.2) && decide (sa.2 ≤ (sa.1.length : Int))) <|
  grd (Nat.ble ((sa.2).toNat + (sa.1.length - (sa.2).toNat)) sa.1.length) <|
  some (.inl ((sa.1.take ((sa.2).toNat) ++ (((sa.1.drop 0).take ((sa.2).toNat)).take (sa.1.length - (sa.2).toNat) ++ sa.1.drop ((sa.2).toNat + min ((sa.1.drop 0).take ((sa.2).toNat)).length (sa.1.length - (sa.2).toNat)))), (addW .i64 sa.2 ((min ((sa.1.drop 0).take ((sa.2).toNat)).length (sa.1.length - (sa.2).toNat) : Nat) : Int))))
 else
  some (.inr sa.1)
def slices_Repeat_int_int_S (n : Nat) (x : (List Int)) (count : Int) (ob : (List Cell)) (ob_ : (List (List Event))) (ob__ : (List Int)) (ob___ : (List Int)) (ob____ : (List Event)) : Option (List Int) :=
 if (decide (count < 0)) = true then
  none
 else
  (math_bits_Mul n (IntKind.wrap .u64 (x.length : Int)) (IntKind.wrap .u64 count)).bind fun y2 =>
  if (decide (y2.1 > 0)) = true then
   none
  else
   if (decide (y2.2 > 9223372036854775807)) = true then
    none
   else
    grd (decide (0 ≤ (IntKind.wrap .i64 y2.2)) && decide ((IntKind.wrap .i64 y2.2) ≤ (IntKind.wrap .i64 y2.2)) && decide (8 * (IntKind.wrap .i64 y2.2) ≤ 140737488355328) && decide ((IntKind.wrap .i64 y2.2) ≤ 140737488355328) && Nat.blt 0 1) <|
    (iter (fun s => slices_Repeat_int_int_S_L1 n ob ob_ ob__ ob___ ob____ s) n ((x.take (List.replicate ((IntKind.wrap .i64 y2.2)).toNat 0).length ++ (List.replicate ((IntKind.wrap .i64 y2.2)).toNat 0).drop x.length), ((min x.length (List.replicate ((IntKind.wrap .i64 y2.2)).toNat 0).length : Nat) : Int))).bind fun t6 =>
    some t6
def ppo_of_L2 (n : Nat) (c : Cand) (y3 : (List Event)) (xa2 : Event) (sb : (List Int) × (List Int) × (List Int) × (List Int) × (List Int) × Int × Int × Int) : Option (((List Int) × (List Int) × (List Int) × (List Int) × (List Int) × Int × Int × Int) ⊕ ((List Int) × (List Int) × (List Int) × (List Int) × (List Int) × Int × Int)) :=
 if (decide (sb.2.2.2.2.2.2.1 < 4)) = true then
  if (sb.2.2.2.2.2.2.1 == 0) = true then
   (getI sb.2.1 sb.2.2.2.2.2.2.2).bind fun xb3 =>
   (getI sb.2.1 (addW .i64 sb.2.2.2.2.2.2.2 1)).bind fun xb4 =>
   if (xa2.Kind == 6) = true then
    grd (decide (0 ≤ (quoW .i64 sb.2.2.2.2.2.2.1 2))) <|
    if ((andW .i64 (shrW .i64 xa2.Pred (quoW .i64 sb.2.2.2.2.2.2.1 2)) 1) == 1) = true then
     grd (decide (0 ≤ (remW .i64 sb.2.2.2.2.2.2.1 2))) <|
     if ((andW .i64 (shrW .i64 xa2.Succ (remW .i64 sb.2.2.2.2.2.2.1 2)) 1) == 1) = true then
      (getI (sb.2.1.set ((addW .i64 sb.2.2.2.2.2.2.2 1)).toNat xb3) (addW .i64 sb.2.2.2.2.2.2.2 1)).bind fun xb10 =>
      some (.inl (sb.1, ((sb.2.1.set ((addW .i64 sb.2.2.2.2.2.2.2 1)).toNat xb3).set ((addW .i64 sb.2.2.2.2.2.2.2 1)).toNat (addW .i64 xb10 1)), sb.2.2.1, sb.2.2.2.1, sb.2.2.2.2.1, sb.2.2.2.2.2.1, (addW .i64 sb.2.2.2.2.2.2.1 1), sb.2.2.2.2.2.2.2))
     else
      some (.inl (sb.1, (sb.2.1.set ((addW .i64 sb.2.2.2.2.2.2.2 1)).toNat xb3), sb.2.2.1, sb.2.2.2.1, sb.2.2.2.2.1, sb.2.2.2.2.2.1, (addW .i64 sb.2.2.2.2.2.2.1 1), sb.2.2.2.2.2.2.2))
    else
     some (.inl (sb.1, (sb.2.1.set ((addW .i64 sb.2.2.2.2.2.2.2 1)).toNat xb3), sb.2.2.1, sb.2.2.2.1, sb.2.2.2.2.1, sb.2.2.2.2.2.1, (addW .i64 sb.2.2.2.2.2.2.1 1), sb.2.2.2.2.2.2.2))
   else
    some (.inl (sb.1, (sb.2.1.set ((addW .i64 sb.2.2.2.2.2.2.2 1)).toNat xb3), sb.2.2.1, sb.2.2.2.1, sb.2.2.2.2.1, sb.2.2.2.2.2.1, (addW .i64 sb.2.2.2.2.2.2.1 1), sb.2.2.2.2.2.2.2))
  else
   if (sb.2.2.2.2.2.2.1 == 1) = true then
    (getI sb.2.2.1 sb.2.2.2.2.2.2.2).bind fun xb3 =>
    (getI sb.2.2.1 (addW .i64 sb.2.2.2.2.2.2.2 1)).bind fun xb4 =>
    if (xa2.Kind == 6) = true then
     grd (decide (0 ≤ (quoW .i64 sb.2.2.2.2.2.2.1 2))) <|
     if ((andW .i64 (shrW .i64 xa2.Pred (quoW .i64 sb.2.2.2.2.2.2.1 2)) 1) == 1) = true then
      grd (decide (0 ≤ (remW .i64 sb.2.2.2.2.2.2.1 2))) <|
      if ((andW .i64 (shrW .i64 xa2.Succ (remW .i64 sb.2.2.2.2.2.2.1 2)) 1) == 1) = true then
       (getI (sb.2.2.1.set ((addW .i64 sb.2.2.2.2.2.2.2 1)).toNat xb3) (addW .i64 sb.2.2.2.2.2.2.2 1)).bind fun xb10 =>
       some (.inl (sb.1, sb.2.1, ((sb.2.2.1.set ((addW .i64 sb.2.2.2.2.2.2.2 1)).toNat xb3).set ((addW .i64 sb.2.2.2.2.2.2.2 1)).toNat (addW .i64 xb10 1)), sb.2.2.2.1, sb.2.2.2.2.1, sb.2.2.2.2.2.1, (addW .i64 sb.2.2.2.2.2.2.1 1), sb.2.2.2.2.2.2.2))
      else
       some (.inl (sb.1, sb.2.1, (sb.2.2.1.set ((addW .i64 sb.2.2.2.2.2.2.2 1)).toNat xb3), sb.2.2.2.1, sb.2.2.2.2.1, sb.2.2.2.2.2.1, (addW .i64 sb.2.2.2.2.2.2.1 1), sb.2.2.2.2.2.2.2))
     else
      some (.inl (sb.1, sb.2.1, (sb.2.2.1.set ((addW .i64 sb.2.2.2.2.2.2.2 1)).toNat xb3), sb.2.2.2.1, sb.2.2.2.2.1, sb.2.2.2.2.2.1, (addW .i64 sb.2.2.2.2.2.2.1 1), sb.2.2.2.2.2.2.2))
    else
     some (.inl (sb.1, sb.2.1, (sb.2.2.1.set ((addW .i64 sb.2.2.2.2.2.2.2 1)).toNat xb3), sb.2.2.2.1, sb.2.2.2.2.1, sb.2.2.2.2.2.1, (addW .i64 sb.2.2.2.2.2.2.1 1), sb.2.2.2.2.2.2.2))
   else
    if (sb.2.2.2.2.2.2.1 == 2) = true then
     (getI sb.2.2.2.1 sb.2.2.2.2.2.2.2).bind fun xb3 =>
     (getI sb.2.2.2.1 (addW .i64 sb.2.2.2.2.2.2.2 1)).bind fun xb4 =>
     if (xa2.Kind == 6) = true then
      grd (decide (0 ≤ (quoW .i64 sb.2.2.2.2.2.2.1 2))) <|
      if ((andW .i64 (shrW .i64 xa2.Pred (quoW .i64 sb.2.2.2.2.2.2.1 2)) 1) == 1) = true then
       grd (decide (0 ≤ (remW .i64 sb.2.2.2.2.2.2.1 2))) <|
       if ((andW .i64 (shrW .i64 xa2.Succ (remW .i64 sb.2.2.2.2.2.2.1 2)) 1) == 1) = true then
        (getI (sb.2.2.2.1.set ((addW .i64 sb.2.2.2.2.2.2.2 1)).toNat xb3) (addW .i64 sb.2.2.2.2.2.2.2 1)).bind fun xb10 =>
        some (.inl (sb.1, sb.2.1, sb.2.2.1, ((sb.2.2.2.1.set ((addW .i64 sb.2.2.2.2.2.2.2 1)).toNat xb3).set ((addW .i64 sb.2.2.2.2.2.2.2 1)).toNat (addW .i64 xb10 1)), sb.2.2.2.2.1, sb.2.2.2.2.2.1, (addW .i64 sb.2.2.2.2.2.2.1 1), sb.2.2.2.2.2.2.2))
       else
        some (.inl (sb.1, sb.2.1, sb.2.2.1, (sb.2.2.2.1.set ((addW .i64 sb.2.2.2.2.2.2.2 1)).toNat xb3), sb.2.2.2.2.1, sb.2.2.2.2.2.1, (addW .i64 sb.2.2.2.2.2.2.1 1), sb.2.2.2.2.2.2.2))
      else
       some (.inl (sb.1, sb.2.1, sb.2.2.1, (sb.2.2.2.1.set ((addW .i64 sb.2.2.2.2.2.2.2 1)).toNat xb3), sb.2.2.2.2.1, sb.2.2.2.2.2.1, (addW .i64 sb.2.2.2.2.2.2.1 1), sb.2.2.2.2.2.2.2))
     else
      some (.inl (sb.1, sb.2.1, sb.2.2.1, (sb.2.2.2.1.set ((addW .i64 sb.2.2.2.2.2.2.2 1)).toNat xb3), sb.2.2.2.2.1, sb.2.2.2.2.2.1, (addW .i64 sb.2.2.2.2.2.2.1 1), sb.2.2.2.2.2.2.2))
    else
     if (sb.2.2.2.2.2.2.1 == 3) = true then
      (getI sb.2.2.2.2.1 sb.2.2.2.2.2.2.2).bind fun xb3 =>
      (getI sb.2.2.2.2.1 (addW .i64 sb.2.2.2.2.2.2.2 1)).bind fun xb4 =>
      if (xa2.Kind == 6) = true then
       grd (decide (0 ≤ (quoW .i64 sb.2.2.2.2.2.2.1 2))) <|
       if ((andW .i64 (shrW .i64 xa2.Pred (quoW .i64 sb.2.2.2.2.2.2.1 2)) 1) == 1) = true then
        grd (decide (0 ≤ (remW .i64 sb.2.2.2.2.2.2.1 2))) <|
        if ((andW .i64 (shrW .i64 xa2.Succ (remW .i64 sb.2.2.2.2.2.2.1 2)) 1) == 1) = true then
         (getI (sb.2.2.2.2.1.set ((addW .i64 sb.2.2.2.2.2.2.2 1)).toNat xb3) (addW .i64 sb.2.2.2.2.2.2.2 1)).bind fun xb10 =>
         some (.inl (sb.1, sb.2.1, sb.2.2.1, sb.2.2.2.1, ((sb.2.2.2.2.1.set ((addW .i64 sb.2.2.2.2.2.2.2 1)).toNat xb3).set ((addW .i64 sb.2.2.2.2.2.2.2 1)).toNat (addW .i64 xb10 1)), sb.2.2.2.2.2.1, (addW .i64 sb.2.2.2.2.2.2.1 1), sb.2.2.2.2.2.2.2))
        else
         some (.inl (sb.1, sb.2.1, sb.2.2.1, sb.2.2.2.1, (sb.2.2.2.2.1.set ((addW .i64 sb.2.2.2.2.2.2.2 1)).toNat xb3), sb.2.2.2.2.2.1, (addW .i64 sb.2.2.2.2.2.2.1 1), sb.2.2.2.2.2.2.2))
       else
        some (.inl (sb.1, sb.2.1, sb.2.2.1, sb.2.2.2.1, (sb.2.2.2.2.1.set ((addW .i64 sb.2.2.2.2.2.2.2 1)).toNat xb3), sb.2.2.2.2.2.1, (addW .i64 sb.2.2.2.2.2.2.1 1), sb.2.2.2.2.2.2.2))
      else
       some (.inl (sb.1, sb.2.1, sb.2.2.1, sb.2.2.2.1, (sb.2.2.2.2.1.set ((addW .i64 sb.2.2.2.2.2.2.2 1)).toNat xb3), sb.2.2.2.2.2.1, (addW .i64 sb.2.2.2.2.2.2.1 1), sb.2.2.2.2.2.2.2))
     else
      none
 else
  some (.inr (sb.1, sb.2.1, sb.2.2.1, sb.2.2.2.1, sb.2.2.2.2.1, sb.2.2.2.2.2.1, sb.2.2.2.2.2.2.2))
def ppo_of_L3 (n : Nat) (c : Cand) (y3 : (List Event)) (xa2 : Event) (sb : (List Int) × (List Int) × (List Int) × (List Int) × (List Int) × Int × Int × Int) : Option (((List Int) × (List Int) × (List Int) × (List Int) × (List Int) × Int × Int × Int) ⊕ ((List Int) × (List Int) × (List Int) × (List Int) × (List Int) × Int)) :=
 if (decide (sb.2.2.2.2.2.1 < (xa2.Deps.Addr.length : Int))) = true then
  (getI xa2.Deps.Addr sb.2.2.2.2.2.1).bind fun xb2 =>
  (getI sb.1 (addW .i64 (subW .i64 sb.2.2.2.2.2.2.2 xa2.At) xb2)).bind fun xb3 =>
  some (.inl ((sb.1.set ((addW .i64 (subW .i64 sb.2.2.2.2.2.2.2 xa2.At) xb2)).toNat (minI xb3 sb.2.2.2.2.2.2.2)), sb.2.1, sb.2.2.1, sb.2.2.2.1, sb.2.2.2.2.1, (addW .i64 sb.2.2.2.2.2.1 1), sb.2.2.2.2.2.2.1, sb.2.2.2.2.2.2.2))
 else
  some (.inr (sb.1, sb.2.1, sb.2.2.1, sb.2.2.2.1, sb.2.2.2.2.1, sb.2.2.2.2.2.2.1))
def ppo_of_L1 (n : Nat) (c : Cand) (y3 : (List Event)) (sa : (List Int) × (List Int) × (List Int) × (List Int) × (List Int) × Int) : Option (((List Int) × (List Int) × (List Int) × (List Int) × (List Int) × Int) ⊕ ((List Int) × (List Int) × (List Int) × (List Int) × (List Int))) :=
 if (decide (sa.2.2.2.2.2 < (y3.length : Int))) = true then
  (getI y3 sa.2.2.2.2.2).bind fun xa2 =>
  (iter (fun s => ppo_of_L2 n c y3 xa2 s) n (sa.1, sa.2.1, sa.2.2.1, sa.2.2.2.1, sa.2.2.2.2.1, sa.2.2.2.2.2, 0, sa.2.2.2.2.2)).bind fun ta3 =>
  (iter (fun s => ppo_of_L3 n c y3 xa2 s) n (ta3.1, ta3.2.1, ta3.2.2.1, ta3.2.2.2.1, ta3.2.2.2.2.1, 0, ta3.2.2.2.2.2.1, ta3.2.2.2.2.2.2)).bind fun ta4 =>
  some (.inl (ta4.1, ta4.2.1, ta4.2.2.1, ta4.2.2.2.1, ta4.2.2.2.2.1, (addW .i64 ta4.2.2.2.2.2 1)))
 else
  some (.inr (sa.1, sa.2.1, sa.2.2.1, sa.2.2.2.1, sa.2.2.2.2.1))
def ppo_of (n : Nat) (c : Cand) : Option (Option ppo_view) :=
 (cand_Check n c).bind fun y1 =>
 if (y1 != 0) = true then
  some (none : Option ppo_view)
 else
  (slices_Concat_api_Event_api_Event n c.Harts).bind fun y3 =>
  (slices_Repeat_int_int_S n ([(y3.length : Int)] : List Int) (y3.length : Int) c.First c.Harts c.From c.Order y3).bind fun y4 =>
  grd (decide (0 ≤ (addW .i64 (y3.length : Int) 1)) && decide ((addW .i64 (y3.length : Int) 1) ≤ (addW .i64 (y3.length : Int) 1)) && decide (8 * (addW .i64 (y3.length : Int) 1) ≤ 140737488355328) && decide ((addW .i64 (y3.length : Int) 1) ≤ 140737488355328) && Nat.blt 0 1) <|
  grd (decide (0 ≤ (addW .i64 (y3.length : Int) 1)) && decide ((addW .i64 (y3.length : Int) 1) ≤ (addW .i64 (y3.length : Int) 1)) && decide (8 * (addW .i64 (y3.length : Int) 1) ≤ 140737488355328) && decide ((addW .i64 (y3.length : Int) 1) ≤ 140737488355328) && Nat.blt 0 1) <|
  grd (decide (0 ≤ (addW .i64 (y3.length : Int) 1)) && decide ((addW .i64 (y3.length : Int) 1) ≤ (addW .i64 (y3.length : Int) 1)) && decide (8 * (addW .i64 (y3.length : Int) 1) ≤ 140737488355328) && decide ((addW .i64 (y3.length : Int) 1) ≤ 140737488355328) && Nat.blt 0 1) <|
  grd (decide (0 ≤ (addW .i64 (y3.length : Int) 1)) && decide ((addW .i64 (y3.length : Int) 1) ≤ (addW .i64 (y3.length : Int) 1)) && decide (8 * (addW .i64 (y3.length : Int) 1) ≤ 140737488355328) && decide ((addW .i64 (y3.length : Int) 1) ≤ 140737488355328) && Nat.blt 0 1) <|
  (iter (fun s => ppo_of_L1 n c y3 s) n (y4, (List.replicate ((addW .i64 (y3.length : Int) 1)).toNat 0), (List.replicate ((addW .i64 (y3.length : Int) 1)).toNat 0), (List.replicate ((addW .i64 (y3.length : Int) 1)).toNat 0), (List.replicate ((addW .i64 (y3.length : Int) 1)).toNat 0), 0)).bind fun t9 =>
  some (some (ppo_view.mk (some c) y3 (Arr4.mk t9.2.1 t9.2.2.1 t9.2.2.2.1 t9.2.2.2.2) t9.1))
def ppo_view_ahead (n : Nat) (a : Int) (b : Int) : Option Bool :=
 some false
def ppo_rules (n : Nat) : Option Unit :=
 some ()
def ppo_view_rule (n : Nat) (a : Int) (b : Int) : Option Int :=
 (ppo_view_ahead n a b).bind fun y1 =>
 if (!y1) = true then
  some 0
 else
  (ppo_rules n).bind fun y3 =>
  none
def ppo_view_ahead2 (n : Nat) (v : ppo_view) (a : Int) (b : Int) : Option Bool :=
 if (decide (a < 0)) = true then
  some false
 else
  if (decide (b ≥ (v.all.length : Int))) = true then
   some false
  else
   if (decide (a ≥ b)) = true then
    some false
   else
    (getI v.all a).bind fun x4 =>
    (getI v.all b).bind fun x5 =>
    if (x4.Hart == x5.Hart) = true then
     (event_Memory n x4).bind fun y7 =>
     if y7 = true then
      (event_Memory n x5).bind fun y9 =>
      some y9
     else
      some false
    else
     some false
def ppo_rules_1 (n : Nat) (v : ppo_view) (a : Int) (b : Int) (x : Event) (y : Event) : Option Bool :=
 (event_Writes n y).bind fun y1 =>
 if y1 = true then
  some (x.Addr == y.Addr)
 else
  some false
def ppo_rules_2_1 (n : Nat) (m : Event) (a : Int) (a_ : Int) (a__ : Int) (a___ : Int) (a____ : Int) (a_____ : Int) (a______ : Bool) (a_______ : Bool) (a________ : Int) (a_________ : Int) (a__________ : Int) (a___________ : (List Int)) (a____________ : (List Int)) (a_____________ : (List Int)) : Option Bool :=
 (event_Writes n m).bind fun y1 =>
 if y1 = true then
  some (m.Addr == a___)
 else
  some false
def slices_IndexFunc_api_Event_api_Event_L1 (n : Nat) (s_ : (List Event)) (f : Int) (f_ : Int) (f__ : Int) (f___ : Int) (f____ : Int) (f_____ : Int) (f______ : Bool) (f_______ : Bool) (f________ : Int) (f_________ : Int) (f__________ : Int) (f___________ : (List Int)) (f____________ : (List Int)) (f_____________ : (List Int)) (sa : Int) : Option (Int ⊕ (Unit ⊕ Int)) :=
 if (decide (sa < (s_.length : Int))) = true then
  (getI s_ sa).bind fun xa2 =>
  (ppo_rules_2_1 n xa2 f f_ f__ f___ f____ f_____ f______ f_______ f________ f_________ f__________ f___________ f____________ f_____________).bind fun ya3 =>
  if ya3 = true then
   some (.inr (.inr sa))
  else
   some (.inl (addW .i64 sa 1))
 else
  some (.inr (.inl ()))
def slices_IndexFunc_api_Event_api_Event (n : Nat) (s_ : (List Event)) (f : Int) (f_ : Int) (f__ : Int) (f___ : Int) (f____ : Int) (f_____ : Int) (f______ : Bool) (f_______ : Bool) (f________ : Int) (f_________ : Int) (f__________ : Int) (f___________ : (List Int)) (f____________ : (List Int)) (f_____________ : (List Int)) : Option Int :=
 (iter (fun s => slices_IndexFunc_api_Event_api_Event_L1 n s_ f f_ f__ f___ f____ f_____ f______ f_______ f________ f_________ f__________ f___________ f____________ f_____________ s) n 0).bind fun t1 =>
 match t1 with
 | .inl w2 =>
  some (-1)
 | .inr w2 =>
  some w2
def slices_ContainsFunc_api_Event_api_Event (n : Nat) (s_ : (List Event)) (f : Int) (f_ : Int) (f__ : Int) (f___ : Int) (f____ : Int) (f_____ : Int) (f______ : Bool) (f_______ : Bool) (f________ : Int) (f_________ : Int) (f__________ : Int) (f___________ : (List Int)) (f____________ : (List Int)) (f_____________ : (List Int)) : Option Bool :=
 (slices_IndexFunc_api_Event_api_Event n s_ f f_ f__ f___ f____ f_____ f______ f_______ f________ f_________ f__________ f___________ f____________ f_____________).bind fun y1 =>
 some (decide (y1 ≥ 0))
def ppo_rules_2 (n : Nat) (v : ppo_view) (a : Int) (b : Int) (x : Event) (y : Event) : Option Bool :=
 if (x.Addr != y.Addr) = true then
  some false
 else
  (event_Reads n x).bind fun y2 =>
  if (!y2) = true then
   some false
  else
   (event_Reads n y).bind fun y4 =>
   if (!y4) = true then
    some false
   else
    matchO v.c (
     none) fun z6 =>
     (getI z6.From a).bind fun x8 =>
     matchO v.c (
      none) fun z9 =>
      (getI z9.From b).bind fun x11 =>
      if (x8 == x11) = true then
       some false
      else
       grd (decide (0 ≤ (addW .i64 a 1)) && decide ((addW .i64 a 1) ≤ b) && decide (b ≤ (v.all.length : Int))) <|
       (slices_ContainsFunc_api_Event_api_Event n ((v.all.drop ((addW .i64 a 1)).toNat).take ((b).toNat - ((addW .i64 a 1)).toNat)) x.Hart x.At x.Kind x.Addr x.Load x.Store x.Aq x.Rl x.Pred x.Succ x.Pair x.Deps.Addr x.Deps.Data x.Deps.Way).bind fun y14 =>
       some (!y14)
def ppo_rules_3 (n : Nat) (v : ppo_view) (a : Int) (b : Int) (x : Event) (y : Event) : Option Bool :=
 if (x.Kind == 4) = true then
  (event_Reads n y).bind fun y2 =>
  if y2 = true then
   matchO v.c (
    none) fun z4 =>
    (getI z4.From b).bind fun x6 =>
    some (x6 == a)
  else
   some false
 else
  if (x.Kind == 5) = true then
   (event_Reads n y).bind fun y3 =>
   if y3 = true then
    matchO v.c (
     none) fun z5 =>
     (getI z5.From b).bind fun x7 =>
     some (x7 == a)
   else
    some false
  else
   some false
def ppo_sides (n : Nat) (e : Event) : Option (List Int) :=
 (event_Writes n e).bind fun y1 =>
 if y1 = true then
  (event_Reads n e).bind fun y3 =>
  if y3 = true then
   grd (Nat.ble ((([0] : List Int).length + 1) * 8) 140737488355328) <|
   some (([0] : List Int) ++ ([1] : List Int))
  else
   some ([0] : List Int)
 else
  (event_Reads n e).bind fun y3 =>
  if y3 = true then
   some ([1] : List Int)
  else
   some ([] : List Int)
def ppo_view_fenced_L2 (n : Nat) (v : ppo_view) (a : Int) (b : Int) (y2 : (List Int)) (xa2 : Int) (ya4 : (List Int)) (sb : Int × Int) : Option ((Int × Int) ⊕ (Int ⊕ Unit)) :=
 if (decide (sb.2 < (ya4.length : Int))) = true then
  (getI ya4 sb.2).bind fun xb2 =>
  if ((addW .i64 (mulW .i64 2 xa2) xb2) == 0) = true then
   (getI v.fences.e0 b).bind fun xb4 =>
   (getI v.fences.e0 a).bind fun xb5 =>
   if (decide (xb4 > xb5)) = true then
    some (.inr (.inr ()))
   else
    some (.inl (sb.1, (addW .i64 sb.2 1)))
  else
   if ((addW .i64 (mulW .i64 2 xa2) xb2) == 1) = true then
    (getI v.fences.e1 b).bind fun xb4 =>
    (getI v.fences.e1 a).bind fun xb5 =>
    if (decide (xb4 > xb5)) = true then
     some (.inr (.inr ()))
    else
     some (.inl (sb.1, (addW .i64 sb.2 1)))
   else
    if ((addW .i64 (mulW .i64 2 xa2) xb2) == 2) = true then
     (getI v.fences.e2 b).bind fun xb4 =>
     (getI v.fences.e2 a).bind fun xb5 =>
     if (decide (xb4 > xb5)) = true then
      some (.inr (.inr ()))
     else
      some (.inl (sb.1, (addW .i64 sb.2 1)))
    else
     if ((addW .i64 (mulW .i64 2 xa2) xb2) == 3) = true then
      (getI v.fences.e3 b).bind fun xb4 =>
      (getI v.fences.e3 a).bind fun xb5 =>
      if (decide (xb4 > xb5)) = true then
       some (.inr (.inr ()))
      else
       some (.inl (sb.1, (addW .i64 sb.2 1)))
     else
      none
 else
  some (.inr (.inl sb.1))
def ppo_view_fenced_L1 (n : Nat) (v : ppo_view) (a : Int) (b : Int) (y2 : (List Int)) (sa : Int) : Option (Int ⊕ (Unit ⊕ Unit)) :=
 if (decide (sa < (y2.length : Int))) = true then
  (getI y2 sa).bind fun xa2 =>
  (getI v.all b).bind fun xa3 =>
  (ppo_sides n xa3).bind fun ya4 =>
  (iter (fun s => ppo_view_fenced_L2 n v a b y2 xa2 ya4 s) n (sa, 0)).bind fun ta5 =>
  match ta5 with
  | .inl wa6 =>
   some (.inl (addW .i64 wa6 1))
  | .inr wa6 =>
   some (.inr (.inr ()))
 else
  some (.inr (.inl ()))
def ppo_view_fenced (n : Nat) (v : ppo_view) (a : Int) (b : Int) : Option Bool :=
 (getI v.all a).bind fun x1 =>
 (ppo_sides n x1).bind fun y2 =>
 (iter (fun s => ppo_view_fenced_L1 n v a b y2 s) n 0).bind fun t3 =>
 match t3 with
 | .inl w4 =>
  some false
 | .inr w4 =>
  some true
def ppo_rules_4 (n : Nat) (v : ppo_view) (a : Int) (b : Int) (x : Event) (y : Event) : Option Bool :=
 (ppo_view_fenced n v a b).bind fun y1 =>
 some y1
def ppo_rules_5 (n : Nat) (v : ppo_view) (a : Int) (b : Int) (x : Event) (y : Event) : Option Bool :=
 some x.Aq
def ppo_rules_6 (n : Nat) (v : ppo_view) (a : Int) (b : Int) (x : Event) (y : Event) : Option Bool :=
 some y.Rl
def ppo_rules_7 (n : Nat) (v : ppo_view) (a : Int) (b : Int) (x : Event) (y : Event) : Option Bool :=
 if x.Aq = true then
  if y.Aq = true then
   some true
  else
   some y.Rl
 else
  if x.Rl = true then
   if y.Aq = true then
    some true
   else
    some y.Rl
  else
   some false
def ppo_rules_8 (n : Nat) (v : ppo_view) (a : Int) (b : Int) (x : Event) (y : Event) : Option Bool :=
 if (y.Kind == 4) = true then
  some (y.Pair == x.At)
 else
  some false
def cmp_isNaN_int (n : Nat) (x : Int) : Option Bool :=
 some (x != x)
def cmp_Less_int (n : Nat) (x : Int) (y : Int) : Option Bool :=
 (cmp_isNaN_int n x).bind fun y1 =>
 if y1 = true then
  (cmp_isNaN_int n y).bind fun y3 =>
  if (!y3) = true then
   some true
  else
   some (decide (x < y))
 else
  some (decide (x < y))
def slices_isNaN_int (n : Nat) (x : Int) : Option Bool :=
 some (x != x)
def slices_BinarySearch_int_int_L1 (n : Nat) (x : (List Int)) (target : Int) (sa : Int × Int) : Option ((Int × Int) ⊕ Int) :=
 if (decide (sa.1 < sa.2)) = true then
  (getI x (IntKind.wrap .i64 (shrW .u64 (IntKind.wrap .u64 (addW .i64 sa.1 sa.2)) 1))).bind fun xa2 =>
  (cmp_Less_int n xa2 target).bind fun ya3 =>
  if ya3 = true then
   some (.inl ((addW .i64 (IntKind.wrap .i64 (shrW .u64 (IntKind.wrap .u64 (addW .i64 sa.1 sa.2)) 1)) 1), sa.2))
  else
   some (.inl (sa.1, (IntKind.wrap .i64 (shrW .u64 (IntKind.wrap .u64 (addW .i64 sa.1 sa.2)) 1))))
 else
  some (.inr sa.1)
def slices_BinarySearch_int_int (n : Nat) (x : (List Int)) (target : Int) : Option (Int × Bool) :=
 (iter (fun s => slices_BinarySearch_int_int_L1 n x target s) n (0, (x.length : Int))).bind fun t1 =>
 if (decide (t1 < (x.length : Int))) = true then
  (getI x t1).bind fun x3 =>
  if (x3 == target) = true then
   some (t1, true)
  else
   (slices_isNaN_int n x3).bind fun y5 =>
   if y5 = true then
    (slices_isNaN_int n target).bind fun y7 =>
    some (t1, y7)
   else
    some (t1, false)
 else
  some (t1, false)
def ppo_on (n : Nat) (l : (List Int)) (at_ : Int) : Option Bool :=
 (slices_BinarySearch_int_int n l at_).bind fun y1 =>
 some y1.2
def ppo_rules_9 (n : Nat) (v : ppo_view) (a : Int) (b : Int) (x : Event) (y : Event) : Option Bool :=
 (ppo_on n y.Deps.Addr x.At).bind fun y1 =>
 some y1
def ppo_rules_10 (n : Nat) (v : ppo_view) (a : Int) (b : Int) (x : Event) (y : Event) : Option Bool :=
 (ppo_on n y.Deps.Data x.At).bind fun y1 =>
 some y1
def ppo_rules_11 (n : Nat) (v : ppo_view) (a : Int) (b : Int) (x : Event) (y : Event) : Option Bool :=
 (event_Writes n y).bind fun y1 =>
 if y1 = true then
  (ppo_on n y.Deps.Way x.At).bind fun y3 =>
  some y3
 else
  some false
def ppo_rules_12 (n : Nat) (v : ppo_view) (a : Int) (b : Int) (x : Event) (y : Event) : Option Bool :=
 matchO v.c (
  none) fun z1 =>
  (getI z1.From b).bind fun x3 =>
  (event_Reads n y).bind fun y4 =>
  if y4 = true then
   if (decide (x3 > a)) = true then
    if (decide (x3 < b)) = true then
     (getI v.all x3).bind fun x8 =>
     (ppo_on n x8.Deps.Addr x.At).bind fun y9 =>
     if y9 = true then
      some true
     else
      (ppo_on n x8.Deps.Data x.At).bind fun y11 =>
      some y11
    else
     some false
   else
    some false
  else
   some false
def ppo_rules_13 (n : Nat) (v : ppo_view) (a : Int) (b : Int) (x : Event) (y : Event) : Option Bool :=
 (event_Writes n y).bind fun y1 =>
 if y1 = true then
  (getI v.hung a).bind fun x3 =>
  some (decide (x3 < b))
 else
  some false
def ppo_view_rule2_L1 (n : Nat) (v : ppo_view) (a : Int) (b : Int) (sa : Int) : Option (Int ⊕ (Unit ⊕ Int)) :=
 if (decide (sa < 13)) = true then
  if (sa == 0) = true then
   (getI v.all a).bind fun xa3 =>
   (getI v.all b).bind fun xa4 =>
   (ppo_rules_1 n v a b xa3 xa4).bind fun ya5 =>
   if ya5 = true then
    some (.inr (.inr 1))
   else
    some (.inl 1)
  else
   if (sa == 1) = true then
    (getI v.all a).bind fun xa3 =>
    (getI v.all b).bind fun xa4 =>
    (ppo_rules_2 n v a b xa3 xa4).bind fun ya5 =>
    if ya5 = true then
     some (.inr (.inr 2))
    else
     some (.inl 2)
   else
    if (sa == 2) = true then
     (getI v.all a).bind fun xa3 =>
     (getI v.all b).bind fun xa4 =>
     (ppo_rules_3 n v a b xa3 xa4).bind fun ya5 =>
     if ya5 = true then
      some (.inr (.inr 3))
     else
      some (.inl 3)
    else
     if (sa == 3) = true then
      (getI v.all a).bind fun xa3 =>
      (getI v.all b).bind fun xa4 =>
      (ppo_rules_4 n v a b xa3 xa4).bind fun ya5 =>
      if ya5 = true then
       some (.inr (.inr 4))
      else
       some (.inl 4)
     else
      if (sa == 4) = true then
       (getI v.all a).bind fun xa3 =>
       (getI v.all b).bind fun xa4 =>
       (ppo_rules_5 n v a b xa3 xa4).bind fun ya5 =>
       if ya5 = true then
        some (.inr (.inr 5))
       else
        some (.inl 5)
      else
       if (sa == 5) = true then
        (getI v.all a).bind fun xa3 =>
        (getI v.all b).bind fun xa4 =>
        (ppo_rules_6 n v a b xa3 xa4).bind fun ya5 =>
        if ya5 = true then
         some (.inr (.inr 6))
        else
         some (.inl 6)
       else
        if (sa == 6) = true then
         (getI v.all a).bind fun xa3 =>
         (getI v.all b).bind fun xa4 =>
         (ppo_rules_7 n v a b xa3 xa4).bind fun ya5 =>
         if ya5 = true then
          some (.inr (.inr 7))
         else
          some (.inl 7)
        else
         if (sa == 7) = true then
          (getI v.all a).bind fun xa3 =>
          (getI v.all b).bind fun xa4 =>
          (ppo_rules_8 n v a b xa3 xa4).bind fun ya5 =>
          if ya5 = true then
           some (.inr (.inr 8))
          else
           some (.inl 8)
         else
          if (sa == 8) = true then
           (getI v.all a).bind fun xa3 =>
           (getI v.all b).bind fun xa4 =>
           (ppo_rules_9 n v a b xa3 xa4).bind fun ya5 =>
           if ya5 = true then
            some (.inr (.inr 9))
           else
            some (.inl 9)
          else
           if (sa == 9) = true then
            (getI v.all a).bind fun xa3 =>
            (getI v.all b).bind fun xa4 =>
            (ppo_rules_10 n v a b xa3 xa4).bind fun ya5 =>
            if ya5 = true then
             some (.inr (.inr 10))
            else
             some (.inl 10)
           else
            if (sa == 10) = true then
             (getI v.all a).bind fun xa3 =>
             (getI v.all b).bind fun xa4 =>
             (ppo_rules_11 n v a b xa3 xa4).bind fun ya5 =>
             if ya5 = true then
              some (.inr (.inr 11))
             else
              some (.inl 11)
            else
             if (sa == 11) = true then
              (getI v.all a).bind fun xa3 =>
              (getI v.all b).bind fun xa4 =>
              (ppo_rules_12 n v a b xa3 xa4).bind fun ya5 =>
              if ya5 = true then
               some (.inr (.inr 12))
              else
               some (.inl 12)
             else
              if (sa == 12) = true then
               (getI v.all a).bind fun xa3 =>
               (getI v.all b).bind fun xa4 =>
               (ppo_rules_13 n v a b xa3 xa4).bind fun ya5 =>
               if ya5 = true then
                some (.inr (.inr 13))
               else
                some (.inl 13)
              else
               if (sa == 13) = true then
                none
               else
                none
 else
  some (.inr (.inl ()))
def ppo_view_rule2 (n : Nat) (v : ppo_view) (a : Int) (b : Int) : Option Int :=
 (ppo_view_ahead2 n v a b).bind fun y1 =>
 if (!y1) = true then
  some 0
 else
  (ppo_rules n).bind fun y3 =>
  (iter (fun s => ppo_view_rule2_L1 n v a b s) n 0).bind fun t4 =>
  match t4 with
  | .inl w5 =>
   some 0
  | .inr w5 =>
   some w5
def ppo_Rule (n : Nat) (c : Cand) (a : Int) (b : Int) : Option Int :=
 (ppo_of n c).bind fun y1 =>
 match y1 with
 | none =>
  (ppo_view_rule n a b).bind fun y2 =>
  some y2
 | some z2 =>
  (ppo_view_rule2 n z2 a b).bind fun y3 =>
  some y3
def law_fence (n : Nat) (pred : Int) (succ : Int) : Option (List Event) :=
 some ([(Event.mk 0 1 6 0 0 0 false false pred succ 0 (Deps.mk ([] : List Int) ([] : List Int) ([] : List Int)))] : List Event)
def law_lives (n : Nat) : Option Bool :=
 (law_example n ([] : List Event)).bind fun y1 =>
 (ppo_Rule n y1 0 1).bind fun y2 =>
 if (y2 == 0) = true then
  (law_fence n 1 2).bind fun y4 =>
  (law_example n y4).bind fun y5 =>
  (ppo_Rule n y5 0 2).bind fun y6 =>
  some (y6 == 4)
 else
  some false
def kit_LightDeps (n : Nat) (d : Deps) (most : Int) : Option Bool :=
 if (decide ((d.Addr.length : Int) ≤ most)) = true then
  if (decide ((d.Data.length : Int) ≤ most)) = true then
   some (decide ((d.Way.length : Int) ≤ most))
  else
   some false
 else
  some false
def kit_LightEvents_L1 (n : Nat) (l : (List Event)) (sa : Int) : Option (Int ⊕ (Unit ⊕ Unit)) :=
 if (decide (sa < (l.length : Int))) = true then
  (getI l sa).bind fun xa2 =>
  (kit_LightDeps n xa2.Deps 60).bind fun ya3 =>
  if (!ya3) = true then
   some (.inr (.inr ()))
  else
   some (.inl (addW .i64 sa 1))
 else
  some (.inr (.inl ()))
def kit_LightEvents (n : Nat) (l : (List Event)) (most : Int) : Option Bool :=
 if (decide ((l.length : Int) > most)) = true then
  some false
 else
  (iter (fun s => kit_LightEvents_L1 n l s) n 0).bind fun t2 =>
  match t2 with
  | .inl w3 =>
   some true
  | .inr w3 =>
   some false
def kit_LightCand_L1 (n : Nat) (c : Cand) (most : Int) (sa : Int × Int) : Option ((Int × Int) ⊕ (Int ⊕ Unit)) :=
 if (decide (sa.2 < (c.Harts.length : Int))) = true then
  if (decide (sa.2 < 10)) = true then
   (getI c.Harts sa.2).bind fun xa3 =>
   (kit_LightEvents n xa3 most).bind fun ya4 =>
   if (!ya4) = true then
    some (.inr (.inr ()))
   else
    some (.inl ((addW .i64 sa.1 (xa3.length : Int)), (addW .i64 sa.2 1)))
  else
   some (.inr (.inl sa.1))
 else
  some (.inr (.inl sa.1))
def kit_LightCand (n : Nat) (c : Cand) (most : Int) : Option Bool :=
 (iter (fun s => kit_LightCand_L1 n c most s) n (0, 0)).bind fun t1 =>
 match t1 with
 | .inl w2 =>
  if (decide ((c.Harts.length : Int) ≤ 9)) = true then
   if (decide (w2 ≤ most)) = true then
    if (decide ((c.First.length : Int) ≤ most)) = true then
     if (decide ((c.From.length : Int) ≤ (mulW .i64 2 most))) = true then
      some (decide ((c.Order.length : Int) ≤ (mulW .i64 2 most)))
     else
      some false
    else
     some false
   else
    some false
  else
   some false
 | .inr w2 =>
  some false
def ref_Cells_L1 (n : Nat) (l : (List Cell)) (sa : Int) : Option (Int ⊕ (Unit ⊕ Unit)) :=
 if (decide (sa < (l.length : Int))) = true then
  (getI l sa).bind fun xa2 =>
  if ((remW .u64 xa2.Addr 8) != 0) = true then
   some (.inr (.inr ()))
  else
   if (decide (sa > 0)) = true then
    (getI l (subW .i64 sa 1)).bind fun xa5 =>
    if (decide (xa5.Addr ≥ xa2.Addr)) = true then
     some (.inr (.inr ()))
    else
     some (.inl (addW .i64 sa 1))
   else
    some (.inl (addW .i64 sa 1))
 else
  some (.inr (.inl ()))
def ref_Cells (n : Nat) (l : (List Cell)) : Option Bool :=
 (iter (fun s => ref_Cells_L1 n l s) n 0).bind fun t1 =>
 match t1 with
 | .inl w2 =>
  some true
 | .inr w2 =>
  some false
def ref_Reads (n : Nat) (e : Event) : Option Bool :=
 if (e.Kind == 1) = true then
  some true
 else
  if (e.Kind == 3) = true then
   some true
  else
   some (e.Kind == 5)
def ref_Writes (n : Nat) (e : Event) : Option Bool :=
 if (e.Kind == 2) = true then
  some true
 else
  if (e.Kind == 4) = true then
   some true
  else
   some (e.Kind == 5)
def ref_Memory (n : Nat) (e : Event) : Option Bool :=
 (ref_Reads n e).bind fun y1 =>
 if y1 = true then
  some true
 else
  (ref_Writes n e).bind fun y3 =>
  some y3
def ref_Rising_L1 (n : Nat) (l : (List Int)) (sa : Int) : Option (Int ⊕ (Unit ⊕ Unit)) :=
 if (decide (sa < (l.length : Int))) = true then
  (getI l sa).bind fun xa2 =>
  if (decide (xa2 < 0)) = true then
   some (.inr (.inr ()))
  else
   if (decide (sa > 0)) = true then
    (getI l (subW .i64 sa 1)).bind fun xa5 =>
    if (decide (xa5 ≥ xa2)) = true then
     some (.inr (.inr ()))
    else
     some (.inl (addW .i64 sa 1))
   else
    some (.inl (addW .i64 sa 1))
 else
  some (.inr (.inl ()))
def ref_Rising (n : Nat) (l : (List Int)) : Option Bool :=
 (iter (fun s => ref_Rising_L1 n l s) n 0).bind fun t1 =>
 match t1 with
 | .inl w2 =>
  some true
 | .inr w2 =>
  some false
def ref_below (n : Nat) (l : (List Int)) (at_ : Int) : Option Bool :=
 (ref_Rising n l).bind fun y1 =>
 if y1 = true then
  if ((l.length : Int) == 0) = true then
   some true
  else
   (getI l (subW .i64 (l.length : Int) 1)).bind fun x4 =>
   some (decide (x4 < at_))
 else
  some false
def ref_Check2_C1 (n : Nat) (sa : Bool) : Option Int :=
 if (!sa) = true then
  some 2
 else
  some 0
def ref_Check2_C4 (n : Nat) (e : Event) (sd : Bool) : Option Bool :=
 if sd = true then
  (ref_below n e.Deps.Addr e.At).bind fun yd2 =>
  if yd2 = true then
   (ref_below n e.Deps.Data e.At).bind fun yd4 =>
   if yd4 = true then
    (ref_below n e.Deps.Way e.At).bind fun yd6 =>
    if yd6 = true then
     (ref_Writes n e).bind fun yd8 =>
     if yd8 = true then
      some true
     else
      some ((e.Deps.Data.length : Int) == 0)
    else
     some false
   else
    some false
  else
   some false
 else
  some false
def ref_Check2_C3 (n : Nat) (e : Event) (sb : Bool) : Option Bool :=
 if sb = true then
  if (e.Kind == 4) = true then
   if (decide (e.Pair ≥ 0)) = true then
    if (decide (e.Pair < e.At)) = true then
     (ref_Check2_C4 n e true).bind fun tb5 =>
     some tb5
    else
     if (e.Kind != 4) = true then
      (ref_Check2_C4 n e (e.Pair == 0)).bind fun tb6 =>
      some tb6
     else
      (ref_Check2_C4 n e false).bind fun tb6 =>
      some tb6
   else
    if (e.Kind != 4) = true then
     (ref_Check2_C4 n e (e.Pair == 0)).bind fun tb5 =>
     some tb5
    else
     (ref_Check2_C4 n e false).bind fun tb5 =>
     some tb5
  else
   if (e.Kind != 4) = true then
    (ref_Check2_C4 n e (e.Pair == 0)).bind fun tb4 =>
    some tb4
   else
    (ref_Check2_C4 n e false).bind fun tb4 =>
    some tb4
 else
  (ref_Check2_C4 n e false).bind fun tb2 =>
  some tb2
def ref_Check2_C2 (n : Nat) (e : Event) (sa : Bool) : Option Bool :=
 if sa = true then
  if (e.Kind != 1) = true then
   if (e.Kind != 2) = true then
    (ref_Check2_C3 n e true).bind fun ta4 =>
    some ta4
   else
    if (!e.Aq) = true then
     (ref_Check2_C3 n e (!e.Rl)).bind fun ta5 =>
     some ta5
    else
     (ref_Check2_C3 n e false).bind fun ta5 =>
     some ta5
  else
   if (!e.Aq) = true then
    (ref_Check2_C3 n e (!e.Rl)).bind fun ta4 =>
    some ta4
   else
    (ref_Check2_C3 n e false).bind fun ta4 =>
    some ta4
 else
  (ref_Check2_C3 n e false).bind fun ta2 =>
  some ta2
def ref_Check2 (n : Nat) (e : Event) : Option Int :=
 if (decide (e.Hart ≥ 0)) = true then
  if (decide (e.Hart < 8)) = true then
   if (e.Kind == 6) = true then
    if (decide (e.At ≥ 0)) = true then
     if (e.Addr == 0) = true then
      if (e.Load == 0) = true then
       if (e.Store == 0) = true then
        if (!e.Aq) = true then
         if (!e.Rl) = true then
          if (e.Pair == 0) = true then
           if ((addW .i64 (addW .i64 (e.Deps.Addr.length : Int) (e.Deps.Data.length : Int)) (e.Deps.Way.length : Int)) == 0) = true then
            if (decide (e.Pred ≥ 0)) = true then
             if (decide (e.Pred ≤ 15)) = true then
              if (decide (e.Succ ≥ 0)) = true then
               (ref_Check2_C1 n (decide (e.Succ ≤ 15))).bind fun t15 =>
               some t15
              else
               (ref_Check2_C1 n false).bind fun t15 =>
               some t15
             else
              (ref_Check2_C1 n false).bind fun t14 =>
              some t14
            else
             (ref_Check2_C1 n false).bind fun t13 =>
             some t13
           else
            (ref_Check2_C1 n false).bind fun t12 =>
            some t12
          else
           (ref_Check2_C1 n false).bind fun t11 =>
           some t11
         else
          (ref_Check2_C1 n false).bind fun t10 =>
          some t10
        else
         (ref_Check2_C1 n false).bind fun t9 =>
         some t9
       else
        (ref_Check2_C1 n false).bind fun t8 =>
        some t8
      else
       (ref_Check2_C1 n false).bind fun t7 =>
       some t7
     else
      (ref_Check2_C1 n false).bind fun t6 =>
      some t6
    else
     (ref_Check2_C1 n false).bind fun t5 =>
     some t5
   else
    if (decide (e.At ≥ 0)) = true then
     (ref_Memory n e).bind fun y5 =>
     if y5 = true then
      if ((remW .u64 e.Addr 8) == 0) = true then
       (ref_Reads n e).bind fun y8 =>
       if y8 = true then
        (ref_Writes n e).bind fun y10 =>
        if y10 = true then
         if (e.Pred == 0) = true then
          (ref_Check2_C2 n e (e.Succ == 0)).bind fun t13 =>
          (ref_Check2_C1 n t13).bind fun t14 =>
          some t14
         else
          (ref_Check2_C2 n e false).bind fun t13 =>
          (ref_Check2_C1 n t13).bind fun t14 =>
          some t14
        else
         if (e.Store == 0) = true then
          if (e.Pred == 0) = true then
           (ref_Check2_C2 n e (e.Succ == 0)).bind fun t14 =>
           (ref_Check2_C1 n t14).bind fun t15 =>
           some t15
          else
           (ref_Check2_C2 n e false).bind fun t14 =>
           (ref_Check2_C1 n t14).bind fun t15 =>
           some t15
         else
          (ref_Check2_C2 n e false).bind fun t13 =>
          (ref_Check2_C1 n t13).bind fun t14 =>
          some t14
       else
        if (e.Load == 0) = true then
         (ref_Writes n e).bind fun y11 =>
         if y11 = true then
          if (e.Pred == 0) = true then
           (ref_Check2_C2 n e (e.Succ == 0)).bind fun t14 =>
           (ref_Check2_C1 n t14).bind fun t15 =>
           some t15
          else
           (ref_Check2_C2 n e false).bind fun t14 =>
           (ref_Check2_C1 n t14).bind fun t15 =>
           some t15
         else
          if (e.Store == 0) = true then
           if (e.Pred == 0) = true then
            (ref_Check2_C2 n e (e.Succ == 0)).bind fun t15 =>
            (ref_Check2_C1 n t15).bind fun t16 =>
            some t16
           else
            (ref_Check2_C2 n e false).bind fun t15 =>
            (ref_Check2_C1 n t15).bind fun t16 =>
            some t16
          else
           (ref_Check2_C2 n e false).bind fun t14 =>
           (ref_Check2_C1 n t14).bind fun t15 =>
           some t15
        else
         (ref_Check2_C2 n e false).bind fun t11 =>
         (ref_Check2_C1 n t11).bind fun t12 =>
         some t12
      else
       (ref_Check2_C2 n e false).bind fun t8 =>
       (ref_Check2_C1 n t8).bind fun t9 =>
       some t9
     else
      (ref_Check2_C2 n e false).bind fun t7 =>
      (ref_Check2_C1 n t7).bind fun t8 =>
      some t8
    else
     (ref_Check2_C2 n e false).bind fun t5 =>
     (ref_Check2_C1 n t5).bind fun t6 =>
     some t6
  else
   if (e.Kind == 6) = true then
    (ref_Check2_C1 n false).bind fun t4 =>
    some t4
   else
    (ref_Check2_C2 n e false).bind fun t4 =>
    (ref_Check2_C1 n t4).bind fun t5 =>
    some t5
 else
  if (e.Kind == 6) = true then
   (ref_Check2_C1 n false).bind fun t3 =>
   some t3
  else
   (ref_Check2_C2 n e false).bind fun t3 =>
   (ref_Check2_C1 n t3).bind fun t4 =>
   some t4
def ref_Row_L2 (n : Nat) (hart : Int) (l : (List Event)) (xa2 : Event) (xa8 : Event) (sb : Int × Bool × Int × Int) : Option ((Int × Bool × Int × Int) ⊕ ((Int × Bool × Int) ⊕ Unit)) :=
 if (decide (sb.2.2.2 < sb.2.2.1)) = true then
  (getI l sb.2.2.2).bind fun xb2 =>
  if (xb2.Kind == 3) = true then
   some (.inr (.inr ()))
  else
   if (xb2.Kind == 4) = true then
    some (.inr (.inr ()))
   else
    some (.inl (sb.1, sb.2.1, sb.2.2.1, (addW .i64 sb.2.2.2 1)))
 else
  some (.inr (.inl (sb.1, sb.2.1, sb.2.2.1)))
def ref_Row_L1 (n : Nat) (hart : Int) (l : (List Event)) (sa : Int) : Option (Int ⊕ (Unit ⊕ Unit)) :=
 if (decide (sa < (l.length : Int))) = true then
  (getI l sa).bind fun xa2 =>
  (ref_Check2 n xa2).bind fun ya3 =>
  if (ya3 != 0) = true then
   some (.inr (.inr ()))
  else
   if (xa2.Hart != hart) = true then
    some (.inr (.inr ()))
   else
    if (xa2.At != sa) = true then
     some (.inr (.inr ()))
    else
     if (xa2.Kind != 4) = true then
      some (.inl (addW .i64 sa 1))
     else
      (getI l xa2.Pair).bind fun xa8 =>
      if (xa8.Kind != 3) = true then
       some (.inr (.inr ()))
      else
       if (xa8.Addr != xa2.Addr) = true then
        some (.inr (.inr ()))
       else
        (iter (fun s => ref_Row_L2 n hart l xa2 xa8 s) n (sa, (xa2.At != sa), sa, (addW .i64 xa2.Pair 1))).bind fun ta11 =>
        match ta11 with
        | .inl wa12 =>
         some (.inl (addW .i64 wa12.2.2 1))
        | .inr wa12 =>
         some (.inr (.inr ()))
 else
  some (.inr (.inl ()))
def ref_Row (n : Nat) (hart : Int) (l : (List Event)) : Option Int :=
 (iter (fun s => ref_Row_L1 n hart l s) n 0).bind fun t1 =>
 match t1 with
 | .inl w2 =>
  some 0
 | .inr w2 =>
  some 4
def ref_Copy (n : Nat) (d : Deps) : Option Deps :=
 grd (Nat.ble (d.Addr.length * 8) 140737488355328) <|
 grd (Nat.ble (d.Data.length * 8) 140737488355328) <|
 grd (Nat.ble (d.Way.length * 8) 140737488355328) <|
 some d
def ref_flat_L2 (n : Nat) (c : Cand) (sb : (List Event) × Int × Int) : Option (((List Event) × Int × Int) ⊕ ((List Event) × Int)) :=
 (getI c.Harts sb.2.1).bind fun xb1 =>
 if (decide (sb.2.2 < (xb1.length : Int))) = true then
  (getI xb1 sb.2.2).bind fun xb3 =>
  (ref_Copy n xb3.Deps).bind fun yb4 =>
  grd (Nat.ble ((sb.1.length + 1) * 152) 140737488355328) <|
  some (.inl ((sb.1 ++ ([(Event.mk xb3.Hart xb3.At xb3.Kind xb3.Addr xb3.Load xb3.Store xb3.Aq xb3.Rl xb3.Pred xb3.Succ xb3.Pair yb4)] : List Event)), sb.2.1, (addW .i64 sb.2.2 1)))
 else
  some (.inr (sb.1, sb.2.1))
def ref_flat_L1 (n : Nat) (c : Cand) (sa : (List Event) × Int) : Option (((List Event) × Int) ⊕ ((List Event))) :=
 if (decide (sa.2 < (c.Harts.length : Int))) = true then
  (iter (fun s => ref_flat_L2 n c s) n (sa.1, sa.2, 0)).bind fun ta2 =>
  some (.inl (ta2.1, (addW .i64 ta2.2 1)))
 else
  some (.inr sa.1)
def ref_flat (n : Nat) (c : Cand) : Option (List Event) :=
 (iter (fun s => ref_flat_L1 n c s) n (([] : List Event), 0)).bind fun t1 =>
 some t1
def ref_first_L1 (n : Nat) (l : (List Cell)) (addr : Int) (sa : Int) : Option (Int ⊕ (Unit ⊕ Int)) :=
 if (decide (sa < (l.length : Int))) = true then
  (getI l sa).bind fun xa2 =>
  if (xa2.Addr == addr) = true then
   some (.inr (.inr xa2.Value))
  else
   some (.inl (addW .i64 sa 1))
 else
  some (.inr (.inl ()))
def ref_first (n : Nat) (l : (List Cell)) (addr : Int) : Option Int :=
 (iter (fun s => ref_first_L1 n l addr s) n 0).bind fun t1 =>
 match t1 with
 | .inl w2 =>
  some 0
 | .inr w2 =>
  some w2
def ref_from (n : Nat) (c : Cand) (all : (List Event)) (n_ : Int) : Option Bool :=
 (getI all n_).bind fun x1 =>
 (getI c.From n_).bind fun x2 =>
 (ref_Reads n x1).bind fun y3 =>
 if (!y3) = true then
  some (x2 == (-1))
 else
  if (x2 == (-1)) = true then
   (ref_first n c.First x1.Addr).bind fun y6 =>
   some (x1.Load == y6)
  else
   if (decide (x2 < 0)) = true then
    some false
   else
    if (decide (x2 ≥ (all.length : Int))) = true then
     some false
    else
     if (x2 == n_) = true then
      some false
     else
      (getI all x2).bind fun x9 =>
      (ref_Writes n x9).bind fun y10 =>
      if y10 = true then
       if (x9.Addr == x1.Addr) = true then
        some (x9.Store == x1.Load)
       else
        some false
      else
       some false
def ref_Check_L1 (n : Nat) (c : Cand) (sa : Int × Int) : Option ((Int × Int) ⊕ (Int ⊕ Unit)) :=
 if (decide (sa.2 < (c.Harts.length : Int))) = true then
  (getI c.Harts sa.2).bind fun xa2 =>
  if (decide ((addW .i64 sa.1 (xa2.length : Int)) > 4096)) = true then
   some (.inr (.inr ()))
  else
   (ref_Row n sa.2 xa2).bind fun ya4 =>
   if (ya4 != 0) = true then
    some (.inr (.inr ()))
   else
    some (.inl ((addW .i64 sa.1 (xa2.length : Int)), (addW .i64 sa.2 1)))
 else
  some (.inr (.inl sa.1))
def ref_Check_L2 (n : Nat) (c : Cand) (w6 : Int) (y7 : (List Event)) (sa : Int × Int) : Option ((Int × Int) ⊕ (Int ⊕ Unit)) :=
 if (decide (sa.2 < w6)) = true then
  (ref_from n c y7 sa.2).bind fun ya2 =>
  if (!ya2) = true then
   some (.inr (.inr ()))
  else
   (getI y7 sa.2).bind fun xa4 =>
   (ref_Memory n xa4).bind fun ya5 =>
   if ya5 = true then
    some (.inl ((addW .i64 sa.1 1), (addW .i64 sa.2 1)))
   else
    some (.inl (sa.1, (addW .i64 sa.2 1)))
 else
  some (.inr (.inl sa.1))
def ref_Check_L3 (n : Nat) (c : Cand) (w6 : Int) (y7 : (List Event)) (w10 : Int) (sa : (List Bool) × Int) : Option (((List Bool) × Int) ⊕ (Unit ⊕ Unit)) :=
 if (decide (sa.2 < (c.Order.length : Int))) = true then
  (getI c.Order sa.2).bind fun xa2 =>
  if (decide (xa2 < 0)) = true then
   some (.inr (.inr ()))
  else
   if (decide (xa2 ≥ w6)) = true then
    some (.inr (.inr ()))
   else
    (getI sa.1 xa2).bind fun xa5 =>
    if xa5 = true then
     some (.inr (.inr ()))
    else
     (getI y7 xa2).bind fun xa7 =>
     (ref_Memory n xa7).bind fun ya8 =>
     if (!ya8) = true then
      some (.inr (.inr ()))
     else
      some (.inl ((sa.1.set (xa2).toNat true), (addW .i64 sa.2 1)))
 else
  some (.inr (.inl ()))
def ref_Check (n : Nat) (c : Cand) : Option Int :=
 (ref_Cells n c.First).bind fun y1 =>
 if (!y1) = true then
  some 2
 else
  if (decide ((c.Harts.length : Int) < 1)) = true then
   some 2
  else
   if (decide ((c.Harts.length : Int) > 8)) = true then
    some 2
   else
    (iter (fun s => ref_Check_L1 n c s) n (0, 0)).bind fun t5 =>
    match t5 with
    | .inl w6 =>
     (ref_flat n c).bind fun y7 =>
     if ((c.From.length : Int) != w6) = true then
      some 2
     else
      (iter (fun s => ref_Check_L2 n c w6 y7 s) n (0, 0)).bind fun t9 =>
      match t9 with
      | .inl w10 =>
       grd (decide (0 ≤ w6) && decide (w6 ≤ w6) && decide (1 * w6 ≤ 140737488355328) && decide (w6 ≤ 140737488355328) && Nat.blt 0 1) <|
       (iter (fun s => ref_Check_L3 n c w6 y7 w10 s) n ((List.replicate (w6).toNat false), 0)).bind fun t12 =>
       match t12 with
       | .inl w13 =>
        if ((c.Order.length : Int) != w10) = true then
         some 2
        else
         some 0
       | .inr w13 =>
        some 2
      | .inr w10 =>
       some 2
    | .inr w6 =>
     some 2
def kit_Pick (n : Nat) (n_ : Int) (m : Int) : Option Int :=
 if (decide (m < 1)) = true then
  some 0
 else
  grd (decide (IntKind.i64 = IntKind.i64) && !(m == 0)) <|
  if (decide ((remW .i64 n_ m) < 0)) = true then
   some (addW .i64 (remW .i64 n_ m) m)
  else
   some (remW .i64 n_ m)
def kit_Own_Cell (n : Nat) (l : (List Cell)) : Option (List Cell) :=
 grd (Nat.ble (l.length * 16) 140737488355328) <|
 some l
def kit_Own_int (n : Nat) (l : (List Int)) : Option (List Int) :=
 grd (Nat.ble (l.length * 8) 140737488355328) <|
 some l
def kit_OwnDeps (n : Nat) (d : Deps) : Option Deps :=
 (kit_Own_int n d.Addr).bind fun y1 =>
 (kit_Own_int n d.Data).bind fun y2 =>
 (kit_Own_int n d.Way).bind fun y3 =>
 some (Deps.mk y1 y2 y3)
def kit_OwnEvent (n : Nat) (e : Event) : Option Event :=
 (kit_OwnDeps n e.Deps).bind fun y1 =>
 some (Event.mk e.Hart e.At e.Kind e.Addr e.Load e.Store e.Aq e.Rl e.Pred e.Succ e.Pair y1)
def kit_OwnEvents_L1 (n : Nat) (l : (List Event)) (sa : (List Event) × Int) : Option (((List Event) × Int) ⊕ ((List Event))) :=
 if (decide (sa.2 < (l.length : Int))) = true then
  (getI l sa.2).bind fun xa2 =>
  (kit_OwnEvent n xa2).bind fun ya3 =>
  grd (Nat.ble ((sa.1.length + 1) * 152) 140737488355328) <|
  some (.inl ((sa.1 ++ ([ya3] : List Event)), (addW .i64 sa.2 1)))
 else
  some (.inr sa.1)
def kit_OwnEvents (n : Nat) (l : (List Event)) : Option (List Event) :=
 (iter (fun s => kit_OwnEvents_L1 n l s) n (([] : List Event), 0)).bind fun t1 =>
 some t1
def kit_OwnCand_L1 (n : Nat) (c : Cand) (y1 : (List Cell)) (y2 : (List Int)) (y3 : (List Int)) (sa : (List (List Event)) × Int) : Option (((List (List Event)) × Int) ⊕ ((List (List Event)))) :=
 if (decide (sa.2 < (c.Harts.length : Int))) = true then
  (getI c.Harts sa.2).bind fun xa2 =>
  (kit_OwnEvents n xa2).bind fun ya3 =>
  grd (Nat.ble ((sa.1.length + 1) * 24) 140737488355328) <|
  some (.inl ((sa.1 ++ ([ya3] : List (List Event))), (addW .i64 sa.2 1)))
 else
  some (.inr sa.1)
def kit_OwnCand (n : Nat) (c : Cand) : Option Cand :=
 (kit_Own_Cell n c.First).bind fun y1 =>
 (kit_Own_int n c.From).bind fun y2 =>
 (kit_Own_int n c.Order).bind fun y3 =>
 (iter (fun s => kit_OwnCand_L1 n c y1 y2 y3 s) n (([] : List (List Event)), 0)).bind fun t4 =>
 some (Cand.mk y1 t4 y2 y3)
def ppo_Pairs_L2 (n : Nat) (z2 : ppo_view) (xa2 : Event) (sb : (List (Arr2 Int)) × Int × Int × Int) : Option (((List (Arr2 Int)) × Int × Int × Int) ⊕ ((List (Arr2 Int)) × Int)) :=
 if (decide (sb.2.2.2 < (z2.all.length : Int))) = true then
  (getI z2.all sb.2.2.2).bind fun xb2 =>
  if (xb2.Hart == xa2.Hart) = true then
   (ppo_view_rule2 n z2 sb.2.2.1 sb.2.2.2).bind fun yb4 =>
   if (decide (yb4 > 0)) = true then
    grd (Nat.ble ((sb.1.length + 1) * 16) 140737488355328) <|
    some (.inl ((sb.1 ++ ([(Arr2.mk sb.2.2.1 sb.2.2.2)] : List (Arr2 Int))), sb.2.1, sb.2.2.1, (addW .i64 sb.2.2.2 1)))
   else
    some (.inl (sb.1, sb.2.1, sb.2.2.1, (addW .i64 sb.2.2.2 1)))
  else
   some (.inr (sb.1, sb.2.1))
 else
  some (.inr (sb.1, sb.2.1))
def ppo_Pairs_L1 (n : Nat) (z2 : ppo_view) (sa : (List (Arr2 Int)) × Int) : Option (((List (Arr2 Int)) × Int) ⊕ ((List (Arr2 Int)))) :=
 if (decide (sa.2 < (z2.all.length : Int))) = true then
  (getI z2.all sa.2).bind fun xa2 =>
  (iter (fun s => ppo_Pairs_L2 n z2 xa2 s) n (sa.1, sa.2, sa.2, (addW .i64 sa.2 1))).bind fun ta3 =>
  some (.inl (ta3.1, (addW .i64 ta3.2 1)))
 else
  some (.inr sa.1)
def ppo_Pairs (n : Nat) (c : Cand) : Option (List (Arr2 Int)) :=
 (ppo_of n c).bind fun y1 =>
 match y1 with
 | none =>
  some ([] : List (Arr2 Int))
 | some z2 =>
  (iter (fun s => ppo_Pairs_L1 n z2 s) n (([] : List (Arr2 Int)), 0)).bind fun t3 =>
  some t3
def ref_All (n : Nat) (c : Cand) : Option (List Event) :=
 (ref_Check n c).bind fun y1 =>
 if (y1 != 0) = true then
  some ([] : List Event)
 else
  (ref_flat n c).bind fun y3 =>
  some y3
def ref_Of (n : Nat) (c : Cand) : Option (fencepostref10_View × Bool) :=
 (ref_All n c).bind fun y1 =>
 (ref_Check n c).bind fun y2 =>
 some ((fencepostref10_View.mk c y1), (y2 == 0))
def ref_View_ahead (n : Nat) (v : fencepostref10_View) (a : Int) (b : Int) : Option Bool :=
 if (decide (a < 0)) = true then
  some false
 else
  if (decide (b < 0)) = true then
   some false
  else
   if (decide (a ≥ (v.All.length : Int))) = true then
    some false
   else
    if (decide (b ≥ (v.All.length : Int))) = true then
     some false
    else
     (getI v.All a).bind fun x5 =>
     (getI v.All b).bind fun x6 =>
     if (x5.Hart == x6.Hart) = true then
      if (decide (x5.At < x6.At)) = true then
       (ref_Memory n x5).bind fun y9 =>
       if y9 = true then
        (ref_Memory n x6).bind fun y11 =>
        some y11
       else
        some false
      else
       some false
     else
      some false
def ref_side (n : Nat) (part : Int) (e : Event) : Option Bool :=
 if ((remW .i64 (quoW .i64 part 2) 2) == 1) = true then
  (ref_Reads n e).bind fun y2 =>
  if y2 = true then
   some true
  else
   if ((remW .i64 (quoW .i64 part 1) 2) == 1) = true then
    (ref_Writes n e).bind fun y5 =>
    some y5
   else
    some false
 else
  if ((remW .i64 (quoW .i64 part 1) 2) == 1) = true then
   (ref_Writes n e).bind fun y3 =>
   some y3
  else
   some false
def ref_in_L1 (n : Nat) (l : (List Int)) (n_ : Int) (sa : Int) : Option (Int ⊕ (Unit ⊕ Unit)) :=
 if (decide (sa < (l.length : Int))) = true then
  (getI l sa).bind fun xa2 =>
  if (xa2 == n_) = true then
   some (.inr (.inr ()))
  else
   some (.inl (addW .i64 sa 1))
 else
  some (.inr (.inl ()))
def ref_in (n : Nat) (l : (List Int)) (n_ : Int) : Option Bool :=
 (iter (fun s => ref_in_L1 n l n_ s) n 0).bind fun t1 =>
 match t1 with
 | .inl w2 =>
  some false
 | .inr w2 =>
  some true
def ref_View_Holds_L1 (n : Nat) (v : fencepostref10_View) (a : Int) (b : Int) (x3 : Event) (x4 : Event) (sa : Int) : Option (Int ⊕ (Unit ⊕ Unit)) :=
 if (decide (sa < b)) = true then
  (getI v.All sa).bind fun xa2 =>
  (ref_Writes n xa2).bind fun ya3 =>
  if ya3 = true then
   if (xa2.Addr == x3.Addr) = true then
    some (.inr (.inr ()))
   else
    some (.inl (addW .i64 sa 1))
  else
   some (.inl (addW .i64 sa 1))
 else
  some (.inr (.inl ()))
def ref_View_Holds_L2 (n : Nat) (v : fencepostref10_View) (b : Int) (x3 : Event) (x4 : Event) (sa : Int) : Option (Int ⊕ (Unit ⊕ Unit)) :=
 if (decide (sa < b)) = true then
  (getI v.All sa).bind fun xa2 =>
  if (xa2.Kind == 6) = true then
   (ref_side n xa2.Pred x3).bind fun ya4 =>
   if ya4 = true then
    (ref_side n xa2.Succ x4).bind fun ya6 =>
    if ya6 = true then
     some (.inr (.inr ()))
    else
     some (.inl (addW .i64 sa 1))
   else
    some (.inl (addW .i64 sa 1))
  else
   some (.inl (addW .i64 sa 1))
 else
  some (.inr (.inl ()))
def ref_View_Holds_L3 (n : Nat) (v : fencepostref10_View) (b : Int) (x3 : Event) (x4 : Event) (sa : Int) : Option (Int ⊕ (Unit ⊕ Unit)) :=
 if (decide (sa < b)) = true then
  (getI v.All sa).bind fun xa2 =>
  (ref_Reads n x4).bind fun ya3 =>
  if ya3 = true then
   (getI v.C_.From b).bind fun xa5 =>
   if (xa5 == sa) = true then
    (ref_Writes n xa2).bind fun ya7 =>
    if ya7 = true then
     (ref_in n xa2.Deps.Addr x3.At).bind fun ya9 =>
     if ya9 = true then
      some (.inr (.inr ()))
     else
      (ref_in n xa2.Deps.Data x3.At).bind fun ya11 =>
      if ya11 = true then
       some (.inr (.inr ()))
      else
       some (.inl (addW .i64 sa 1))
    else
     some (.inl (addW .i64 sa 1))
   else
    some (.inl (addW .i64 sa 1))
  else
   some (.inl (addW .i64 sa 1))
 else
  some (.inr (.inl ()))
def ref_View_Holds_L4 (n : Nat) (v : fencepostref10_View) (b : Int) (x3 : Event) (x4 : Event) (sa : Int) : Option (Int ⊕ (Unit ⊕ Unit)) :=
 if (decide (sa < b)) = true then
  (getI v.All sa).bind fun xa2 =>
  (ref_Writes n x4).bind fun ya3 =>
  if ya3 = true then
   (ref_Memory n xa2).bind fun ya5 =>
   if ya5 = true then
    (ref_in n xa2.Deps.Addr x3.At).bind fun ya7 =>
    if ya7 = true then
     some (.inr (.inr ()))
    else
     some (.inl (addW .i64 sa 1))
   else
    some (.inl (addW .i64 sa 1))
  else
   some (.inl (addW .i64 sa 1))
 else
  some (.inr (.inl ()))
def ref_View_Holds (n : Nat) (v : fencepostref10_View) (a : Int) (b : Int) (rule : Int) : Option Bool :=
 (ref_View_ahead n v a b).bind fun y1 =>
 if (!y1) = true then
  some false
 else
  (getI v.All a).bind fun x3 =>
  (getI v.All b).bind fun x4 =>
  if (rule == 1) = true then
   (ref_Writes n x4).bind fun y6 =>
   if y6 = true then
    some (x3.Addr == x4.Addr)
   else
    some false
  else
   if (rule == 2) = true then
    (iter (fun s => ref_View_Holds_L1 n v a b x3 x4 s) n (addW .i64 a 1)).bind fun t7 =>
    match t7 with
    | .inl w8 =>
     (ref_Reads n x3).bind fun y9 =>
     if y9 = true then
      (ref_Reads n x4).bind fun y11 =>
      if y11 = true then
       if (x3.Addr == x4.Addr) = true then
        (getI v.C_.From a).bind fun x14 =>
        (getI v.C_.From b).bind fun x15 =>
        some (x14 != x15)
       else
        some false
      else
       some false
     else
      some false
    | .inr w8 =>
     some false
   else
    if (rule == 3) = true then
     if (x3.Kind == 4) = true then
      (ref_Reads n x4).bind fun y9 =>
      if y9 = true then
       (getI v.C_.From b).bind fun x11 =>
       some (x11 == a)
      else
       some false
     else
      if (x3.Kind == 5) = true then
       (ref_Reads n x4).bind fun y10 =>
       if y10 = true then
        (getI v.C_.From b).bind fun x12 =>
        some (x12 == a)
       else
        some false
      else
       some false
    else
     if (rule == 4) = true then
      (iter (fun s => ref_View_Holds_L2 n v b x3 x4 s) n (addW .i64 a 1)).bind fun t9 =>
      match t9 with
      | .inl w10 =>
       some false
      | .inr w10 =>
       some true
     else
      if (rule == 5) = true then
       some x3.Aq
      else
       if (rule == 6) = true then
        some x4.Rl
       else
        if (rule == 7) = true then
         if x3.Aq = true then
          if x4.Aq = true then
           some true
          else
           some x4.Rl
         else
          if x3.Rl = true then
           if x4.Aq = true then
            some true
           else
            some x4.Rl
          else
           some false
        else
         if (rule == 8) = true then
          if (x4.Kind == 4) = true then
           some (x4.Pair == x3.At)
          else
           some false
         else
          if (rule == 9) = true then
           (ref_in n x4.Deps.Addr x3.At).bind fun y14 =>
           some y14
          else
           if (rule == 10) = true then
            (ref_in n x4.Deps.Data x3.At).bind fun y15 =>
            some y15
           else
            if (rule == 11) = true then
             (ref_Writes n x4).bind fun y16 =>
             if y16 = true then
              (ref_in n x4.Deps.Way x3.At).bind fun y18 =>
              some y18
             else
              some false
            else
             if (rule == 12) = true then
              (iter (fun s => ref_View_Holds_L3 n v b x3 x4 s) n (addW .i64 a 1)).bind fun t17 =>
              match t17 with
              | .inl w18 =>
               some false
              | .inr w18 =>
               some true
             else
              if (rule == 13) = true then
               (iter (fun s => ref_View_Holds_L4 n v b x3 x4 s) n (addW .i64 a 1)).bind fun t18 =>
               match t18 with
               | .inl w19 =>
                some false
               | .inr w19 =>
                some true
              else
               some false
def ref_View_Rule_L1 (n : Nat) (v : fencepostref10_View) (a : Int) (b : Int) (sa : Int) : Option (Int ⊕ (Unit ⊕ Int)) :=
 if (decide (sa ≤ 13)) = true then
  (ref_View_Holds n v a b sa).bind fun ya2 =>
  if ya2 = true then
   some (.inr (.inr sa))
  else
   some (.inl (addW .i64 sa 1))
 else
  some (.inr (.inl ()))
def ref_View_Rule (n : Nat) (v : fencepostref10_View) (a : Int) (b : Int) : Option Int :=
 (iter (fun s => ref_View_Rule_L1 n v a b s) n 1).bind fun t1 =>
 match t1 with
 | .inl w2 =>
  some 0
 | .inr w2 =>
  some w2
def ref_Pairs_L2 (n : Nat) (y1 : fencepostref10_View × Bool) (sb : (List (Arr2 Int)) × Int × Int) : Option (((List (Arr2 Int)) × Int × Int) ⊕ ((List (Arr2 Int)) × Int)) :=
 if (decide (sb.2.2 < (y1.1.All.length : Int))) = true then
  (getI y1.1.All sb.2.2).bind fun xb2 =>
  (getI y1.1.All sb.2.1).bind fun xb3 =>
  if (xb2.Hart == xb3.Hart) = true then
   (ref_View_Rule n y1.1 sb.2.1 sb.2.2).bind fun yb5 =>
   if (decide (yb5 > 0)) = true then
    grd (Nat.ble ((sb.1.length + 1) * 16) 140737488355328) <|
    some (.inl ((sb.1 ++ ([(Arr2.mk sb.2.1 sb.2.2)] : List (Arr2 Int))), sb.2.1, (addW .i64 sb.2.2 1)))
   else
    some (.inl (sb.1, sb.2.1, (addW .i64 sb.2.2 1)))
  else
   some (.inr (sb.1, sb.2.1))
 else
  some (.inr (sb.1, sb.2.1))
def ref_Pairs_L1 (n : Nat) (y1 : fencepostref10_View × Bool) (sa : (List (Arr2 Int)) × Int) : Option (((List (Arr2 Int)) × Int) ⊕ ((List (Arr2 Int)))) :=
 if (decide (sa.2 < (y1.1.All.length : Int))) = true then
  if y1.2 = true then
   (iter (fun s => ref_Pairs_L2 n y1 s) n (sa.1, sa.2, (addW .i64 sa.2 1))).bind fun ta3 =>
   some (.inl (ta3.1, (addW .i64 ta3.2 1)))
  else
   some (.inr sa.1)
 else
  some (.inr sa.1)
def ref_Pairs (n : Nat) (c : Cand) : Option (List (Arr2 Int)) :=
 (ref_Of n c).bind fun y1 =>
 (iter (fun s => ref_Pairs_L1 n y1 s) n (([] : List (Arr2 Int)), 0)).bind fun t2 =>
 some t2
def kit_Same_2_int_L1 (n : Nat) (a : (List (Arr2 Int))) (b : (List (Arr2 Int))) (sa : Int) : Option (Int ⊕ (Unit ⊕ Unit)) :=
 if (decide (sa < (a.length : Int))) = true then
  (getI a sa).bind fun xa2 =>
  (getI b sa).bind fun xa3 =>
  if (!(arr36_beq xa2 xa3)) = true then
   some (.inr (.inr ()))
  else
   some (.inl (addW .i64 sa 1))
 else
  some (.inr (.inl ()))
def kit_Same_2_int (n : Nat) (a : (List (Arr2 Int))) (b : (List (Arr2 Int))) : Option Bool :=
 if ((a.length : Int) != (b.length : Int)) = true then
  some false
 else
  (iter (fun s => kit_Same_2_int_L1 n a b s) n 0).bind fun t2 =>
  match t2 with
  | .inl w3 =>
   some true
  | .inr w3 =>
   some false
def ref_Rule (n : Nat) (c : Cand) (a : Int) (b : Int) : Option Int :=
 (ref_Of n c).bind fun y1 =>
 if (!y1.2) = true then
  some 0
 else
  (ref_View_Rule n y1.1 a b).bind fun y3 =>
  some y3
def ppo_Holds (n : Nat) (c : Cand) (a : Int) (b : Int) (rule : Int) : Option Bool :=
 (ppo_of n c).bind fun y1 =>
 match y1 with
 | none =>
  (ppo_rules n).bind fun y2 =>
  if (decide (rule < 1)) = true then
   some false
  else
   if (decide (rule > 13)) = true then
    some false
   else
    (ppo_view_ahead n a b).bind fun y5 =>
    if (!y5) = true then
     some false
    else
     if ((subW .i64 rule 1) == 0) = true then
      none
     else
      if ((subW .i64 rule 1) == 1) = true then
       none
      else
       if ((subW .i64 rule 1) == 2) = true then
        none
       else
        if ((subW .i64 rule 1) == 3) = true then
         none
        else
         if ((subW .i64 rule 1) == 4) = true then
          none
         else
          if ((subW .i64 rule 1) == 5) = true then
           none
          else
           if ((subW .i64 rule 1) == 6) = true then
            none
           else
            if ((subW .i64 rule 1) == 7) = true then
             none
            else
             if ((subW .i64 rule 1) == 8) = true then
              none
             else
              if ((subW .i64 rule 1) == 9) = true then
               none
              else
               if ((subW .i64 rule 1) == 10) = true then
                none
               else
                if ((subW .i64 rule 1) == 11) = true then
                 none
                else
                 if ((subW .i64 rule 1) == 12) = true then
                  none
                 else
                  none
 | some z2 =>
  (ppo_rules n).bind fun y3 =>
  if (decide (rule < 1)) = true then
   some false
  else
   if (decide (rule > 13)) = true then
    some false
   else
    (ppo_view_ahead2 n z2 a b).bind fun y6 =>
    if (!y6) = true then
     some false
    else
     if ((subW .i64 rule 1) == 0) = true then
      (getI z2.all a).bind fun x9 =>
      (getI z2.all b).bind fun x10 =>
      (ppo_rules_1 n z2 a b x9 x10).bind fun y11 =>
      some y11
     else
      if ((subW .i64 rule 1) == 1) = true then
       (getI z2.all a).bind fun x9 =>
       (getI z2.all b).bind fun x10 =>
       (ppo_rules_2 n z2 a b x9 x10).bind fun y11 =>
       some y11
      else
       if ((subW .i64 rule 1) == 2) = true then
        (getI z2.all a).bind fun x9 =>
        (getI z2.all b).bind fun x10 =>
        (ppo_rules_3 n z2 a b x9 x10).bind fun y11 =>
        some y11
       else
        if ((subW .i64 rule 1) == 3) = true then
         (getI z2.all a).bind fun x9 =>
         (getI z2.all b).bind fun x10 =>
         (ppo_rules_4 n z2 a b x9 x10).bind fun y11 =>
         some y11
        else
         if ((subW .i64 rule 1) == 4) = true then
          (getI z2.all a).bind fun x9 =>
          (getI z2.all b).bind fun x10 =>
          (ppo_rules_5 n z2 a b x9 x10).bind fun y11 =>
          some y11
         else
          if ((subW .i64 rule 1) == 5) = true then
           (getI z2.all a).bind fun x9 =>
           (getI z2.all b).bind fun x10 =>
           (ppo_rules_6 n z2 a b x9 x10).bind fun y11 =>
           some y11
          else
           if ((subW .i64 rule 1) == 6) = true then
            (getI z2.all a).bind fun x9 =>
            (getI z2.all b).bind fun x10 =>
            (ppo_rules_7 n z2 a b x9 x10).bind fun y11 =>
            some y11
           else
            if ((subW .i64 rule 1) == 7) = true then
             (getI z2.all a).bind fun x9 =>
             (getI z2.all b).bind fun x10 =>
             (ppo_rules_8 n z2 a b x9 x10).bind fun y11 =>
             some y11
            else
             if ((subW .i64 rule 1) == 8) = true then
              (getI z2.all a).bind fun x9 =>
              (getI z2.all b).bind fun x10 =>
              (ppo_rules_9 n z2 a b x9 x10).bind fun y11 =>
              some y11
             else
              if ((subW .i64 rule 1) == 9) = true then
               (getI z2.all a).bind fun x9 =>
               (getI z2.all b).bind fun x10 =>
               (ppo_rules_10 n z2 a b x9 x10).bind fun y11 =>
               some y11
              else
               if ((subW .i64 rule 1) == 10) = true then
                (getI z2.all a).bind fun x9 =>
                (getI z2.all b).bind fun x10 =>
                (ppo_rules_11 n z2 a b x9 x10).bind fun y11 =>
                some y11
               else
                if ((subW .i64 rule 1) == 11) = true then
                 (getI z2.all a).bind fun x9 =>
                 (getI z2.all b).bind fun x10 =>
                 (ppo_rules_12 n z2 a b x9 x10).bind fun y11 =>
                 some y11
                else
                 if ((subW .i64 rule 1) == 12) = true then
                  (getI z2.all a).bind fun x9 =>
                  (getI z2.all b).bind fun x10 =>
                  (ppo_rules_13 n z2 a b x9 x10).bind fun y11 =>
                  some y11
                 else
                  none
def ref_Holds (n : Nat) (c : Cand) (a : Int) (b : Int) (rule : Int) : Option Bool :=
 (ref_Of n c).bind fun y1 =>
 if y1.2 = true then
  (ref_View_Holds n y1.1 a b rule).bind fun y3 =>
  some y3
 else
  some false
def ppo_view_leads (n : Nat) (a : Int) (b : Int) : Option Bool :=
 (ppo_view_ahead n a b).bind fun y1 =>
 if (!y1) = true then
  some false
 else
  none
def ppo_set_put_S (n : Nat) (n_ : Int) (ob : (List Int)) : Option (List Int) :=
 (getI ob (quoW .i64 n_ 64)).bind fun x1 =>
 grd (decide (0 ≤ (remW .i64 n_ 64))) <|
 some (ob.set ((quoW .i64 n_ 64)).toNat (orW .u64 x1 (shlW .u64 1 (remW .i64 n_ 64))))
def math_bits_OnesCount64 (n : Nat) (x : Int) : Option Int :=
 some (andW .i64 (IntKind.wrap .i64 (addW .u64 (addW .u64 (addW .u64 (andW .u64 (addW .u64 (shrW .u64 (addW .u64 (andW .u64 (shrW .u64 (addW .u64 (andW .u64 (shrW .u64 x 1) 6148914691236517205) (andW .u64 x 6148914691236517205)) 2) 3689348814741910323) (andW .u64 (addW .u64 (andW .u64 (shrW .u64 x 1) 6148914691236517205) (andW .u64 x 6148914691236517205)) 3689348814741910323)) 4) (addW .u64 (andW .u64 (shrW .u64 (addW .u64 (andW .u64 (shrW .u64 x 1) 6148914691236517205) (andW .u64 x 6148914691236517205)) 2) 3689348814741910323) (andW .u64 (addW .u64 (andW .u64 (shrW .u64 x 1) 6148914691236517205) (andW .u64 x 6148914691236517205)) 3689348814741910323))) 1085102592571150095) (shrW .u64 (andW .u64 (addW .u64 (shrW .u64 (addW .u64 (andW .u64 (shrW .u64 (addW .u64 (andW .u64 (shrW .u64 x 1) 6148914691236517205) (andW .u64 x 6148914691236517205)) 2) 3689348814741910323) (andW .u64 (addW .u64 (andW .u64 (shrW .u64 x 1) 6148914691236517205) (andW .u64 x 6148914691236517205)) 3689348814741910323)) 4) (addW .u64 (andW .u64 (shrW .u64 (addW .u64 (andW .u64 (shrW .u64 x 1) 6148914691236517205) (andW .u64 x 6148914691236517205)) 2) 3689348814741910323) (andW .u64 (addW .u64 (andW .u64 (shrW .u64 x 1) 6148914691236517205) (andW .u64 x 6148914691236517205)) 3689348814741910323))) 1085102592571150095) 8)) (shrW .u64 (addW .u64 (andW .u64 (addW .u64 (shrW .u64 (addW .u64 (andW .u64 (shrW .u64 (addW .u64 (andW .u64 (shrW .u64 x 1) 6148914691236517205) (andW .u64 x 6148914691236517205)) 2) 3689348814741910323) (andW .u64 (addW .u64 (andW .u64 (shrW .u64 x 1) 6148914691236517205) (andW .u64 x 6148914691236517205)) 3689348814741910323)) 4) (addW .u64 (andW .u64 (shrW .u64 (addW .u64 (andW .u64 (shrW .u64 x 1) 6148914691236517205) (andW .u64 x 6148914691236517205)) 2) 3689348814741910323) (andW .u64 (addW .u64 (andW .u64 (shrW .u64 x 1) 6148914691236517205) (andW .u64 x 6148914691236517205)) 3689348814741910323))) 1085102592571150095) (shrW .u64 (andW .u64 (addW .u64 (shrW .u64 (addW .u64 (andW .u64 (shrW .u64 (addW .u64 (andW .u64 (shrW .u64 x 1) 6148914691236517205) (andW .u64 x 6148914691236517205)) 2) 3689348814741910323) (andW .u64 (addW .u64 (andW .u64 (shrW .u64 x 1) 6148914691236517205) (andW .u64 x 6148914691236517205)) 3689348814741910323)) 4) (addW .u64 (andW .u64 (shrW .u64 (addW .u64 (andW .u64 (shrW .u64 x 1) 6148914691236517205) (andW .u64 x 6148914691236517205)) 2) 3689348814741910323) (andW .u64 (addW .u64 (andW .u64 (shrW .u64 x 1) 6148914691236517205) (andW .u64 x 6148914691236517205)) 3689348814741910323))) 1085102592571150095) 8)) 16)) (shrW .u64 (addW .u64 (addW .u64 (andW .u64 (addW .u64 (shrW .u64 (addW .u64 (andW .u64 (shrW .u64 (addW .u64 (andW .u64 (shrW .u64 x 1) 6148914691236517205) (andW .u64 x 6148914691236517205)) 2) 3689348814741910323) (andW .u64 (addW .u64 (andW .u64 (shrW .u64 x 1) 6148914691236517205) (andW .u64 x 6148914691236517205)) 3689348814741910323)) 4) (addW .u64 (andW .u64 (shrW .u64 (addW .u64 (andW .u64 (shrW .u64 x 1) 6148914691236517205) (andW .u64 x 6148914691236517205)) 2) 3689348814741910323) (andW .u64 (addW .u64 (andW .u64 (shrW .u64 x 1) 6148914691236517205) (andW .u64 x 6148914691236517205)) 3689348814741910323))) 1085102592571150095) (shrW .u64 (andW .u64 (addW .u64 (shrW .u64 (addW .u64 (andW .u64 (shrW .u64 (addW .u64 (andW .u64 (shrW .u64 x 1) 6148914691236517205) (andW .u64 x 6148914691236517205)) 2) 3689348814741910323) (andW .u64 (addW .u64 (andW .u64 (shrW .u64 x 1) 6148914691236517205) (andW .u64 x 6148914691236517205)) 3689348814741910323)) 4) (addW .u64 (andW .u64 (shrW .u64 (addW .u64 (andW .u64 (shrW .u64 x 1) 6148914691236517205) (andW .u64 x 6148914691236517205)) 2) 3689348814741910323) (andW .u64 (addW .u64 (andW .u64 (shrW .u64 x 1) 6148914691236517205) (andW .u64 x 6148914691236517205)) 3689348814741910323))) 1085102592571150095) 8)) (shrW .u64 (addW .u64 (andW .u64 (addW .u64 (shrW .u64 (addW .u64 (andW .u64 (shrW .u64 (addW .u64 (andW .u64 (shrW .u64 x 1) 6148914691236517205) (andW .u64 x 6148914691236517205)) 2) 3689348814741910323) (andW .u64 (addW .u64 (andW .u64 (shrW .u64 x 1) 6148914691236517205) (andW .u64 x 6148914691236517205)) 3689348814741910323)) 4) (addW .u64 (andW .u64 (shrW .u64 (addW .u64 (andW .u64 (shrW .u64 x 1) 6148914691236517205) (andW .u64 x 6148914691236517205)) 2) 3689348814741910323) (andW .u64 (addW .u64 (andW .u64 (shrW .u64 x 1) 6148914691236517205) (andW .u64 x 6148914691236517205)) 3689348814741910323))) 1085102592571150095) (shrW .u64 (andW .u64 (addW .u64 (shrW .u64 (addW .u64 (andW .u64 (shrW .u64 (addW .u64 (andW .u64 (shrW .u64 x 1) 6148914691236517205) (andW .u64 x 6148914691236517205)) 2) 3689348814741910323) (andW .u64 (addW .u64 (andW .u64 (shrW .u64 x 1) 6148914691236517205) (andW .u64 x 6148914691236517205)) 3689348814741910323)) 4) (addW .u64 (andW .u64 (shrW .u64 (addW .u64 (andW .u64 (shrW .u64 x 1) 6148914691236517205) (andW .u64 x 6148914691236517205)) 2) 3689348814741910323) (andW .u64 (addW .u64 (andW .u64 (shrW .u64 x 1) 6148914691236517205) (andW .u64 x 6148914691236517205)) 3689348814741910323))) 1085102592571150095) 8)) 16)) 32))) 127)
def ppo_set_count_L1 (n : Nat) (s_ : (List Int)) (sa : Int × Int) : Option ((Int × Int) ⊕ Int) :=
 if (decide (sa.2 < (s_.length : Int))) = true then
  (getI s_ sa.2).bind fun xa2 =>
  (math_bits_OnesCount64 n xa2).bind fun ya3 =>
  some (.inl ((addW .i64 sa.1 ya3), (addW .i64 sa.2 1)))
 else
  some (.inr sa.1)
def ppo_set_count (n : Nat) (s_ : (List Int)) : Option Int :=
 (iter (fun s => ppo_set_count_L1 n s_ s) n (0, 0)).bind fun t1 =>
 some t1
def ppo_set_has (n : Nat) (s_ : (List Int)) (n_ : Int) : Option Bool :=
 (getI s_ (quoW .i64 n_ 64)).bind fun x1 =>
 grd (decide (0 ≤ (remW .i64 n_ 64))) <|
 some ((andW .u64 (shrW .u64 x1 (remW .i64 n_ 64)) 1) == 1)
def ppo_view_leads2_L3 (n : Nat) (v : ppo_view) (a : Int) (b : Int) (ya3 : Int) (sd : (List Int) × Int × Int) : Option (((List Int) × Int × Int) ⊕ ((List Int) × Int)) :=
 if (decide (sd.2.1 ≤ b)) = true then
  (ppo_set_has n sd.1 sd.2.2).bind fun yd2 =>
  if yd2 = true then
   (ppo_set_has n sd.1 sd.2.1).bind fun yd4 =>
   if (!yd4) = true then
    (ppo_view_rule2 n v sd.2.2 sd.2.1).bind fun yd6 =>
    if (decide (yd6 > 0)) = true then
     (ppo_set_put_S n sd.2.1 sd.1).bind fun yd8 =>
     some (.inl (yd8, (addW .i64 sd.2.1 1), sd.2.2))
    else
     some (.inl (sd.1, (addW .i64 sd.2.1 1), sd.2.2))
   else
    some (.inl (sd.1, (addW .i64 sd.2.1 1), sd.2.2))
  else
   some (.inr (sd.1, sd.2.2))
 else
  some (.inr (sd.1, sd.2.2))
def ppo_view_leads2_L2 (n : Nat) (v : ppo_view) (a : Int) (b : Int) (ya3 : Int) (sb : (List Int) × Int) : Option (((List Int) × Int) ⊕ ((List Int))) :=
 if (decide (sb.2 < b)) = true then
  (iter (fun s => ppo_view_leads2_L3 n v a b ya3 s) n (sb.1, (addW .i64 sb.2 1), sb.2)).bind fun tb2 =>
  some (.inl (tb2.1, (addW .i64 tb2.2 1)))
 else
  some (.inr sb.1)
def ppo_view_leads2_L1 (n : Nat) (v : ppo_view) (a : Int) (b : Int) (sa : (List Int) × Int) : Option (((List Int) × Int) ⊕ ((List Int))) :=
 (ppo_set_count n sa.1).bind fun ya1 =>
 if (sa.2 != ya1) = true then
  (ppo_set_count n sa.1).bind fun ya3 =>
  (iter (fun s => ppo_view_leads2_L2 n v a b ya3 s) n (sa.1, a)).bind fun ta4 =>
  some (.inl (ta4, ya3))
 else
  some (.inr sa.1)
def ppo_view_leads2 (n : Nat) (v : ppo_view) (a : Int) (b : Int) : Option Bool :=
 (ppo_view_ahead2 n v a b).bind fun y1 =>
 if (!y1) = true then
  some false
 else
  grd (decide (0 ≤ (addW .i64 (quoW .i64 (v.all.length : Int) 64) 1)) && decide ((addW .i64 (quoW .i64 (v.all.length : Int) 64) 1) ≤ (addW .i64 (quoW .i64 (v.all.length : Int) 64) 1)) && decide (8 * (addW .i64 (quoW .i64 (v.all.length : Int) 64) 1) ≤ 140737488355328) && decide ((addW .i64 (quoW .i64 (v.all.length : Int) 64) 1) ≤ 140737488355328) && Nat.blt 0 1) <|
  (ppo_set_put_S n a (List.replicate ((addW .i64 (quoW .i64 (v.all.length : Int) 64) 1)).toNat 0)).bind fun y4 =>
  (iter (fun s => ppo_view_leads2_L1 n v a b s) n (y4, 0)).bind fun t5 =>
  (ppo_set_has n t5 b).bind fun y6 =>
  some y6
def ppo_Whole (n : Nat) (c : Cand) (a : Int) (b : Int) : Option Bool :=
 (ppo_of n c).bind fun y1 =>
 match y1 with
 | none =>
  (ppo_view_leads n a b).bind fun y2 =>
  some y2
 | some z2 =>
  (ppo_view_leads2 n z2 a b).bind fun y3 =>
  some y3
def ref_View_whole_L2 (n : Nat) (v : fencepostref10_View) (a : Int) (b : Int) (sb : (List (Int × Int)) × Int × Int) : Option (((List (Int × Int)) × Int × Int) ⊕ ((List (Int × Int)) × Int)) :=
 if (decide (sb.2.2 < sb.2.1)) = true then
  if (((mget beqI sb.1 sb.2.1).getD 0) == 0) = true then
   if (((mget beqI sb.1 sb.2.2).getD 0) != 0) = true then
    (ref_View_Rule n v sb.2.2 sb.2.1).bind fun yb4 =>
    if (decide (yb4 > 0)) = true then
     some (.inl ((mput beqI sb.1 sb.2.1 1), sb.2.1, (addW .i64 sb.2.2 1)))
    else
     some (.inl (sb.1, sb.2.1, (addW .i64 sb.2.2 1)))
   else
    some (.inl (sb.1, sb.2.1, (addW .i64 sb.2.2 1)))
  else
   some (.inr (sb.1, sb.2.1))
 else
  some (.inr (sb.1, sb.2.1))
def ref_View_whole_L1 (n : Nat) (v : fencepostref10_View) (a : Int) (b : Int) (sa : (List (Int × Int)) × Int) : Option (((List (Int × Int)) × Int) ⊕ ((List (Int × Int)))) :=
 if (decide (sa.2 ≤ b)) = true then
  (iter (fun s => ref_View_whole_L2 n v a b s) n (sa.1, sa.2, a)).bind fun ta2 =>
  some (.inl (ta2.1, (addW .i64 ta2.2 1)))
 else
  some (.inr sa.1)
def ref_View_whole (n : Nat) (v : fencepostref10_View) (a : Int) (b : Int) : Option Bool :=
 (ref_View_ahead n v a b).bind fun y1 =>
 if (!y1) = true then
  some false
 else
  (iter (fun s => ref_View_whole_L1 n v a b s) n ((mput beqI ([] : (List (Int × Int))) a 1), (addW .i64 a 1))).bind fun t3 =>
  some (((mget beqI t3 b).getD 0) != 0)
def ref_Whole (n : Nat) (c : Cand) (a : Int) (b : Int) : Option Bool :=
 (ref_Of n c).bind fun y1 =>
 if y1.2 = true then
  (ref_View_whole n y1.1 a b).bind fun y3 =>
  some y3
 else
  some false
def ppo_Full_L1 (n : Nat) (z2 : ppo_view) (sa : Int × Int) : Option ((Int × Int) ⊕ (Unit ⊕ Unit)) :=
 if (decide (sa.1 < (z2.all.length : Int))) = true then
  (getI z2.all sa.1).bind fun xa2 =>
  (event_Memory n xa2).bind fun ya3 =>
  if (!ya3) = true then
   some (.inl ((addW .i64 sa.1 1), sa.2))
  else
   if (decide (sa.2 ≥ 0)) = true then
    (getI z2.all sa.2).bind fun xa6 =>
    if (xa6.Hart == xa2.Hart) = true then
     (ppo_view_leads2 n z2 sa.2 sa.1).bind fun ya8 =>
     if (!ya8) = true then
      some (.inr (.inr ()))
     else
      some (.inl ((addW .i64 sa.1 1), sa.1))
    else
     some (.inl ((addW .i64 sa.1 1), sa.1))
   else
    some (.inl ((addW .i64 sa.1 1), sa.1))
 else
  some (.inr (.inl ()))
def ppo_Full (n : Nat) (c : Cand) : Option Bool :=
 (ppo_of n c).bind fun y1 =>
 match y1 with
 | none =>
  some false
 | some z2 =>
  (iter (fun s => ppo_Full_L1 n z2 s) n (0, (-1))).bind fun t3 =>
  match t3 with
  | .inl w4 =>
   some true
  | .inr w4 =>
   some false
def ref_Full_L1 (n : Nat) (y1 : fencepostref10_View × Bool) (sa : Int × Int) : Option ((Int × Int) ⊕ (Unit ⊕ Unit)) :=
 if (decide (sa.2 < (y1.1.All.length : Int))) = true then
  if y1.2 = true then
   (getI y1.1.All sa.2).bind fun xa3 =>
   (ref_Memory n xa3).bind fun ya4 =>
   if (!ya4) = true then
    some (.inl (sa.1, (addW .i64 sa.2 1)))
   else
    if (decide (sa.1 ≥ 0)) = true then
     (getI y1.1.All sa.1).bind fun xa7 =>
     if (xa7.Hart == xa3.Hart) = true then
      (ref_View_whole n y1.1 sa.1 sa.2).bind fun ya9 =>
      if (!ya9) = true then
       some (.inr (.inr ()))
      else
       some (.inl (sa.2, (addW .i64 sa.2 1)))
     else
      some (.inl (sa.2, (addW .i64 sa.2 1)))
    else
     some (.inl (sa.2, (addW .i64 sa.2 1)))
  else
   some (.inr (.inl ()))
 else
  some (.inr (.inl ()))
def ref_Full (n : Nat) (c : Cand) : Option Bool :=
 (ref_Of n c).bind fun y1 =>
 (iter (fun s => ref_Full_L1 n y1 s) n ((-1), 0)).bind fun t2 =>
 match t2 with
 | .inl w3 =>
  some y1.2
 | .inr w3 =>
  some false
def law_PpoCalls (n : Nat) (c : Cand) (a : Int) (b : Int) (rule : Int) : Option Bool :=
 (law_lives n).bind fun y1 =>
 if (!y1) = true then
  some false
 else
  (kit_LightCand n c 30).bind fun y3 =>
  if (!y3) = true then
   some true
  else
   (ref_Check n c).bind fun y5 =>
   if (y5 == 0) = true then
    (kit_Pick n a (addW .i64 (c.From.length : Int) 2)).bind fun y7 =>
    (kit_Pick n b (addW .i64 (c.From.length : Int) 2)).bind fun y8 =>
    (kit_OwnCand n c).bind fun y9 =>
    (ppo_Pairs n y9).bind fun y10 =>
    (ref_Pairs n c).bind fun y11 =>
    (kit_Same_2_int n y10 y11).bind fun y12 =>
    if y12 = true then
     (ppo_Rule n y9 (subW .i64 y7 1) (subW .i64 y8 1)).bind fun y14 =>
     (ref_Rule n c (subW .i64 y7 1) (subW .i64 y8 1)).bind fun y15 =>
     if (y14 == y15) = true then
      (ppo_Holds n y9 (subW .i64 y7 1) (subW .i64 y8 1) rule).bind fun y17 =>
      (ref_Holds n c (subW .i64 y7 1) (subW .i64 y8 1) rule).bind fun y18 =>
      if (y17 == y18) = true then
       (ppo_Whole n y9 (subW .i64 y7 1) (subW .i64 y8 1)).bind fun y20 =>
       (ref_Whole n c (subW .i64 y7 1) (subW .i64 y8 1)).bind fun y21 =>
       if (y20 == y21) = true then
        (ppo_Full n y9).bind fun y23 =>
        (ref_Full n c).bind fun y24 =>
        some (y23 == y24)
       else
        some false
      else
       some false
     else
      some false
    else
     some false
   else
    (kit_OwnCand n c).bind fun y7 =>
    (ppo_Pairs n y7).bind fun y8 =>
    (ref_Pairs n c).bind fun y9 =>
    (kit_Same_2_int n y8 y9).bind fun y10 =>
    if y10 = true then
     (ppo_Rule n y7 a b).bind fun y12 =>
     (ref_Rule n c a b).bind fun y13 =>
     if (y12 == y13) = true then
      (ppo_Holds n y7 a b rule).bind fun y15 =>
      (ref_Holds n c a b rule).bind fun y16 =>
      if (y15 == y16) = true then
       (ppo_Whole n y7 a b).bind fun y18 =>
       (ref_Whole n c a b).bind fun y19 =>
       if (y18 == y19) = true then
        (ppo_Full n y7).bind fun y21 =>
        (ref_Full n c).bind fun y22 =>
        some (y21 == y22)
       else
        some false
      else
       some false
     else
      some false
    else
     some false

end Go.Proofs.YtigcbjbaibcgfaaGreat
