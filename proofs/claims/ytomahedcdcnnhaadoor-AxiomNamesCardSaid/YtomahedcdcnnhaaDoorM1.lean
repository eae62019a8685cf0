/- What the functions compute, as functions on lists and numbers. Printed by a program from the code; nothing is claimed here. -/
import Derived.Test.YtomahedcdcnnhaaDoorM0
namespace Go.Proofs.YtomahedcdcnnhaaDoor
open Go A
set_option linter.unusedVariables false

structure Arr2 (α:Type) where
  mk ::
  e0:α
  e1:α
structure Arr4 (α:Type) where
  mk ::
  e0:α
  e1:α
  e2:α
  e3:α
structure Arr13 (α:Type) where
  mk ::
  e0:α
  e1:α
  e2:α
  e3:α
  e4:α
  e5:α
  e6:α
  e7:α
  e8:α
  e9:α
  e10:α
  e11:α
  e12:α
structure Cell where
  mk ::
  Addr:Int
  Value:Int
structure Deps where
  mk ::
  Addr:(List Int)
  Data:(List Int)
  Way:(List Int)
structure Event where
  mk ::
  Hart:Int
  At:Int
  Kind:Int
  Addr:Int
  Load:Int
  Store:Int
  Aq:Bool
  Rl:Bool
  Pred:Int
  Succ:Int
  Pair:Int
  Deps:Deps
structure Cand where
  mk ::
  First:(List Cell)
  Harts:(List (List Event))
  From:(List Int)
  Order:(List Int)
structure Judged where
  mk ::
  OK:Bool
  Why:Int
  A_:Int
  B:Int
structure event_rest where
  mk ::
  hart:Int
  at_:Int
  kind:Int
  pred:Int
  succ:Int
  pair:Int
  addr:Int
  load:Int
  store:Int
  aq:Bool
  rl:Bool
structure ppo_view where
  mk ::
  c:(Option Cand)
  all:(List Event)
  fences:(Arr4 (List Int))
  hung:(List Int)
def Judged.beq (x y:Judged):Bool:=((x.OK==y.OK)&&((x.Why==y.Why)&&((x.A_==y.A_)&&(x.B==y.B))))
theorem Judged.beq_eq {x y:Judged} (h:Judged.beq x y=true):x=y:=by
  obtain ⟨a1,a2,a3,a4⟩:=x
  obtain ⟨b5,b6,b7,b8⟩:=y
  unfold Judged.beq at h
  simp only [Bool.and_eq_true,beq_iff_eq,toList_iff] at h
  simp_all
theorem Judged.beq_refl (x:Judged):Judged.beq x x=true:=by
  unfold Judged.beq
  simp
def event_rest.beq (x y:event_rest):Bool:=((x.hart==y.hart)&&((x.at_==y.at_)&&((x.kind==y.kind)&&((x.pred==y.pred)&&((x.succ==y.succ)&&((x.pair==y.pair)&&((x.addr==y.addr)&&((x.load==y.load)&&((x.store==y.store)&&((x.aq==y.aq)&&(x.rl==y.rl)))))))))))
theorem event_rest.beq_eq {x y:event_rest} (h:event_rest.beq x y=true):x=y:=by
  obtain ⟨a9,a10,a11,a12,a13,a14,a15,a16,a17,a18,a19⟩:=x
  obtain ⟨b20,b21,b22,b23,b24,b25,b26,b27,b28,b29,b30⟩:=y
  unfold event_rest.beq at h
  simp only [Bool.and_eq_true,beq_iff_eq,toList_iff] at h
  simp_all
theorem event_rest.beq_refl (x:event_rest):event_rest.beq x x=true:=by
  unfold event_rest.beq
  simp
def law_message (n:Nat) (fences:Bool):Option Cand :=
 if (!fences)=true then
  some (Cand.mk ([]:List Cell) ([([(Event.mk 0 0 2 8 0 1 false false 0 0 0 (Deps.mk ([]:List Int) ([]:List Int) ([]:List Int))),(Event.mk 0 1 2 16 0 1 false false 0 0 0 (Deps.mk ([]:List Int) ([]:List Int) ([]:List Int)))]:List Event),([(Event.mk 1 0 1 16 1 0 false false 0 0 0 (Deps.mk ([]:List Int) ([]:List Int) ([]:List Int))),(Event.mk 1 1 1 8 0 0 false false 0 0 0 (Deps.mk ([]:List Int) ([]:List Int) ([]:List Int)))]:List Event)]:List (List Event)) ([(-1),(-1),1,(-1)]:List Int) ([1,2,3,0]:List Int))
 else
  some (Cand.mk ([]:List Cell) ([([(Event.mk 0 0 2 8 0 1 false false 0 0 0 (Deps.mk ([]:List Int) ([]:List Int) ([]:List Int))),(Event.mk 0 1 6 0 0 0 false false 1 1 0 (Deps.mk ([]:List Int) ([]:List Int) ([]:List Int))),(Event.mk 0 2 2 16 0 1 false false 0 0 0 (Deps.mk ([]:List Int) ([]:List Int) ([]:List Int)))]:List Event),([(Event.mk 1 0 1 16 1 0 false false 0 0 0 (Deps.mk ([]:List Int) ([]:List Int) ([]:List Int))),(Event.mk 1 1 6 0 0 0 false false 2 2 0 (Deps.mk ([]:List Int) ([]:List Int) ([]:List Int))),(Event.mk 1 2 1 8 0 0 false false 0 0 0 (Deps.mk ([]:List Int) ([]:List Int) ([]:List Int)))]:List Event)]:List (List Event)) ([(-1),(-1),(-1),2,(-1),(-1)]:List Int) ([2,3,5,0]:List Int))
def kit_Own_Cell (n:Nat) (l:(List Cell)):Option (List Cell) :=
 grd (Nat.ble (l.length * 16) 140737488355328) <|
 some l
def kit_Own_int (n:Nat) (l:(List Int)):Option (List Int) :=
 grd (Nat.ble (l.length * 8) 140737488355328) <|
 some l
def kit_OwnDeps (n:Nat) (d:Deps):Option Deps :=
 (kit_Own_int n d.Addr).bind fun y1 =>
 (kit_Own_int n d.Data).bind fun y2 =>
 (kit_Own_int n d.Way).bind fun y3 =>
 some (Deps.mk y1 y2 y3)
def kit_OwnEvent (n:Nat) (e:Event):Option Event :=
 (kit_OwnDeps n e.Deps).bind fun y1 =>
 some (Event.mk e.Hart e.At e.Kind e.Addr e.Load e.Store e.Aq e.Rl e.Pred e.Succ e.Pair y1)
def kit_OwnEvents_L1 (n:Nat) (l:(List Event)) (sa:(List Event)×Int):Option (((List Event)×Int)⊕((List Event))) :=
 if (decide (sa.2<(l.length:Int)))=true then
  (getI l sa.2).bind fun xa2 =>
  (kit_OwnEvent n xa2).bind fun ya3 =>
  grd (Nat.ble ((sa.1.length + 1) * 152) 140737488355328) <|
  some (.inl ((sa.1++([ya3]:List Event)),(addW .i64 sa.2 1)))
 else
  some (.inr sa.1)
def kit_OwnEvents (n:Nat) (l:(List Event)):Option (List Event) :=
 (iter (fun s=>kit_OwnEvents_L1 n l s) n (([]:List Event),0)).bind fun t1 =>
 some t1
def kit_OwnCand_L1 (n:Nat) (c:Cand) (y1:(List Cell)) (y2:(List Int)) (y3:(List Int)) (sa:(List (List Event))×Int):Option (((List (List Event))×Int)⊕((List (List Event)))) :=
 if (decide (sa.2<(c.Harts.length:Int)))=true then
  (getI c.Harts sa.2).bind fun xa2 =>
  (kit_OwnEvents n xa2).bind fun ya3 =>
  grd (Nat.ble ((sa.1.length + 1) * 24) 140737488355328) <|
  some (.inl ((sa.1++([ya3]:List (List Event))),(addW .i64 sa.2 1)))
 else
  some (.inr sa.1)
def kit_OwnCand (n:Nat) (c:Cand):Option Cand :=
 (kit_Own_Cell n c.First).bind fun y1 =>
 (kit_Own_int n c.From).bind fun y2 =>
 (kit_Own_int n c.Order).bind fun y3 =>
 (iter (fun s=>kit_OwnCand_L1 n c y1 y2 y3 s) n (([]:List (List Event)),0)).bind fun t4 =>
 some (Cand.mk y1 t4 y2 y3)
def cand_cells_L1 (n:Nat) (l:(List Cell)) (sa:Int):Option (Int⊕(Unit⊕Unit)) :=
 if (decide (sa<(l.length:Int)))=true then
  (getI l sa).bind fun xa2 =>
  if ((remW .u64 xa2.Addr 8) != 0)=true then
   some (.inr (.inr ()))
  else
   if (decide (sa>0))=true then
    (getI l (subW .i64 sa 1)).bind fun xa5 =>
    if (decide (xa5.Addr≥xa2.Addr))=true then
     some (.inr (.inr ()))
    else
     some (.inl (addW .i64 sa 1))
   else
    some (.inl (addW .i64 sa 1))
 else
  some (.inr (.inl ()))
def cand_cells (n:Nat) (l:(List Cell)):Option Bool :=
 (iter (fun s=>cand_cells_L1 n l s) n 0).bind fun t1 =>
 match t1 with
 | .inl w2 =>
  some true
 | .inr w2 =>
  some false
def event_has (n:Nat) (kind:Int):Option Int :=
 if (decide (kind<1))=true then
  some 0
 else
  if (decide (kind>6))=true then
   some 0
  else
   if (kind==0)=true then
    some 0
   else
    if (kind==1)=true then
     some 1
    else
     if (kind==2)=true then
      some 2
     else
      if (kind==3)=true then
       some 5
      else
       if (kind==4)=true then
        some 14
       else
        if (kind==5)=true then
         some 7
        else
         if (kind==6)=true then
          some 16
         else
          none
def slices_Equal_int_int_L1 (n:Nat) (s1_:(List Int)) (s2_:(List Int)) (sa:Int):Option (Int⊕(Unit⊕Unit)) :=
 if (decide (sa<(s1_.length:Int)))=true then
  (getI s1_ sa).bind fun xa2 =>
  (getI s2_ sa).bind fun xa3 =>
  if (xa2 != xa3)=true then
   some (.inr (.inr ()))
  else
   some (.inl (addW .i64 sa 1))
 else
  some (.inr (.inl ()))
def slices_Equal_int_int (n:Nat) (s1_:(List Int)) (s2_:(List Int)):Option Bool :=
 if ((s1_.length:Int) != (s2_.length:Int))=true then
  some false
 else
  (iter (fun s=>slices_Equal_int_int_L1 n s1_ s2_ s) n 0).bind fun t2 =>
  match t2 with
  | .inl w3 =>
   some true
  | .inr w3 =>
   some false
def event_Same_1 (n:Nat) (e:Event):Option event_rest :=
 some (event_rest.mk e.Hart e.At e.Kind e.Pred e.Succ e.Pair e.Addr e.Load e.Store e.Aq e.Rl)
def event_Same (n:Nat) (a:Event) (b:Event):Option Bool :=
 (slices_Equal_int_int n a.Deps.Addr b.Deps.Addr).bind fun y1 =>
 if (!y1)=true then
  some false
 else
  (slices_Equal_int_int n a.Deps.Data b.Deps.Data).bind fun y3 =>
  if (!y3)=true then
   some false
  else
   (slices_Equal_int_int n a.Deps.Way b.Deps.Way).bind fun y5 =>
   if (!y5)=true then
    some false
   else
    (event_Same_1 n a).bind fun y7 =>
    (event_Same_1 n b).bind fun y8 =>
    if (event_rest.beq y7 y8)=true then
     some true
    else
     some false
def taint_Rising_L1 (n:Nat) (l:(List Int)) (sa:Int×Int):Option ((Int×Int)⊕(Unit⊕Unit)) :=
 if (decide (sa.2<(l.length:Int)))=true then
  (getI l sa.2).bind fun xa2 =>
  if (decide (xa2≤sa.1))=true then
   some (.inr (.inr ()))
  else
   some (.inl (xa2,(addW .i64 sa.2 1)))
 else
  some (.inr (.inl ()))
def taint_Rising (n:Nat) (l:(List Int)):Option Bool :=
 (iter (fun s=>taint_Rising_L1 n l s) n ((-1),0)).bind fun t1 =>
 match t1 with
 | .inl w2 =>
  some true
 | .inr w2 =>
  some false
def event_below (n:Nat) (l:(List Int)) (at_:Int):Option Bool :=
 (taint_Rising n l).bind fun y1 =>
 if y1=true then
  if ((l.length:Int)==0)=true then
   some true
  else
   (getI l (subW .i64 (l.length:Int) 1)).bind fun x4 =>
   some (decide (x4<at_))
 else
  some false
def event_Check_C5 (n:Nat) (e:Event) (y1:Int) (sf:Int×(List Int)×(List Int)×(List Int)×Int×Int×Int×Bool×Bool×Int×Int):Option Int :=
 if (y1==0)=true then
  some 2
 else
  if (decide (e.Hart<0))=true then
   some 2
  else
   if (decide (e.Hart≥8))=true then
    some 2
   else
    if (decide (e.At<0))=true then
     some 2
    else
     (event_Same n (Event.mk e.Hart e.At e.Kind sf.2.2.2.2.1 sf.2.2.2.2.2.1 sf.2.2.2.2.2.2.1 sf.2.2.2.2.2.2.2.1 sf.2.2.2.2.2.2.2.2.1 sf.2.2.2.2.2.2.2.2.2.1 sf.2.2.2.2.2.2.2.2.2.2 sf.1 (Deps.mk sf.2.1 sf.2.2.1 sf.2.2.2.1)) e).bind fun yf5 =>
     if (!yf5)=true then
      some 2
     else
      if ((remW .u64 e.Addr 8) != 0)=true then
       some 2
      else
       if (decide (e.Pred<0))=true then
        some 2
       else
        if (decide (e.Pred>15))=true then
         some 2
        else
         if (decide (e.Succ<0))=true then
          some 2
         else
          if (decide (e.Succ>15))=true then
           some 2
          else
           if ((andW .u64 y1 8) != 0)=true then
            if (decide (e.Pair<0))=true then
             some 2
            else
             if (decide (e.Pair≥e.At))=true then
              some 2
             else
              (event_below n e.Deps.Addr e.At).bind fun yf15 =>
              if (!yf15)=true then
               some 2
              else
               (event_below n e.Deps.Data e.At).bind fun yf17 =>
               if (!yf17)=true then
                some 2
               else
                (event_below n e.Deps.Way e.At).bind fun yf19 =>
                if (!yf19)=true then
                 some 2
                else
                 some 0
           else
            (event_below n e.Deps.Addr e.At).bind fun yf13 =>
            if (!yf13)=true then
             some 2
            else
             (event_below n e.Deps.Data e.At).bind fun yf15 =>
             if (!yf15)=true then
              some 2
             else
              (event_below n e.Deps.Way e.At).bind fun yf17 =>
              if (!yf17)=true then
               some 2
              else
               some 0
def event_Check_C4 (n:Nat) (e:Event) (y1:Int) (se:(List Int)×(List Int)×(List Int)×Int×Int×Int×Bool×Bool×Int×Int):Option Int :=
 if ((andW .u64 y1 8) != 0)=true then
  (event_Check_C5 n e y1 (e.Pair,se.1,se.2.1,se.2.2.1,se.2.2.2.1,se.2.2.2.2.1,se.2.2.2.2.2.1,se.2.2.2.2.2.2.1,se.2.2.2.2.2.2.2.1,se.2.2.2.2.2.2.2.2.1,se.2.2.2.2.2.2.2.2.2)).bind fun te2 =>
  some te2
 else
  (event_Check_C5 n e y1 (0,se.1,se.2.1,se.2.2.1,se.2.2.2.1,se.2.2.2.2.1,se.2.2.2.2.2.1,se.2.2.2.2.2.2.1,se.2.2.2.2.2.2.2.1,se.2.2.2.2.2.2.2.2.1,se.2.2.2.2.2.2.2.2.2)).bind fun te2 =>
  some te2
def event_Check_C3 (n:Nat) (e:Event) (y1:Int) (sd:(List Int)×(List Int)×(List Int)×Int×Int×Int×Int×Int):Option Int :=
 if ((andW .u64 y1 4) != 0)=true then
  (event_Check_C4 n e y1 (sd.1,sd.2.1,sd.2.2.1,sd.2.2.2.1,sd.2.2.2.2.1,sd.2.2.2.2.2.1,e.Aq,e.Rl,sd.2.2.2.2.2.2.1,sd.2.2.2.2.2.2.2)).bind fun td2 =>
  some td2
 else
  (event_Check_C4 n e y1 (sd.1,sd.2.1,sd.2.2.1,sd.2.2.2.1,sd.2.2.2.2.1,sd.2.2.2.2.2.1,false,false,sd.2.2.2.2.2.2.1,sd.2.2.2.2.2.2.2)).bind fun td2 =>
  some td2
def event_Check_C2 (n:Nat) (e:Event) (y1:Int) (sb:(List Int)×(List Int)×Int×Int×Int×Int):Option Int :=
 if ((andW .u64 y1 2) != 0)=true then
  (event_Check_C3 n e y1 (sb.1,e.Deps.Data,sb.2.1,sb.2.2.1,sb.2.2.2.1,e.Store,sb.2.2.2.2.1,sb.2.2.2.2.2)).bind fun tb2 =>
  some tb2
 else
  (event_Check_C3 n e y1 (sb.1,([]:List Int),sb.2.1,sb.2.2.1,sb.2.2.2.1,0,sb.2.2.2.2.1,sb.2.2.2.2.2)).bind fun tb2 =>
  some tb2
def event_Check_C1 (n:Nat) (e:Event) (y1:Int) (sa:(List Int)×(List Int)×Int×Int×Int):Option Int :=
 if ((andW .u64 y1 1) != 0)=true then
  (event_Check_C2 n e y1 (sa.1,sa.2.1,sa.2.2.1,e.Load,sa.2.2.2.1,sa.2.2.2.2)).bind fun ta2 =>
  some ta2
 else
  (event_Check_C2 n e y1 (sa.1,sa.2.1,sa.2.2.1,0,sa.2.2.2.1,sa.2.2.2.2)).bind fun ta2 =>
  some ta2
def event_Check (n:Nat) (e:Event):Option Int :=
 (event_has n e.Kind).bind fun y1 =>
 if ((andW .u64 y1 16) != 0)=true then
  (event_Check_C1 n e y1 (([]:List Int),([]:List Int),0,e.Pred,e.Succ)).bind fun t3 =>
  some t3
 else
  (event_Check_C1 n e y1 (e.Deps.Addr,e.Deps.Way,e.Addr,0,0)).bind fun t3 =>
  some t3
def event_Row_L1 (n:Nat) (hart:Int) (l:(List Event)) (sa:Int×Int):Option ((Int×Int)⊕(Unit⊕Unit)) :=
 if (decide (sa.1<(l.length:Int)))=true then
  (getI l sa.1).bind fun xa2 =>
  (event_Check n xa2).bind fun ya3 =>
  if (ya3 != 0)=true then
   some (.inr (.inr ()))
  else
   if (xa2.Hart != hart)=true then
    some (.inr (.inr ()))
   else
    if (xa2.At != sa.1)=true then
     some (.inr (.inr ()))
    else
     if (xa2.Kind==3)=true then
      some (.inl ((addW .i64 sa.1 1),sa.1))
     else
      if (xa2.Kind==4)=true then
       if (xa2.Pair != sa.2)=true then
        some (.inr (.inr ()))
       else
        (getI l sa.2).bind fun xa10 =>
        if (xa10.Addr != xa2.Addr)=true then
         some (.inr (.inr ()))
        else
         some (.inl ((addW .i64 sa.1 1),(-1)))
      else
       some (.inl ((addW .i64 sa.1 1),sa.2))
 else
  some (.inr (.inl ()))
def event_Row (n:Nat) (hart:Int) (l:(List Event)):Option Int :=
 (iter (fun s=>event_Row_L1 n hart l s) n (0,(-1))).bind fun t1 =>
 match t1 with
 | .inl w2 =>
  some 0
 | .inr w2 =>
  some 4
def slices_Grow_api_Event_api_Event_S (n:Nat) (n_:Int):Option ((Nat×Nat×Nat×(List Event))⊕Unit) :=
 if (decide (n_<0))=true then
  none
 else
  if (decide ((subW .i64 n_ 0)>0))=true then
   grd (Nat.blt 0 14&&Nat.blt 0 152&&decide (0<(subW .i64 n_ 0))&&decide ((subW .i64 n_ 0) * 152≤140737488355328)&&decide ((subW .i64 n_ 0)≤140737488355328)) <|
   grd (decide ((0:Int)≤0)&&decide (0≤(((subW .i64 n_ 0)).toNat:Int))) <|
   some (.inl (0,0,((subW .i64 n_ 0)).toNat,(List.replicate ((subW .i64 n_ 0)).toNat (Event.mk 0 0 0 0 0 0 false false 0 0 0 (Deps.mk ([]:List Int) ([]:List Int) ([]:List Int))))))
  else
   some (.inr ())
def slices_Concat_api_Event_api_Event_L1 (n:Nat) (slices:(List (List Event))) (sa:Int×Int):Option ((Int×Int)⊕Int) :=
 if (decide (sa.1<(slices.length:Int)))=true then
  (getI slices sa.1).bind fun xa2 =>
  if (decide ((addW .i64 sa.2 (xa2.length:Int))<0))=true then
   none
  else
   some (.inl ((addW .i64 sa.1 1),(addW .i64 sa.2 (xa2.length:Int))))
 else
  some (.inr sa.2)
def slices_Concat_api_Event_api_Event_L2 (n:Nat) (slices:(List (List Event))) (wa3:Nat×Nat×Nat×(List Event)) (sa:Nat×Nat×(List Event)×Int):Option ((Nat×Nat×(List Event)×Int)⊕(Nat×Nat×(List Event))) :=
 if (decide (sa.2.2.2<(slices.length:Int)))=true then
  (getI slices sa.2.2.2).bind fun xa2 =>
  grd (Nat.ble xa2.length sa.2.1) <|
  grd (Nat.ble (wa3.1 + sa.1 + sa.2.1) sa.2.2.1.length) <|
  some (.inl ((sa.1 + xa2.length),(sa.2.1 - xa2.length),(sa.2.2.1.take (wa3.1 + sa.1)++(xa2++sa.2.2.1.drop (wa3.1 + sa.1 + xa2.length))),(addW .i64 sa.2.2.2 1)))
 else
  some (.inr (sa.1,sa.2.1,sa.2.2.1))
def slices_Concat_api_Event_api_Event_L3 (n:Nat) (slices:(List (List Event))) (sa:(List Event)×Int):Option (((List Event)×Int)⊕((List Event))) :=
 if (decide (sa.2<(slices.length:Int)))=true then
  (getI slices sa.2).bind fun xa2 =>
  grd (Nat.ble ((sa.1.length + xa2.length) * 152) 140737488355328) <|
  some (.inl ((sa.1++xa2),(addW .i64 sa.2 1)))
 else
  some (.inr sa.1)
def slices_Concat_api_Event_api_Event (n:Nat) (slices:(List (List Event))):Option (List Event) :=
 (iter (fun s=>slices_Concat_api_Event_api_Event_L1 n slices s) n (0,0)).bind fun t1 =>
 (slices_Grow_api_Event_api_Event_S n t1).bind fun y2 =>
 match y2 with
 | .inl wa3 =>
  (iter (fun s=>slices_Concat_api_Event_api_Event_L2 n slices wa3 s) n (wa3.2.1,wa3.2.2.1,wa3.2.2.2,0)).bind fun t4 =>
  some ((t4.2.2.drop wa3.1).take t4.1)
 | .inr wb3 =>
  (iter (fun s=>slices_Concat_api_Event_api_Event_L3 n slices s) n (([]:List Event),0)).bind fun t4 =>
  some t4
def cand_flat_S (n:Nat) (oA:(List Cell)) (oB:(List (List Event))) (oC:(List Int)) (oD:(List Int)):Option (List Event) :=
 (slices_Concat_api_Event_api_Event n oB).bind fun y1 =>
 some y1
def event_Reads (n:Nat) (e:Event):Option Bool :=
 (event_has n e.Kind).bind fun y1 =>
 some ((andW .u64 y1 1) != 0)
def cmp_isNaN_uint64 (n:Nat) (x:Int):Option Bool :=
 some (x != x)
def cmp_Compare_uint64 (n:Nat) (x:Int) (y:Int):Option Int :=
 (cmp_isNaN_uint64 n x).bind fun y1 =>
 (cmp_isNaN_uint64 n y).bind fun y2 =>
 if y1=true then
  if y2=true then
   some 0
  else
   some (-1)
 else
  if y2=true then
   some 1
  else
   if (decide (x<y))=true then
    some (-1)
   else
    if (decide (x>y))=true then
     some 1
    else
     some 0
def cand_found_1 (n:Nat) (x:Cell) (a:Int):Option Int :=
 (cmp_Compare_uint64 n x.Addr a).bind fun y1 =>
 some y1
def slices_BinarySearchFunc_api_Cell_api_Cell_uint64_L1 (n:Nat) (x:(List Cell)) (target:Int) (sa:Int×Int):Option ((Int×Int)⊕Int) :=
 if (decide (sa.2<sa.1))=true then
  (getI x (IntKind.wrap .i64 (shrW .u64 (IntKind.wrap .u64 (addW .i64 sa.2 sa.1)) 1))).bind fun xa2 =>
  (cand_found_1 n xa2 target).bind fun ya3 =>
  if (decide (ya3<0))=true then
   some (.inl (sa.1,(addW .i64 (IntKind.wrap .i64 (shrW .u64 (IntKind.wrap .u64 (addW .i64 sa.2 sa.1)) 1)) 1)))
  else
   some (.inl ((IntKind.wrap .i64 (shrW .u64 (IntKind.wrap .u64 (addW .i64 sa.2 sa.1)) 1)),sa.2))
 else
  some (.inr sa.2)
def slices_BinarySearchFunc_api_Cell_api_Cell_uint64 (n:Nat) (x:(List Cell)) (target:Int):Option (Int×Bool) :=
 (iter (fun s=>slices_BinarySearchFunc_api_Cell_api_Cell_uint64_L1 n x target s) n ((x.length:Int),0)).bind fun t1 =>
 if (decide (t1<(x.length:Int)))=true then
  (getI x t1).bind fun x3 =>
  (cand_found_1 n x3 target).bind fun y4 =>
  some (t1,(y4==0))
 else
  some (t1,false)
def cand_found (n:Nat) (l:(List Cell)) (addr:Int):Option Int :=
 (slices_BinarySearchFunc_api_Cell_api_Cell_uint64 n l addr).bind fun y1 =>
 if (!y1.2)=true then
  some 0
 else
  (getI l y1.1).bind fun x3 =>
  some x3.Value
def event_Writes (n:Nat) (e:Event):Option Bool :=
 (event_has n e.Kind).bind fun y1 =>
 some ((andW .u64 y1 2) != 0)
def cand_from (n:Nat) (c:Cand) (all:(List Event)) (n_:Int):Option Bool :=
 (getI all n_).bind fun x1 =>
 (getI c.From n_).bind fun x2 =>
 (event_Reads n x1).bind fun y3 =>
 if (!y3)=true then
  some (x2==(-1))
 else
  if (x2==(-1))=true then
   (cand_found n c.First x1.Addr).bind fun y6 =>
   some (x1.Load==y6)
  else
   if (decide (x2<0))=true then
    some false
   else
    if (decide (x2≥(all.length:Int)))=true then
     some false
    else
     if (x2==n_)=true then
      some false
     else
      (getI all x2).bind fun x9 =>
      (event_Writes n x9).bind fun y10 =>
      if y10=true then
       if (x9.Addr==x1.Addr)=true then
        some (x9.Store==x1.Load)
       else
        some false
      else
       some false
def event_Memory (n:Nat) (e:Event):Option Bool :=
 (event_Reads n e).bind fun y1 =>
 if y1=true then
  some true
 else
  (event_Writes n e).bind fun y3 =>
  some y3
def cand_ordered_L1 (n:Nat) (c:Cand) (all:(List Event)) (sa:(List Bool)×Int×Int):Option (((List Bool)×Int×Int)⊕((List Bool)×Int)) :=
 if (decide (sa.2.1<(all.length:Int)))=true then
  (getI all sa.2.1).bind fun xa2 =>
  (event_Memory n xa2).bind fun ya3 =>
  if ya3=true then
   (getI sa.1 sa.2.1).bind fun xa5 =>
   some (.inl ((sa.1.set (sa.2.1).toNat true),(addW .i64 sa.2.1 1),(addW .i64 sa.2.2 1)))
  else
   some (.inl (sa.1,(addW .i64 sa.2.1 1),sa.2.2))
 else
  some (.inr (sa.1,sa.2.2))
def cand_ordered_L2 (n:Nat) (c:Cand) (sa:(List Bool)×Int×Int):Option (((List Bool)×Int×Int)⊕(Int⊕Unit)) :=
 if (decide (sa.2.1<(c.Order.length:Int)))=true then
  (getI c.Order sa.2.1).bind fun xa2 =>
  if (decide (xa2<0))=true then
   some (.inr (.inr ()))
  else
   if (decide (xa2≥(sa.1.length:Int)))=true then
    some (.inr (.inr ()))
   else
    (getI sa.1 xa2).bind fun xa5 =>
    if (!xa5)=true then
     some (.inr (.inr ()))
    else
     some (.inl ((sa.1.set (xa2).toNat false),(addW .i64 sa.2.1 1),(subW .i64 sa.2.2 1)))
 else
  some (.inr (.inl sa.2.2))
def cand_ordered (n:Nat) (c:Cand) (all:(List Event)):Option Bool :=
 grd (decide ((0:Int)≤(all.length:Int))&&decide ((all.length:Int)≤(all.length:Int))&&decide (1 * (all.length:Int)≤140737488355328)&&decide ((all.length:Int)≤140737488355328)&&Nat.blt 0 1) <|
 (iter (fun s=>cand_ordered_L1 n c all s) n ((List.replicate ((all.length:Int)).toNat false),0,0)).bind fun t2 =>
 (iter (fun s=>cand_ordered_L2 n c s) n (t2.1,0,t2.2)).bind fun t3 =>
 match t3 with
 | .inl w4 =>
  some (w4==0)
 | .inr w4 =>
  some false
def cand_Check_L1 (n:Nat) (c:Cand) (sa:Int×Int):Option ((Int×Int)⊕(Int⊕Unit)) :=
 if (decide (sa.1<(c.Harts.length:Int)))=true then
  (getI c.Harts sa.1).bind fun xa2 =>
  if (decide ((addW .i64 sa.2 (xa2.length:Int))>4096))=true then
   some (.inr (.inr ()))
  else
   (event_Row n sa.1 xa2).bind fun ya4 =>
   if (ya4 != 0)=true then
    some (.inr (.inr ()))
   else
    some (.inl ((addW .i64 sa.1 1),(addW .i64 sa.2 (xa2.length:Int))))
 else
  some (.inr (.inl sa.2))
def cand_Check_L2 (n:Nat) (c:Cand) (y7:(List Event)) (sa:Int):Option (Int⊕(Unit⊕Unit)) :=
 if (decide (sa<(y7.length:Int)))=true then
  (cand_from n c y7 sa).bind fun ya2 =>
  if (!ya2)=true then
   some (.inr (.inr ()))
  else
   some (.inl (addW .i64 sa 1))
 else
  some (.inr (.inl ()))
def cand_Check (n:Nat) (c:Cand):Option Int :=
 (cand_cells n c.First).bind fun y1 =>
 if (!y1)=true then
  some 2
 else
  if (decide ((c.Harts.length:Int)<1))=true then
   some 2
  else
   if (decide ((c.Harts.length:Int)>8))=true then
    some 2
   else
    (iter (fun s=>cand_Check_L1 n c s) n (0,0)).bind fun t5 =>
    match t5 with
    | .inl w6 =>
     (cand_flat_S n c.First c.Harts c.From c.Order).bind fun y7 =>
     if ((c.From.length:Int) != w6)=true then
      some 2
     else
      (iter (fun s=>cand_Check_L2 n c y7 s) n 0).bind fun t9 =>
      match t9 with
      | .inl w10 =>
       (cand_ordered n c y7).bind fun y11 =>
       if (!y11)=true then
        some 2
       else
        some 0
      | .inr w10 =>
       some 2
    | .inr w6 =>
     some 2
def slices_Clone_int_int (n:Nat) (l:List Int):Option (List Int):=grd (Nat.ble (l.length * 8) 140737488355328) (some l)
def cand_own (n:Nat) (e:Event):Option Event :=
 (slices_Clone_int_int n e.Deps.Addr).bind fun y1 =>
 (slices_Clone_int_int n e.Deps.Data).bind fun y2 =>
 (slices_Clone_int_int n e.Deps.Way).bind fun y3 =>
 some (Event.mk e.Hart e.At e.Kind e.Addr e.Load e.Store e.Aq e.Rl e.Pred e.Succ e.Pair (Deps.mk y1 y2 y3))
def cand_All_L1 (n:Nat) (y3:(List Event)) (sa:(List Event)×Int):Option (((List Event)×Int)⊕((List Event))) :=
 if (decide (sa.2<(y3.length:Int)))=true then
  (getI y3 sa.2).bind fun xa2 =>
  (cand_own n xa2).bind fun ya3 =>
  grd (Nat.ble ((sa.1.length + 1) * 152) 140737488355328) <|
  some (.inl ((sa.1++([ya3]:List Event)),(addW .i64 sa.2 1)))
 else
  some (.inr sa.1)
def cand_All (n:Nat) (c:Cand):Option (List Event) :=
 (cand_Check n c).bind fun y1 =>
 if (y1 != 0)=true then
  some ([]:List Event)
 else
  (cand_flat_S n c.First c.Harts c.From c.Order).bind fun y3 =>
  (iter (fun s=>cand_All_L1 n y3 s) n (([]:List Event),0)).bind fun t4 =>
  some t4
def math_bits_Mul64 (n:Nat) (x:Int) (y:Int):Option (Int×Int) :=
 some ((addW .u64 (addW .u64 (mulW .u64 (shrW .u64 x 32) (shrW .u64 y 32)) (shrW .u64 (addW .u64 (mulW .u64 (shrW .u64 x 32) (andW .u64 y 4294967295)) (shrW .u64 (mulW .u64 (andW .u64 x 4294967295) (andW .u64 y 4294967295)) 32)) 32)) (shrW .u64 (addW .u64 (andW .u64 (addW .u64 (mulW .u64 (shrW .u64 x 32) (andW .u64 y 4294967295)) (shrW .u64 (mulW .u64 (andW .u64 x 4294967295) (andW .u64 y 4294967295)) 32)) 4294967295) (mulW .u64 (andW .u64 x 4294967295) (shrW .u64 y 32))) 32)),(mulW .u64 x y))
def math_bits_Mul (n:Nat) (x:Int) (y:Int):Option (Int×Int) :=
 (math_bits_Mul64 n x y).bind fun y1 =>
 some (y1.1,y1.2)
def slices_Repeat_int_int_S_L1 (n:Nat) (sa:(List Int)×Int):Option (((List Int)×Int)⊕((List Int))) :=
 if (decide (sa.2<(sa.1.length:Int)))=true then
  grd (decide ((0:Int)≤sa.2)&&decide (sa.2≤(sa.1.length:Int))) <|
  grd (decide ((0:Int)≤sa.2)&&decide (sa.2≤(sa.1.length:Int))) <|
  grd (Nat.ble ((sa.2).toNat + (sa.1.length - (sa.2).toNat)) sa.1.length) <|
  some (.inl ((sa.1.take ((sa.2).toNat)++(((sa.1.drop 0).take ((sa.2).toNat)).take (sa.1.length - (sa.2).toNat)++sa.1.drop ((sa.2).toNat + min ((sa.1.drop 0).take ((sa.2).toNat)).length (sa.1.length - (sa.2).toNat)))),(addW .i64 sa.2 ((min ((sa.1.drop 0).take ((sa.2).toNat)).length (sa.1.length - (sa.2).toNat):Nat):Int))))
 else
  some (.inr sa.1)
def slices_Repeat_int_int_S (n:Nat) (x:(List Int)) (count:Int):Option (List Int) :=
 if (decide (count<0))=true then
  none
 else
  (math_bits_Mul n (IntKind.wrap .u64 (x.length:Int)) (IntKind.wrap .u64 count)).bind fun y2 =>
  if (decide (y2.1>0))=true then
   none
  else
   if (decide (y2.2>9223372036854775807))=true then
    none
   else
    grd (decide ((0:Int)≤(IntKind.wrap .i64 y2.2))&&decide ((IntKind.wrap .i64 y2.2)≤(IntKind.wrap .i64 y2.2))&&decide (8 * (IntKind.wrap .i64 y2.2)≤140737488355328)&&decide ((IntKind.wrap .i64 y2.2)≤140737488355328)&&Nat.blt 0 1) <|
    (iter (fun s=>slices_Repeat_int_int_S_L1 n s) n ((x.take (List.replicate ((IntKind.wrap .i64 y2.2)).toNat 0).length++(List.replicate ((IntKind.wrap .i64 y2.2)).toNat 0).drop x.length),((min x.length (List.replicate ((IntKind.wrap .i64 y2.2)).toNat 0).length:Nat):Int))).bind fun t6 =>
    some t6
def cand_Places_L1 (n:Nat) (c:Cand) (sa:(List Int)×Int):Option (((List Int)×Int)⊕((List Int))) :=
 if (decide (sa.2<(c.Order.length:Int)))=true then
  (getI c.Order sa.2).bind fun xa2 =>
  (getI sa.1 xa2).bind fun xa3 =>
  some (.inl ((sa.1.set (xa2).toNat sa.2),(addW .i64 sa.2 1)))
 else
  some (.inr sa.1)
def cand_Places (n:Nat) (c:Cand):Option (List Int) :=
 (cand_Check n c).bind fun y1 =>
 if (y1 != 0)=true then
  some ([]:List Int)
 else
  (slices_Repeat_int_int_S n ([(-1)]:List Int) (c.From.length:Int)).bind fun y3 =>
  (iter (fun s=>cand_Places_L1 n c s) n (y3,0)).bind fun t4 =>
  some t4
def axiom_of_S_L1 (n:Nat) (oA:(List Cell)) (oB:(List (List Event))) (oC:(List Int)) (oD:(List Int)) (y3:(List Event)) (y4:(List Int)) (sa:(List Int×(List (Option (List Int))))×Int):Option (((List Int×(List (Option (List Int))))×Int)⊕((List Int×(List (Option (List Int)))))) :=
 if (decide (sa.2<(oD.length:Int)))=true then
  (getI oD sa.2).bind fun xa2 =>
  (getI y3 xa2).bind fun xa3 =>
  (event_Writes n xa3).bind fun ya4 =>
  if ya4=true then
   matchO (kfind beqI sa.1.1 xa3.Addr) (
    some (.inl (((sa.1.1++[xa3.Addr]),(sa.1.2++[some ([xa2]:List Int)])),(addW .i64 sa.2 1)))) fun za6 =>
    (sa.1.2[za6]?).bind fun xa8 =>
    matchO xa8 (
     some (.inl ((sa.1.1,(sa.1.2.set za6 (some ([xa2]:List Int)))),(addW .i64 sa.2 1)))) fun za9 =>
     grd (Nat.ble ((za9.length + 1) * 8) 140737488355328) <|
     some (.inl ((sa.1.1,(sa.1.2.set za6 (some (za9++([xa2]:List Int))))),(addW .i64 sa.2 1)))
  else
   some (.inl ((sa.1.1,sa.1.2),(addW .i64 sa.2 1)))
 else
  some (.inr (sa.1.1,sa.1.2))
def axiom_of_S (n:Nat) (oA:(List Cell)) (oB:(List (List Event))) (oC:(List Int)) (oD:(List Int)):Option (Unit⊕((List (Int×(List Int)))×(List Event)×(List Int))) :=
 (cand_Check n (Cand.mk oA oB oC oD)).bind fun y1 =>
 if (y1 != 0)=true then
  some (.inl ())
 else
  (cand_All n (Cand.mk oA oB oC oD)).bind fun y3 =>
  (cand_Places n (Cand.mk oA oB oC oD)).bind fun y4 =>
  (iter (fun s=>axiom_of_S_L1 n oA oB oC oD y3 y4 s) n ((([]:List Int),([]:List (Option (List Int)))),0)).bind fun t23 =>
  grd (allS t23.2) <|
  some (.inr ((zipM t23.1 t23.2),y3,y4))
def axiom_bad (n:Nat) (why:Int) (a:Int) (b:Int):Option Judged :=
 some (Judged.mk false why a b)
def slices_Repeat_int_int_S2_L1 (n:Nat) (oA:(List Cell)) (oB:(List (List Event))) (oC:(List Int)) (oD:(List Int)) (oE:(List Event)) (sa:(List Int)×Int):Option (((List Int)×Int)⊕((List Int))) :=
 if (decide (sa.2<(sa.1.length:Int)))=true then
  grd (decide ((0:Int)≤sa.2)&&decide (sa.2≤(sa.1.length:Int))) <|
  grd (decide ((0:Int)≤sa.2)&&decide (sa.2≤(sa.1.length:Int))) <|
  grd (Nat.ble ((sa.2).toNat + (sa.1.length - (sa.2).toNat)) sa.1.length) <|
  some (.inl ((sa.1.take ((sa.2).toNat)++(((sa.1.drop 0).take ((sa.2).toNat)).take (sa.1.length - (sa.2).toNat)++sa.1.drop ((sa.2).toNat + min ((sa.1.drop 0).take ((sa.2).toNat)).length (sa.1.length - (sa.2).toNat)))),(addW .i64 sa.2 ((min ((sa.1.drop 0).take ((sa.2).toNat)).length (sa.1.length - (sa.2).toNat):Nat):Int))))
 else
  some (.inr sa.1)
def slices_Repeat_int_int_S2 (n:Nat) (x:(List Int)) (count:Int) (oA:(List Cell)) (oB:(List (List Event))) (oC:(List Int)) (oD:(List Int)) (oE:(List Event)):Option (List Int) :=
 if (decide (count<0))=true then
  none
 else
  (math_bits_Mul n (IntKind.wrap .u64 (x.length:Int)) (IntKind.wrap .u64 count)).bind fun y2 =>
  if (decide (y2.1>0))=true then
   none
  else
   if (decide (y2.2>9223372036854775807))=true then
    none
   else
    grd (decide ((0:Int)≤(IntKind.wrap .i64 y2.2))&&decide ((IntKind.wrap .i64 y2.2)≤(IntKind.wrap .i64 y2.2))&&decide (8 * (IntKind.wrap .i64 y2.2)≤140737488355328)&&decide ((IntKind.wrap .i64 y2.2)≤140737488355328)&&Nat.blt 0 1) <|
    (iter (fun s=>slices_Repeat_int_int_S2_L1 n oA oB oC oD oE s) n ((x.take (List.replicate ((IntKind.wrap .i64 y2.2)).toNat 0).length++(List.replicate ((IntKind.wrap .i64 y2.2)).toNat 0).drop x.length),((min x.length (List.replicate ((IntKind.wrap .i64 y2.2)).toNat 0).length:Nat):Int))).bind fun t6 =>
    some t6
def ppo_of_L2 (n:Nat) (c:Cand) (y3:(List Event)) (xa2:Event) (sb:(List Int)×(List Int)×(List Int)×(List Int)×(List Int)×Int×Int×Int):Option (((List Int)×(List Int)×(List Int)×(List Int)×(List Int)×Int×Int×Int)⊕((List Int)×(List Int)×(List Int)×(List Int)×(List Int)×Int×Int)) :=
 if (decide (sb.2.2.2.2.2.2.1<4))=true then
  if (sb.2.2.2.2.2.2.1==0)=true then
   (getI sb.2.1 sb.2.2.2.2.2.2.2).bind fun xb3 =>
   (getI sb.2.1 (addW .i64 sb.2.2.2.2.2.2.2 1)).bind fun xb4 =>
   if (xa2.Kind==6)=true then
    grd (decide ((0:Int)≤(quoW .i64 sb.2.2.2.2.2.2.1 2))) <|
    if ((andW .i64 (shrW .i64 xa2.Pred (quoW .i64 sb.2.2.2.2.2.2.1 2)) 1)==1)=true then
     grd (decide ((0:Int)≤(remW .i64 sb.2.2.2.2.2.2.1 2))) <|
     if ((andW .i64 (shrW .i64 xa2.Succ (remW .i64 sb.2.2.2.2.2.2.1 2)) 1)==1)=true then
      (getI (sb.2.1.set ((addW .i64 sb.2.2.2.2.2.2.2 1)).toNat xb3) (addW .i64 sb.2.2.2.2.2.2.2 1)).bind fun xb10 =>
      some (.inl (sb.1,((sb.2.1.set ((addW .i64 sb.2.2.2.2.2.2.2 1)).toNat xb3).set ((addW .i64 sb.2.2.2.2.2.2.2 1)).toNat (addW .i64 xb10 1)),sb.2.2.1,sb.2.2.2.1,sb.2.2.2.2.1,sb.2.2.2.2.2.1,(addW .i64 sb.2.2.2.2.2.2.1 1),sb.2.2.2.2.2.2.2))
     else
      some (.inl (sb.1,(sb.2.1.set ((addW .i64 sb.2.2.2.2.2.2.2 1)).toNat xb3),sb.2.2.1,sb.2.2.2.1,sb.2.2.2.2.1,sb.2.2.2.2.2.1,(addW .i64 sb.2.2.2.2.2.2.1 1),sb.2.2.2.2.2.2.2))
    else
     some (.inl (sb.1,(sb.2.1.set ((addW .i64 sb.2.2.2.2.2.2.2 1)).toNat xb3),sb.2.2.1,sb.2.2.2.1,sb.2.2.2.2.1,sb.2.2.2.2.2.1,(addW .i64 sb.2.2.2.2.2.2.1 1),sb.2.2.2.2.2.2.2))
   else
    some (.inl (sb.1,(sb.2.1.set ((addW .i64 sb.2.2.2.2.2.2.2 1)).toNat xb3),sb.2.2.1,sb.2.2.2.1,sb.2.2.2.2.1,sb.2.2.2.2.2.1,(addW .i64 sb.2.2.2.2.2.2.1 1),sb.2.2.2.2.2.2.2))
  else
   if (sb.2.2.2.2.2.2.1==1)=true then
    (getI sb.2.2.1 sb.2.2.2.2.2.2.2).bind fun xb3 =>
    (getI sb.2.2.1 (addW .i64 sb.2.2.2.2.2.2.2 1)).bind fun xb4 =>
    if (xa2.Kind==6)=true then
     grd (decide ((0:Int)≤(quoW .i64 sb.2.2.2.2.2.2.1 2))) <|
     if ((andW .i64 (shrW .i64 xa2.Pred (quoW .i64 sb.2.2.2.2.2.2.1 2)) 1)==1)=true then
      grd (decide ((0:Int)≤(remW .i64 sb.2.2.2.2.2.2.1 2))) <|
      if ((andW .i64 (shrW .i64 xa2.Succ (remW .i64 sb.2.2.2.2.2.2.1 2)) 1)==1)=true then
       (getI (sb.2.2.1.set ((addW .i64 sb.2.2.2.2.2.2.2 1)).toNat xb3) (addW .i64 sb.2.2.2.2.2.2.2 1)).bind fun xb10 =>
       some (.inl (sb.1,sb.2.1,((sb.2.2.1.set ((addW .i64 sb.2.2.2.2.2.2.2 1)).toNat xb3).set ((addW .i64 sb.2.2.2.2.2.2.2 1)).toNat (addW .i64 xb10 1)),sb.2.2.2.1,sb.2.2.2.2.1,sb.2.2.2.2.2.1,(addW .i64 sb.2.2.2.2.2.2.1 1),sb.2.2.2.2.2.2.2))
      else
       some (.inl (sb.1,sb.2.1,(sb.2.2.1.set ((addW .i64 sb.2.2.2.2.2.2.2 1)).toNat xb3),sb.2.2.2.1,sb.2.2.2.2.1,sb.2.2.2.2.2.1,(addW .i64 sb.2.2.2.2.2.2.1 1),sb.2.2.2.2.2.2.2))
     else
      some (.inl (sb.1,sb.2.1,(sb.2.2.1.set ((addW .i64 sb.2.2.2.2.2.2.2 1)).toNat xb3),sb.2.2.2.1,sb.2.2.2.2.1,sb.2.2.2.2.2.1,(addW .i64 sb.2.2.2.2.2.2.1 1),sb.2.2.2.2.2.2.2))
    else
     some (.inl (sb.1,sb.2.1,(sb.2.2.1.set ((addW .i64 sb.2.2.2.2.2.2.2 1)).toNat xb3),sb.2.2.2.1,sb.2.2.2.2.1,sb.2.2.2.2.2.1,(addW .i64 sb.2.2.2.2.2.2.1 1),sb.2.2.2.2.2.2.2))
   else
    if (sb.2.2.2.2.2.2.1==2)=true then
     (getI sb.2.2.2.1 sb.2.2.2.2.2.2.2).bind fun xb3 =>
     (getI sb.2.2.2.1 (addW .i64 sb.2.2.2.2.2.2.2 1)).bind fun xb4 =>
     if (xa2.Kind==6)=true then
      grd (decide ((0:Int)≤(quoW .i64 sb.2.2.2.2.2.2.1 2))) <|
      if ((andW .i64 (shrW .i64 xa2.Pred (quoW .i64 sb.2.2.2.2.2.2.1 2)) 1)==1)=true then
       grd (decide ((0:Int)≤(remW .i64 sb.2.2.2.2.2.2.1 2))) <|
       if ((andW .i64 (shrW .i64 xa2.Succ (remW .i64 sb.2.2.2.2.2.2.1 2)) 1)==1)=true then
        (getI (sb.2.2.2.1.set ((addW .i64 sb.2.2.2.2.2.2.2 1)).toNat xb3) (addW .i64 sb.2.2.2.2.2.2.2 1)).bind fun xb10 =>
        some (.inl (sb.1,sb.2.1,sb.2.2.1,((sb.2.2.2.1.set ((addW .i64 sb.2.2.2.2.2.2.2 1)).toNat xb3).set ((addW .i64 sb.2.2.2.2.2.2.2 1)).toNat (addW .i64 xb10 1)),sb.2.2.2.2.1,sb.2.2.2.2.2.1,(addW .i64 sb.2.2.2.2.2.2.1 1),sb.2.2.2.2.2.2.2))
       else
        some (.inl (sb.1,sb.2.1,sb.2.2.1,(sb.2.2.2.1.set ((addW .i64 sb.2.2.2.2.2.2.2 1)).toNat xb3),sb.2.2.2.2.1,sb.2.2.2.2.2.1,(addW .i64 sb.2.2.2.2.2.2.1 1),sb.2.2.2.2.2.2.2))
      else
       some (.inl (sb.1,sb.2.1,sb.2.2.1,(sb.2.2.2.1.set ((addW .i64 sb.2.2.2.2.2.2.2 1)).toNat xb3),sb.2.2.2.2.1,sb.2.2.2.2.2.1,(addW .i64 sb.2.2.2.2.2.2.1 1),sb.2.2.2.2.2.2.2))
     else
      some (.inl (sb.1,sb.2.1,sb.2.2.1,(sb.2.2.2.1.set ((addW .i64 sb.2.2.2.2.2.2.2 1)).toNat xb3),sb.2.2.2.2.1,sb.2.2.2.2.2.1,(addW .i64 sb.2.2.2.2.2.2.1 1),sb.2.2.2.2.2.2.2))
    else
     if (sb.2.2.2.2.2.2.1==3)=true then
      (getI sb.2.2.2.2.1 sb.2.2.2.2.2.2.2).bind fun xb3 =>
      (getI sb.2.2.2.2.1 (addW .i64 sb.2.2.2.2.2.2.2 1)).bind fun xb4 =>
      if (xa2.Kind==6)=true then
       grd (decide ((0:Int)≤(quoW .i64 sb.2.2.2.2.2.2.1 2))) <|
       if ((andW .i64 (shrW .i64 xa2.Pred (quoW .i64 sb.2.2.2.2.2.2.1 2)) 1)==1)=true then
        grd (decide ((0:Int)≤(remW .i64 sb.2.2.2.2.2.2.1 2))) <|
        if ((andW .i64 (shrW .i64 xa2.Succ (remW .i64 sb.2.2.2.2.2.2.1 2)) 1)==1)=true then
         (getI (sb.2.2.2.2.1.set ((addW .i64 sb.2.2.2.2.2.2.2 1)).toNat xb3) (addW .i64 sb.2.2.2.2.2.2.2 1)).bind fun xb10 =>
         some (.inl (sb.1,sb.2.1,sb.2.2.1,sb.2.2.2.1,((sb.2.2.2.2.1.set ((addW .i64 sb.2.2.2.2.2.2.2 1)).toNat xb3).set ((addW .i64 sb.2.2.2.2.2.2.2 1)).toNat (addW .i64 xb10 1)),sb.2.2.2.2.2.1,(addW .i64 sb.2.2.2.2.2.2.1 1),sb.2.2.2.2.2.2.2))
        else
         some (.inl (sb.1,sb.2.1,sb.2.2.1,sb.2.2.2.1,(sb.2.2.2.2.1.set ((addW .i64 sb.2.2.2.2.2.2.2 1)).toNat xb3),sb.2.2.2.2.2.1,(addW .i64 sb.2.2.2.2.2.2.1 1),sb.2.2.2.2.2.2.2))
       else
        some (.inl (sb.1,sb.2.1,sb.2.2.1,sb.2.2.2.1,(sb.2.2.2.2.1.set ((addW .i64 sb.2.2.2.2.2.2.2 1)).toNat xb3),sb.2.2.2.2.2.1,(addW .i64 sb.2.2.2.2.2.2.1 1),sb.2.2.2.2.2.2.2))
      else
       some (.inl (sb.1,sb.2.1,sb.2.2.1,sb.2.2.2.1,(sb.2.2.2.2.1.set ((addW .i64 sb.2.2.2.2.2.2.2 1)).toNat xb3),sb.2.2.2.2.2.1,(addW .i64 sb.2.2.2.2.2.2.1 1),sb.2.2.2.2.2.2.2))
     else
      none
 else
  some (.inr (sb.1,sb.2.1,sb.2.2.1,sb.2.2.2.1,sb.2.2.2.2.1,sb.2.2.2.2.2.1,sb.2.2.2.2.2.2.2))
def ppo_of_L3 (n:Nat) (c:Cand) (y3:(List Event)) (xa2:Event) (sb:(List Int)×(List Int)×(List Int)×(List Int)×(List Int)×Int×Int×Int):Option (((List Int)×(List Int)×(List Int)×(List Int)×(List Int)×Int×Int×Int)⊕((List Int)×(List Int)×(List Int)×(List Int)×(List Int)×Int)) :=
 if (decide (sb.2.2.2.2.2.1<(xa2.Deps.Addr.length:Int)))=true then
  (getI xa2.Deps.Addr sb.2.2.2.2.2.1).bind fun xb2 =>
  (getI sb.1 (addW .i64 (subW .i64 sb.2.2.2.2.2.2.2 xa2.At) xb2)).bind fun xb3 =>
  some (.inl ((sb.1.set ((addW .i64 (subW .i64 sb.2.2.2.2.2.2.2 xa2.At) xb2)).toNat (minI xb3 sb.2.2.2.2.2.2.2)),sb.2.1,sb.2.2.1,sb.2.2.2.1,sb.2.2.2.2.1,(addW .i64 sb.2.2.2.2.2.1 1),sb.2.2.2.2.2.2.1,sb.2.2.2.2.2.2.2))
 else
  some (.inr (sb.1,sb.2.1,sb.2.2.1,sb.2.2.2.1,sb.2.2.2.2.1,sb.2.2.2.2.2.2.1))
def ppo_of_L1 (n:Nat) (c:Cand) (y3:(List Event)) (sa:(List Int)×(List Int)×(List Int)×(List Int)×(List Int)×Int):Option (((List Int)×(List Int)×(List Int)×(List Int)×(List Int)×Int)⊕((List Int)×(List Int)×(List Int)×(List Int)×(List Int))) :=
 if (decide (sa.2.2.2.2.2<(y3.length:Int)))=true then
  (getI y3 sa.2.2.2.2.2).bind fun xa2 =>
  (iter (fun s=>ppo_of_L2 n c y3 xa2 s) n (sa.1,sa.2.1,sa.2.2.1,sa.2.2.2.1,sa.2.2.2.2.1,sa.2.2.2.2.2,0,sa.2.2.2.2.2)).bind fun ta3 =>
  (iter (fun s=>ppo_of_L3 n c y3 xa2 s) n (ta3.1,ta3.2.1,ta3.2.2.1,ta3.2.2.2.1,ta3.2.2.2.2.1,0,ta3.2.2.2.2.2.1,ta3.2.2.2.2.2.2)).bind fun ta4 =>
  some (.inl (ta4.1,ta4.2.1,ta4.2.2.1,ta4.2.2.2.1,ta4.2.2.2.2.1,(addW .i64 ta4.2.2.2.2.2 1)))
 else
  some (.inr (sa.1,sa.2.1,sa.2.2.1,sa.2.2.2.1,sa.2.2.2.2.1))
def ppo_of (n:Nat) (c:Cand):Option (Option ppo_view) :=
 (cand_Check n c).bind fun y1 =>
 if (y1 != 0)=true then
  some (none:Option ppo_view)
 else
  (slices_Concat_api_Event_api_Event n c.Harts).bind fun y3 =>
  (slices_Repeat_int_int_S2 n ([(y3.length:Int)]:List Int) (y3.length:Int) c.First c.Harts c.From c.Order y3).bind fun y4 =>
  grd (decide ((0:Int)≤(addW .i64 (y3.length:Int) 1))&&decide ((addW .i64 (y3.length:Int) 1)≤(addW .i64 (y3.length:Int) 1))&&decide (8 * (addW .i64 (y3.length:Int) 1)≤140737488355328)&&decide ((addW .i64 (y3.length:Int) 1)≤140737488355328)&&Nat.blt 0 1) <|
  grd (decide ((0:Int)≤(addW .i64 (y3.length:Int) 1))&&decide ((addW .i64 (y3.length:Int) 1)≤(addW .i64 (y3.length:Int) 1))&&decide (8 * (addW .i64 (y3.length:Int) 1)≤140737488355328)&&decide ((addW .i64 (y3.length:Int) 1)≤140737488355328)&&Nat.blt 0 1) <|
  grd (decide ((0:Int)≤(addW .i64 (y3.length:Int) 1))&&decide ((addW .i64 (y3.length:Int) 1)≤(addW .i64 (y3.length:Int) 1))&&decide (8 * (addW .i64 (y3.length:Int) 1)≤140737488355328)&&decide ((addW .i64 (y3.length:Int) 1)≤140737488355328)&&Nat.blt 0 1) <|
  grd (decide ((0:Int)≤(addW .i64 (y3.length:Int) 1))&&decide ((addW .i64 (y3.length:Int) 1)≤(addW .i64 (y3.length:Int) 1))&&decide (8 * (addW .i64 (y3.length:Int) 1)≤140737488355328)&&decide ((addW .i64 (y3.length:Int) 1)≤140737488355328)&&Nat.blt 0 1) <|
  (iter (fun s=>ppo_of_L1 n c y3 s) n (y4,(List.replicate ((addW .i64 (y3.length:Int) 1)).toNat 0),(List.replicate ((addW .i64 (y3.length:Int) 1)).toNat 0),(List.replicate ((addW .i64 (y3.length:Int) 1)).toNat 0),(List.replicate ((addW .i64 (y3.length:Int) 1)).toNat 0),0)).bind fun t9 =>
  some (some (ppo_view.mk (some c) y3 (Arr4.mk t9.2.1 t9.2.2.1 t9.2.2.2.1 t9.2.2.2.2) t9.1))
def ppo_view_ahead (n:Nat) (v:ppo_view) (a:Int) (b:Int):Option Bool :=
 if (decide (a<0))=true then
  some false
 else
  if (decide (b≥(v.all.length:Int)))=true then
   some false
  else
   if (decide (a≥b))=true then
    some false
   else
    (getI v.all a).bind fun x4 =>
    (getI v.all b).bind fun x5 =>
    if (x4.Hart==x5.Hart)=true then
     (event_Memory n x4).bind fun y7 =>
     if y7=true then
      (event_Memory n x5).bind fun y9 =>
      some y9
     else
      some false
    else
     some false
def ppo_rules (n:Nat):Option Unit :=
 some ()
def ppo_rules_1 (n:Nat) (v:ppo_view) (a:Int) (b:Int) (x:Event) (y:Event):Option Bool :=
 (event_Writes n y).bind fun y1 =>
 if y1=true then
  some (x.Addr==y.Addr)
 else
  some false
def ppo_rules_2_1 (n:Nat) (m:Event) (a:Int) (a_:Int) (a_A:Int) (a_B:Int) (a_C:Int) (a_D:Int) (a_E:Bool) (a_F:Bool) (a_G:Int) (a_H:Int) (a_I:Int) (a_J:(List Int)) (a_K:(List Int)) (a_L:(List Int)):Option Bool :=
 (event_Writes n m).bind fun y1 =>
 if y1=true then
  some (m.Addr==a_B)
 else
  some false
def slices_IndexFunc_api_Event_api_Event_L1 (n:Nat) (s_:(List Event)) (f:Int) (f_:Int) (f_A:Int) (f_B:Int) (f_C:Int) (f_D:Int) (f_E:Bool) (f_F:Bool) (f_G:Int) (f_H:Int) (f_I:Int) (f_J:(List Int)) (f_K:(List Int)) (f_L:(List Int)) (sa:Int):Option (Int⊕(Unit⊕Int)) :=
 if (decide (sa<(s_.length:Int)))=true then
  (getI s_ sa).bind fun xa2 =>
  (ppo_rules_2_1 n xa2 f f_ f_A f_B f_C f_D f_E f_F f_G f_H f_I f_J f_K f_L).bind fun ya3 =>
  if ya3=true then
   some (.inr (.inr sa))
  else
   some (.inl (addW .i64 sa 1))
 else
  some (.inr (.inl ()))
def slices_IndexFunc_api_Event_api_Event (n:Nat) (s_:(List Event)) (f:Int) (f_:Int) (f_A:Int) (f_B:Int) (f_C:Int) (f_D:Int) (f_E:Bool) (f_F:Bool) (f_G:Int) (f_H:Int) (f_I:Int) (f_J:(List Int)) (f_K:(List Int)) (f_L:(List Int)):Option Int :=
 (iter (fun s=>slices_IndexFunc_api_Event_api_Event_L1 n s_ f f_ f_A f_B f_C f_D f_E f_F f_G f_H f_I f_J f_K f_L s) n 0).bind fun t1 =>
 match t1 with
 | .inl w2 =>
  some (-1)
 | .inr w2 =>
  some w2
def slices_ContainsFunc_api_Event_api_Event (n:Nat) (s_:(List Event)) (f:Int) (f_:Int) (f_A:Int) (f_B:Int) (f_C:Int) (f_D:Int) (f_E:Bool) (f_F:Bool) (f_G:Int) (f_H:Int) (f_I:Int) (f_J:(List Int)) (f_K:(List Int)) (f_L:(List Int)):Option Bool :=
 (slices_IndexFunc_api_Event_api_Event n s_ f f_ f_A f_B f_C f_D f_E f_F f_G f_H f_I f_J f_K f_L).bind fun y1 =>
 some (decide (y1≥0))
def ppo_rules_2 (n:Nat) (v:ppo_view) (a:Int) (b:Int) (x:Event) (y:Event):Option Bool :=
 if (x.Addr != y.Addr)=true then
  some false
 else
  (event_Reads n x).bind fun y2 =>
  if (!y2)=true then
   some false
  else
   (event_Reads n y).bind fun y4 =>
   if (!y4)=true then
    some false
   else
    matchO v.c (
     none) fun z6 =>
     (getI z6.From a).bind fun x8 =>
     matchO v.c (
      none) fun z9 =>
      (getI z9.From b).bind fun x11 =>
      if (x8==x11)=true then
       some false
      else
       grd (decide ((0:Int)≤(addW .i64 a 1))&&decide ((addW .i64 a 1)≤b)&&decide (b≤(v.all.length:Int))) <|
       (slices_ContainsFunc_api_Event_api_Event n ((v.all.drop ((addW .i64 a 1)).toNat).take ((b).toNat - ((addW .i64 a 1)).toNat)) x.Hart x.At x.Kind x.Addr x.Load x.Store x.Aq x.Rl x.Pred x.Succ x.Pair x.Deps.Addr x.Deps.Data x.Deps.Way).bind fun y14 =>
       some (!y14)
def ppo_rules_3 (n:Nat) (v:ppo_view) (a:Int) (b:Int) (x:Event) (y:Event):Option Bool :=
 if (x.Kind==4)=true then
  (event_Reads n y).bind fun y2 =>
  if y2=true then
   matchO v.c (
    none) fun z4 =>
    (getI z4.From b).bind fun x6 =>
    some (x6==a)
  else
   some false
 else
  if (x.Kind==5)=true then
   (event_Reads n y).bind fun y3 =>
   if y3=true then
    matchO v.c (
     none) fun z5 =>
     (getI z5.From b).bind fun x7 =>
     some (x7==a)
   else
    some false
  else
   some false
def ppo_sides (n:Nat) (e:Event):Option (List Int) :=
 (event_Writes n e).bind fun y1 =>
 if y1=true then
  (event_Reads n e).bind fun y3 =>
  if y3=true then
   grd (Nat.ble ((([0]:List Int).length + 1) * 8) 140737488355328) <|
   some (([0]:List Int)++([1]:List Int))
  else
   some ([0]:List Int)
 else
  (event_Reads n e).bind fun y3 =>
  if y3=true then
   some ([1]:List Int)
  else
   some ([]:List Int)
def ppo_view_fenced_L2 (n:Nat) (v:ppo_view) (a:Int) (b:Int) (y2:(List Int)) (xa2:Int) (ya4:(List Int)) (sb:Int×Int):Option ((Int×Int)⊕(Int⊕Unit)) :=
 if (decide (sb.2<(ya4.length:Int)))=true then
  (getI ya4 sb.2).bind fun xb2 =>
  if ((addW .i64 (mulW .i64 2 xa2) xb2)==0)=true then
   (getI v.fences.e0 b).bind fun xb4 =>
   (getI v.fences.e0 a).bind fun xb5 =>
   if (decide (xb4>xb5))=true then
    some (.inr (.inr ()))
   else
    some (.inl (sb.1,(addW .i64 sb.2 1)))
  else
   if ((addW .i64 (mulW .i64 2 xa2) xb2)==1)=true then
    (getI v.fences.e1 b).bind fun xb4 =>
    (getI v.fences.e1 a).bind fun xb5 =>
    if (decide (xb4>xb5))=true then
     some (.inr (.inr ()))
    else
     some (.inl (sb.1,(addW .i64 sb.2 1)))
   else
    if ((addW .i64 (mulW .i64 2 xa2) xb2)==2)=true then
     (getI v.fences.e2 b).bind fun xb4 =>
     (getI v.fences.e2 a).bind fun xb5 =>
     if (decide (xb4>xb5))=true then
      some (.inr (.inr ()))
     else
      some (.inl (sb.1,(addW .i64 sb.2 1)))
    else
     if ((addW .i64 (mulW .i64 2 xa2) xb2)==3)=true then
      (getI v.fences.e3 b).bind fun xb4 =>
      (getI v.fences.e3 a).bind fun xb5 =>
      if (decide (xb4>xb5))=true then
       some (.inr (.inr ()))
      else
       some (.inl (sb.1,(addW .i64 sb.2 1)))
     else
      none
 else
  some (.inr (.inl sb.1))
def ppo_view_fenced_L1 (n:Nat) (v:ppo_view) (a:Int) (b:Int) (y2:(List Int)) (sa:Int):Option (Int⊕(Unit⊕Unit)) :=
 if (decide (sa<(y2.length:Int)))=true then
  (getI y2 sa).bind fun xa2 =>
  (getI v.all b).bind fun xa3 =>
  (ppo_sides n xa3).bind fun ya4 =>
  (iter (fun s=>ppo_view_fenced_L2 n v a b y2 xa2 ya4 s) n (sa,0)).bind fun ta5 =>
  match ta5 with
  | .inl wa6 =>
   some (.inl (addW .i64 wa6 1))
  | .inr wa6 =>
   some (.inr (.inr ()))
 else
  some (.inr (.inl ()))
def ppo_view_fenced (n:Nat) (v:ppo_view) (a:Int) (b:Int):Option Bool :=
 (getI v.all a).bind fun x1 =>
 (ppo_sides n x1).bind fun y2 =>
 (iter (fun s=>ppo_view_fenced_L1 n v a b y2 s) n 0).bind fun t3 =>
 match t3 with
 | .inl w4 =>
  some false
 | .inr w4 =>
  some true
def ppo_rules_4 (n:Nat) (v:ppo_view) (a:Int) (b:Int) (x:Event) (y:Event):Option Bool :=
 (ppo_view_fenced n v a b).bind fun y1 =>
 some y1
def ppo_rules_5 (n:Nat) (v:ppo_view) (a:Int) (b:Int) (x:Event) (y:Event):Option Bool :=
 some x.Aq
def ppo_rules_6 (n:Nat) (v:ppo_view) (a:Int) (b:Int) (x:Event) (y:Event):Option Bool :=
 some y.Rl
def ppo_rules_7 (n:Nat) (v:ppo_view) (a:Int) (b:Int) (x:Event) (y:Event):Option Bool :=
 if x.Aq=true then
  if y.Aq=true then
   some true
  else
   some y.Rl
 else
  if x.Rl=true then
   if y.Aq=true then
    some true
   else
    some y.Rl
  else
   some false
def ppo_rules_8 (n:Nat) (v:ppo_view) (a:Int) (b:Int) (x:Event) (y:Event):Option Bool :=
 if (y.Kind==4)=true then
  some (y.Pair==x.At)
 else
  some false
def cmp_isNaN_int (n:Nat) (x:Int):Option Bool :=
 some (x != x)
def cmp_Less_int (n:Nat) (x:Int) (y:Int):Option Bool :=
 (cmp_isNaN_int n x).bind fun y1 =>
 if y1=true then
  (cmp_isNaN_int n y).bind fun y3 =>
  if (!y3)=true then
   some true
  else
   some (decide (x<y))
 else
  some (decide (x<y))
def slices_isNaN_int (n:Nat) (x:Int):Option Bool :=
 some (x != x)
def slices_BinarySearch_int_int_L1 (n:Nat) (x:(List Int)) (target:Int) (sa:Int×Int):Option ((Int×Int)⊕Int) :=
 if (decide (sa.1<sa.2))=true then
  (getI x (IntKind.wrap .i64 (shrW .u64 (IntKind.wrap .u64 (addW .i64 sa.1 sa.2)) 1))).bind fun xa2 =>
  (cmp_Less_int n xa2 target).bind fun ya3 =>
  if ya3=true then
   some (.inl ((addW .i64 (IntKind.wrap .i64 (shrW .u64 (IntKind.wrap .u64 (addW .i64 sa.1 sa.2)) 1)) 1),sa.2))
  else
   some (.inl (sa.1,(IntKind.wrap .i64 (shrW .u64 (IntKind.wrap .u64 (addW .i64 sa.1 sa.2)) 1))))
 else
  some (.inr sa.1)
def slices_BinarySearch_int_int (n:Nat) (x:(List Int)) (target:Int):Option (Int×Bool) :=
 (iter (fun s=>slices_BinarySearch_int_int_L1 n x target s) n (0,(x.length:Int))).bind fun t1 =>
 if (decide (t1<(x.length:Int)))=true then
  (getI x t1).bind fun x3 =>
  if (x3==target)=true then
   some (t1,true)
  else
   (slices_isNaN_int n x3).bind fun y5 =>
   if y5=true then
    (slices_isNaN_int n target).bind fun y7 =>
    some (t1,y7)
   else
    some (t1,false)
 else
  some (t1,false)
def ppo_on (n:Nat) (l:(List Int)) (at_:Int):Option Bool :=
 (slices_BinarySearch_int_int n l at_).bind fun y1 =>
 some y1.2
def ppo_rules_9 (n:Nat) (v:ppo_view) (a:Int) (b:Int) (x:Event) (y:Event):Option Bool :=
 (ppo_on n y.Deps.Addr x.At).bind fun y1 =>
 some y1
def ppo_rules_10 (n:Nat) (v:ppo_view) (a:Int) (b:Int) (x:Event) (y:Event):Option Bool :=
 (ppo_on n y.Deps.Data x.At).bind fun y1 =>
 some y1
def ppo_rules_11 (n:Nat) (v:ppo_view) (a:Int) (b:Int) (x:Event) (y:Event):Option Bool :=
 (event_Writes n y).bind fun y1 =>
 if y1=true then
  (ppo_on n y.Deps.Way x.At).bind fun y3 =>
  some y3
 else
  some false
def ppo_rules_12 (n:Nat) (v:ppo_view) (a:Int) (b:Int) (x:Event) (y:Event):Option Bool :=
 matchO v.c (
  none) fun z1 =>
  (getI z1.From b).bind fun x3 =>
  (event_Reads n y).bind fun y4 =>
  if y4=true then
   if (decide (x3>a))=true then
    if (decide (x3<b))=true then
     (getI v.all x3).bind fun x8 =>
     (ppo_on n x8.Deps.Addr x.At).bind fun y9 =>
     if y9=true then
      some true
     else
      (ppo_on n x8.Deps.Data x.At).bind fun y11 =>
      some y11
    else
     some false
   else
    some false
  else
   some false
def ppo_rules_13 (n:Nat) (v:ppo_view) (a:Int) (b:Int) (x:Event) (y:Event):Option Bool :=
 (event_Writes n y).bind fun y1 =>
 if y1=true then
  (getI v.hung a).bind fun x3 =>
  some (decide (x3<b))
 else
  some false
def ppo_view_rule_L1 (n:Nat) (v:ppo_view) (a:Int) (b:Int) (sa:Int):Option (Int⊕(Unit⊕Int)) :=
 if (decide (sa<13))=true then
  if (sa==0)=true then
   (getI v.all a).bind fun xa3 =>
   (getI v.all b).bind fun xa4 =>
   (ppo_rules_1 n v a b xa3 xa4).bind fun ya5 =>
   if ya5=true then
    some (.inr (.inr 1))
   else
    some (.inl 1)
  else
   if (sa==1)=true then
    (getI v.all a).bind fun xa3 =>
    (getI v.all b).bind fun xa4 =>
    (ppo_rules_2 n v a b xa3 xa4).bind fun ya5 =>
    if ya5=true then
     some (.inr (.inr 2))
    else
     some (.inl 2)
   else
    if (sa==2)=true then
     (getI v.all a).bind fun xa3 =>
     (getI v.all b).bind fun xa4 =>
     (ppo_rules_3 n v a b xa3 xa4).bind fun ya5 =>
     if ya5=true then
      some (.inr (.inr 3))
     else
      some (.inl 3)
    else
     if (sa==3)=true then
      (getI v.all a).bind fun xa3 =>
      (getI v.all b).bind fun xa4 =>
      (ppo_rules_4 n v a b xa3 xa4).bind fun ya5 =>
      if ya5=true then
       some (.inr (.inr 4))
      else
       some (.inl 4)
     else
      if (sa==4)=true then
       (getI v.all a).bind fun xa3 =>
       (getI v.all b).bind fun xa4 =>
       (ppo_rules_5 n v a b xa3 xa4).bind fun ya5 =>
       if ya5=true then
        some (.inr (.inr 5))
       else
        some (.inl 5)
      else
       if (sa==5)=true then
        (getI v.all a).bind fun xa3 =>
        (getI v.all b).bind fun xa4 =>
        (ppo_rules_6 n v a b xa3 xa4).bind fun ya5 =>
        if ya5=true then
         some (.inr (.inr 6))
        else
         some (.inl 6)
       else
        if (sa==6)=true then
         (getI v.all a).bind fun xa3 =>
         (getI v.all b).bind fun xa4 =>
         (ppo_rules_7 n v a b xa3 xa4).bind fun ya5 =>
         if ya5=true then
          some (.inr (.inr 7))
         else
          some (.inl 7)
        else
         if (sa==7)=true then
          (getI v.all a).bind fun xa3 =>
          (getI v.all b).bind fun xa4 =>
          (ppo_rules_8 n v a b xa3 xa4).bind fun ya5 =>
          if ya5=true then
           some (.inr (.inr 8))
          else
           some (.inl 8)
         else
          if (sa==8)=true then
           (getI v.all a).bind fun xa3 =>
           (getI v.all b).bind fun xa4 =>
           (ppo_rules_9 n v a b xa3 xa4).bind fun ya5 =>
           if ya5=true then
            some (.inr (.inr 9))
           else
            some (.inl 9)
          else
           if (sa==9)=true then
            (getI v.all a).bind fun xa3 =>
            (getI v.all b).bind fun xa4 =>
            (ppo_rules_10 n v a b xa3 xa4).bind fun ya5 =>
            if ya5=true then
             some (.inr (.inr 10))
            else
             some (.inl 10)
           else
            if (sa==10)=true then
             (getI v.all a).bind fun xa3 =>
             (getI v.all b).bind fun xa4 =>
             (ppo_rules_11 n v a b xa3 xa4).bind fun ya5 =>
             if ya5=true then
              some (.inr (.inr 11))
             else
              some (.inl 11)
            else
             if (sa==11)=true then
              (getI v.all a).bind fun xa3 =>
              (getI v.all b).bind fun xa4 =>
              (ppo_rules_12 n v a b xa3 xa4).bind fun ya5 =>
              if ya5=true then
               some (.inr (.inr 12))
              else
               some (.inl 12)
             else
              if (sa==12)=true then
               (getI v.all a).bind fun xa3 =>
               (getI v.all b).bind fun xa4 =>
               (ppo_rules_13 n v a b xa3 xa4).bind fun ya5 =>
               if ya5=true then
                some (.inr (.inr 13))
               else
                some (.inl 13)
              else
               if (sa==13)=true then
                none
               else
                none
 else
  some (.inr (.inl ()))
def ppo_view_rule (n:Nat) (v:ppo_view) (a:Int) (b:Int):Option Int :=
 (ppo_view_ahead n v a b).bind fun y1 =>
 if (!y1)=true then
  some 0
 else
  (ppo_rules n).bind fun y3 =>
  (iter (fun s=>ppo_view_rule_L1 n v a b s) n 0).bind fun t4 =>
  match t4 with
  | .inl w5 =>
   some 0
  | .inr w5 =>
   some w5
def ppo_Pairs_L2 (n:Nat) (z2:ppo_view) (xa2:Event) (sb:(List (Arr2 Int))×Int×Int×Int):Option (((List (Arr2 Int))×Int×Int×Int)⊕((List (Arr2 Int))×Int)) :=
 if (decide (sb.2.2.2<(z2.all.length:Int)))=true then
  (getI z2.all sb.2.2.2).bind fun xb2 =>
  if (xb2.Hart==xa2.Hart)=true then
   (ppo_view_rule n z2 sb.2.2.1 sb.2.2.2).bind fun yb4 =>
   if (decide (yb4>0))=true then
    grd (Nat.ble ((sb.1.length + 1) * 16) 140737488355328) <|
    some (.inl ((sb.1++([(Arr2.mk sb.2.2.1 sb.2.2.2)]:List (Arr2 Int))),sb.2.1,sb.2.2.1,(addW .i64 sb.2.2.2 1)))
   else
    some (.inl (sb.1,sb.2.1,sb.2.2.1,(addW .i64 sb.2.2.2 1)))
  else
   some (.inr (sb.1,sb.2.1))
 else
  some (.inr (sb.1,sb.2.1))
def ppo_Pairs_L1 (n:Nat) (z2:ppo_view) (sa:(List (Arr2 Int))×Int):Option (((List (Arr2 Int))×Int)⊕((List (Arr2 Int)))) :=
 if (decide (sa.2<(z2.all.length:Int)))=true then
  (getI z2.all sa.2).bind fun xa2 =>
  (iter (fun s=>ppo_Pairs_L2 n z2 xa2 s) n (sa.1,sa.2,sa.2,(addW .i64 sa.2 1))).bind fun ta3 =>
  some (.inl (ta3.1,(addW .i64 ta3.2 1)))
 else
  some (.inr sa.1)
def ppo_Pairs (n:Nat) (c:Cand):Option (List (Arr2 Int)) :=
 (ppo_of n c).bind fun y1 =>
 match y1 with
 | none =>
  some ([]:List (Arr2 Int))
 | some z2 =>
  (iter (fun s=>ppo_Pairs_L1 n z2 s) n (([]:List (Arr2 Int)),0)).bind fun t3 =>
  some t3
def axiom_good (n:Nat):Option Judged :=
 some (Judged.mk true 0 (-1) (-1))
def axiom_court_order_S_L1 (n:Nat) (oA:(List Cell)) (oB:(List (List Event))) (oC:(List Int)) (oD:(List Int)) (oE:(List (Int×(List Int)))) (oF:(List Event)) (oG:(List Int)) (y1:(List (Arr2 Int))) (sa:Int):Option (Int⊕(Unit⊕(Bool×Int×Int×Int))) :=
 if (decide (sa<(y1.length:Int)))=true then
  (getI y1 sa).bind fun xa2 =>
  (getI oG xa2.e0).bind fun xa3 =>
  (getI oG xa2.e1).bind fun xa4 =>
  if (decide (xa3>xa4))=true then
   (axiom_bad n 2 xa2.e0 xa2.e1).bind fun ya6 =>
   some (.inr (.inr (ya6.OK,ya6.Why,ya6.A_,ya6.B)))
  else
   some (.inl (addW .i64 sa 1))
 else
  some (.inr (.inl ()))
def axiom_court_order_S (n:Nat) (oA:(List Cell)) (oB:(List (List Event))) (oC:(List Int)) (oD:(List Int)) (oE:(List (Int×(List Int)))) (oF:(List Event)) (oG:(List Int)):Option (Bool×Int×Int×Int) :=
 (ppo_Pairs n (Cand.mk oA oB oC oD)).bind fun y1 =>
 (iter (fun s=>axiom_court_order_S_L1 n oA oB oC oD oE oF oG y1 s) n 0).bind fun t2 =>
 match t2 with
 | .inl w3 =>
  (axiom_good n).bind fun y4 =>
  some (y4.OK,y4.Why,y4.A_,y4.B)
 | .inr w3 =>
  some (w3.1,w3.2.1,w3.2.2.1,w3.2.2.2)
def axiom_court_source_S_L1 (n:Nat) (n_:Int) (oA:(List Cell)) (oB:(List (List Event))) (oC:(List Int)) (oD:(List Int)) (oE:(List (Int×(List Int)))) (oF:(List Event)) (oG:(List Int)) (x1:Event) (sa:(List Int)×Int):Option (((List Int)×Int)⊕(Unit⊕Int)) :=
 if (decide (sa.2≥0))=true then
  (getI sa.1 sa.2).bind fun xa2 =>
  (getI oF xa2).bind fun xa3 =>
  if (xa2 != n_)=true then
   (getI oG xa2).bind fun xa5 =>
   (getI oG n_).bind fun xa6 =>
   if (decide (xa5<xa6))=true then
    some (.inr (.inr xa2))
   else
    if (xa3.Hart==x1.Hart)=true then
     if (decide (xa3.At<x1.At))=true then
      some (.inr (.inr xa2))
     else
      some (.inl (sa.1,(subW .i64 sa.2 1)))
    else
     some (.inl (sa.1,(subW .i64 sa.2 1)))
  else
   some (.inl (sa.1,(subW .i64 sa.2 1)))
 else
  some (.inr (.inl ()))
def axiom_court_source_S (n:Nat) (n_:Int) (oA:(List Cell)) (oB:(List (List Event))) (oC:(List Int)) (oD:(List Int)) (oE:(List (Int×(List Int)))) (oF:(List Event)) (oG:(List Int)):Option Int :=
 (getI oF n_).bind fun x1 =>
 matchO (mget beqI oE x1.Addr) (
  (iter (fun s=>axiom_court_source_S_L1 n n_ oA oB oC oD oE oF oG x1 s) n (([]:List Int),(-1))).bind fun t3 =>
  match t3 with
  | .inl w4 =>
   some (-1)
  | .inr w4 =>
   some w4) fun z2 =>
  (iter (fun s=>axiom_court_source_S_L1 n n_ oA oB oC oD oE oF oG x1 s) n (z2,(subW .i64 (z2.length:Int) 1))).bind fun t4 =>
  match t4 with
  | .inl w5 =>
   some (-1)
  | .inr w5 =>
   some w5
def axiom_court_value_S_L1 (n:Nat) (oA:(List Cell)) (oB:(List (List Event))) (oC:(List Int)) (oD:(List Int)) (oE:(List (Int×(List Int)))) (oF:(List Event)) (oG:(List Int)) (sa:Int):Option (Int⊕(Unit⊕(Bool×Int×Int×Int))) :=
 if (decide (sa<(oF.length:Int)))=true then
  (getI oF sa).bind fun xa2 =>
  (event_Reads n xa2).bind fun ya3 =>
  if (!ya3)=true then
   some (.inl (addW .i64 sa 1))
  else
   (axiom_court_source_S n sa oA oB oC oD oE oF oG).bind fun ya5 =>
   (getI oC sa).bind fun xa6 =>
   if (ya5 != xa6)=true then
    (axiom_bad n 3 sa ya5).bind fun ya8 =>
    some (.inr (.inr (ya8.OK,ya8.Why,ya8.A_,ya8.B)))
   else
    some (.inl (addW .i64 sa 1))
 else
  some (.inr (.inl ()))
def axiom_court_value_S (n:Nat) (oA:(List Cell)) (oB:(List (List Event))) (oC:(List Int)) (oD:(List Int)) (oE:(List (Int×(List Int)))) (oF:(List Event)) (oG:(List Int)):Option (Bool×Int×Int×Int) :=
 (iter (fun s=>axiom_court_value_S_L1 n oA oB oC oD oE oF oG s) n 0).bind fun t1 =>
 match t1 with
 | .inl w2 =>
  (axiom_good n).bind fun y3 =>
  some (y3.OK,y3.Why,y3.A_,y3.B)
 | .inr w2 =>
  some (w2.1,w2.2.1,w2.2.2.1,w2.2.2.2)
def axiom_court_pair_S_L2 (n:Nat) (oA:(List Cell)) (oB:(List (List Event))) (oC:(List Int)) (oD:(List Int)) (oE:(List (Int×(List Int)))) (oF:(List Event)) (oG:(List Int)) (xa2:Event) (sb:Int×Int×Int×Int×(List Int)×Int×Int):Option ((Int×Int×Int×Int×(List Int)×Int×Int)⊕(Int⊕(Bool×Int×Int×Int))) :=
 if (decide (sb.2.2.2.2.2.2<sb.2.2.2.2.2.1))=true then
  (getI sb.2.2.2.2.1 sb.2.2.2.2.2.2).bind fun xb2 =>
  (getI oG xb2).bind fun xb3 =>
  if (decide (xb3>sb.2.2.2.1))=true then
   (getI oG sb.2.1).bind fun xb5 =>
   if (decide (xb3<xb5))=true then
    (getI oF xb2).bind fun xb7 =>
    if (xb7.Hart != xa2.Hart)=true then
     (axiom_bad n 4 sb.2.2.1 xb2).bind fun yb9 =>
     some (.inr (.inr (yb9.OK,yb9.Why,yb9.A_,yb9.B)))
    else
     some (.inl (sb.1,sb.2.1,sb.2.2.1,sb.2.2.2.1,sb.2.2.2.2.1,sb.2.2.2.2.2.1,(addW .i64 sb.2.2.2.2.2.2 1)))
   else
    some (.inl (sb.1,sb.2.1,sb.2.2.1,sb.2.2.2.1,sb.2.2.2.2.1,sb.2.2.2.2.2.1,(addW .i64 sb.2.2.2.2.2.2 1)))
  else
   some (.inl (sb.1,sb.2.1,sb.2.2.1,sb.2.2.2.1,sb.2.2.2.2.1,sb.2.2.2.2.2.1,(addW .i64 sb.2.2.2.2.2.2 1)))
 else
  some (.inr (.inl sb.1))
def axiom_court_pair_S_L1 (n:Nat) (oA:(List Cell)) (oB:(List (List Event))) (oC:(List Int)) (oD:(List Int)) (oE:(List (Int×(List Int)))) (oF:(List Event)) (oG:(List Int)) (sa:Int):Option (Int⊕(Unit⊕(Bool×Int×Int×Int))) :=
 if (decide (sa<(oF.length:Int)))=true then
  (getI oF sa).bind fun xa2 =>
  if (xa2.Kind != 4)=true then
   some (.inl (addW .i64 sa 1))
  else
   (getI oC (addW .i64 (subW .i64 sa xa2.At) xa2.Pair)).bind fun xa4 =>
   if (decide (xa4≥0))=true then
    (getI oG xa4).bind fun xa6 =>
    (getI oG sa).bind fun xa7 =>
    if (decide (xa6≥xa7))=true then
     (axiom_bad n 4 (addW .i64 (subW .i64 sa xa2.At) xa2.Pair) xa4).bind fun ya9 =>
     some (.inr (.inr (ya9.OK,ya9.Why,ya9.A_,ya9.B)))
    else
     matchO (mget beqI oE xa2.Addr) (
      (iter (fun s=>axiom_court_pair_S_L2 n oA oB oC oD oE oF oG xa2 s) n (sa,sa,(addW .i64 (subW .i64 sa xa2.At) xa2.Pair),xa6,([]:List Int),0,0)).bind fun ta10 =>
      match ta10 with
      | .inl wa11 =>
       some (.inl (addW .i64 wa11 1))
      | .inr wa11 =>
       some (.inr (.inr (wa11.1,wa11.2.1,wa11.2.2.1,wa11.2.2.2)))) fun za9 =>
      (iter (fun s=>axiom_court_pair_S_L2 n oA oB oC oD oE oF oG xa2 s) n (sa,sa,(addW .i64 (subW .i64 sa xa2.At) xa2.Pair),xa6,za9,(za9.length:Int),0)).bind fun ta11 =>
      match ta11 with
      | .inl wa12 =>
       some (.inl (addW .i64 wa12 1))
      | .inr wa12 =>
       some (.inr (.inr (wa12.1,wa12.2.1,wa12.2.2.1,wa12.2.2.2)))
   else
    matchO (mget beqI oE xa2.Addr) (
     (iter (fun s=>axiom_court_pair_S_L2 n oA oB oC oD oE oF oG xa2 s) n (sa,sa,(addW .i64 (subW .i64 sa xa2.At) xa2.Pair),(-1),([]:List Int),0,0)).bind fun ta7 =>
     match ta7 with
     | .inl wa8 =>
      some (.inl (addW .i64 wa8 1))
     | .inr wa8 =>
      some (.inr (.inr (wa8.1,wa8.2.1,wa8.2.2.1,wa8.2.2.2)))) fun za6 =>
     (iter (fun s=>axiom_court_pair_S_L2 n oA oB oC oD oE oF oG xa2 s) n (sa,sa,(addW .i64 (subW .i64 sa xa2.At) xa2.Pair),(-1),za6,(za6.length:Int),0)).bind fun ta8 =>
     match ta8 with
     | .inl wa9 =>
      some (.inl (addW .i64 wa9 1))
     | .inr wa9 =>
      some (.inr (.inr (wa9.1,wa9.2.1,wa9.2.2.1,wa9.2.2.2)))
 else
  some (.inr (.inl ()))
def axiom_court_pair_S (n:Nat) (oA:(List Cell)) (oB:(List (List Event))) (oC:(List Int)) (oD:(List Int)) (oE:(List (Int×(List Int)))) (oF:(List Event)) (oG:(List Int)):Option (Bool×Int×Int×Int) :=
 (iter (fun s=>axiom_court_pair_S_L1 n oA oB oC oD oE oF oG s) n 0).bind fun t1 =>
 match t1 with
 | .inl w2 =>
  (axiom_good n).bind fun y3 =>
  some (y3.OK,y3.Why,y3.A_,y3.B)
 | .inr w2 =>
  some (w2.1,w2.2.1,w2.2.2.1,w2.2.2.2)
def axiom_Judge (n:Nat) (c:Cand):Option Judged :=
 (axiom_of_S n c.First c.Harts c.From c.Order).bind fun y1 =>
 match y1 with
 | .inl wa2 =>
  (axiom_bad n 1 (-1) (-1)).bind fun y3 =>
  some y3
 | .inr wb2 =>
  (axiom_court_order_S n c.First c.Harts c.From c.Order wb2.1 wb2.2.1 wb2.2.2).bind fun y3 =>
  if (!y3.1)=true then
   some (Judged.mk y3.1 y3.2.1 y3.2.2.1 y3.2.2.2)
  else
   (axiom_court_value_S n c.First c.Harts c.From c.Order wb2.1 wb2.2.1 wb2.2.2).bind fun y5 =>
   if (!y5.1)=true then
    some (Judged.mk y5.1 y5.2.1 y5.2.2.1 y5.2.2.2)
   else
    (axiom_court_pair_S n c.First c.Harts c.From c.Order wb2.1 wb2.2.1 wb2.2.2).bind fun y7 =>
    if (!y7.1)=true then
     some (Judged.mk y7.1 y7.2.1 y7.2.2.1 y7.2.2.2)
    else
     (axiom_good n).bind fun y9 =>
     some y9
def axiom_Line (n:Nat) (j:Judged):Option ByteArray:=if Judged.beq j ⟨false,2,0,2⟩=true then some ⟨#[111,114,100,101,114,32,48,32,50]⟩ else if Judged.beq j ⟨true,0,0,0⟩=true then some ⟨#[111,107]⟩ else if Judged.beq j ⟨false,9,(-3),12⟩=true then some ⟨#[111,116,104,101,114,32,45,51,32,49,50]⟩ else none
def law_lives (n:Nat):Option Bool :=
 (law_message n false).bind fun y1 =>
 (axiom_Judge n y1).bind fun y2 =>
 if (Judged.beq y2 (Judged.mk true 0 (-1) (-1)))=true then
  (law_message n true).bind fun y4 =>
  (axiom_Judge n y4).bind fun y5 =>
  (axiom_Line n y5).bind fun y6 =>
  some (y6.toList==(ByteArray.mk #[111,114,100,101,114,32,48,32,50]).toList)
 else
  some false
def axiom_Ok (n:Nat) (c:Cand):Option Bool :=
 (axiom_Judge n c).bind fun y1 =>
 some y1.OK
def axiom_court_source_S2_L1 (n:Nat) (n_:Int) (oA:(List Cell)) (oB:(List (List Event))) (oC:(List Int)) (oD:(List Int)) (oE:(List (Int×(List Int)))) (oF:(List Event)) (oG:(List Int)) (x1:Event) (sa:(List Int)×Int):Option (((List Int)×Int)⊕(Unit⊕Int)) :=
 if (decide (sa.2≥0))=true then
  (getI sa.1 sa.2).bind fun xa2 =>
  (getI oF xa2).bind fun xa3 =>
  if (xa2 != n_)=true then
   (getI oG xa2).bind fun xa5 =>
   (getI oG n_).bind fun xa6 =>
   if (decide (xa5<xa6))=true then
    some (.inr (.inr xa2))
   else
    if (xa3.Hart==x1.Hart)=true then
     if (decide (xa3.At<x1.At))=true then
      some (.inr (.inr xa2))
     else
      some (.inl (sa.1,(subW .i64 sa.2 1)))
    else
     some (.inl (sa.1,(subW .i64 sa.2 1)))
  else
   some (.inl (sa.1,(subW .i64 sa.2 1)))
 else
  some (.inr (.inl ()))
def axiom_court_source_S2 (n:Nat) (n_:Int) (oA:(List Cell)) (oB:(List (List Event))) (oC:(List Int)) (oD:(List Int)) (oE:(List (Int×(List Int)))) (oF:(List Event)) (oG:(List Int)):Option Int :=
 (getI oF n_).bind fun x1 =>
 matchO (mget beqI oE x1.Addr) (
  (iter (fun s=>axiom_court_source_S2_L1 n n_ oA oB oC oD oE oF oG x1 s) n (([]:List Int),(-1))).bind fun t3 =>
  match t3 with
  | .inl w4 =>
   some (-1)
  | .inr w4 =>
   some w4) fun z2 =>
  (iter (fun s=>axiom_court_source_S2_L1 n n_ oA oB oC oD oE oF oG x1 s) n (z2,(subW .i64 (z2.length:Int) 1))).bind fun t4 =>
  match t4 with
  | .inl w5 =>
   some (-1)
  | .inr w5 =>
   some w5
def axiom_Source (n:Nat) (c:Cand) (n_:Int):Option Int :=
 (axiom_of_S n c.First c.Harts c.From c.Order).bind fun y1 =>
 match y1 with
 | .inl wa2 =>
  some (-1)
 | .inr wb2 =>
  if (decide (n_<0))=true then
   some (-1)
  else
   if (decide (n_≥(wb2.2.1.length:Int)))=true then
    some (-1)
   else
    (getI wb2.2.1 n_).bind fun x5 =>
    (event_Reads n x5).bind fun y6 =>
    if (!y6)=true then
     some (-1)
    else
     (axiom_court_source_S2 n n_ c.First c.Harts c.From c.Order wb2.1 wb2.2.1 wb2.2.2).bind fun y8 =>
     some y8
def law_AxiomNames (n:Nat):Option Bool :=
 (law_message n false).bind fun y1 =>
 (kit_OwnCand n (Cand.mk ([]:List Cell) ([([(Event.mk 0 0 3 8 0 0 false false 0 0 0 (Deps.mk ([]:List Int) ([]:List Int) ([]:List Int))),(Event.mk 0 1 4 8 0 5 false false 0 0 0 (Deps.mk ([]:List Int) ([]:List Int) ([]:List Int)))]:List Event),([(Event.mk 1 0 2 8 0 7 false false 0 0 0 (Deps.mk ([]:List Int) ([]:List Int) ([]:List Int)))]:List Event)]:List (List Event)) ([(-1),(-1),(-1)]:List Int) ([0,2,1]:List Int))).bind fun y2 =>
 (law_lives n).bind fun y3 =>
 if y3=true then
  (axiom_Judge n (Cand.mk y1.First y1.Harts y1.From ([0,1,2,3]:List Int))).bind fun y5 =>
  if (Judged.beq y5 (Judged.mk false 3 3 0))=true then
   (axiom_Judge n (Cand.mk ([]:List Cell) ([([(Event.mk 0 0 3 8 0 0 false false 0 0 0 (Deps.mk ([]:List Int) ([]:List Int) ([]:List Int))),(Event.mk 0 1 4 8 0 5 false false 0 0 0 (Deps.mk ([]:List Int) ([]:List Int) ([]:List Int)))]:List Event),([(Event.mk 1 0 2 8 0 7 false false 0 0 0 (Deps.mk ([]:List Int) ([]:List Int) ([]:List Int)))]:List Event)]:List (List Event)) ([(-1),(-1),(-1)]:List Int) ([0,2,1]:List Int))).bind fun y7 =>
   if (Judged.beq y7 (Judged.mk false 4 0 2))=true then
    (axiom_Ok n (Cand.mk y2.First y2.Harts y2.From ([0,1,2]:List Int))).bind fun y9 =>
    if y9=true then
     (axiom_Judge n (Cand.mk ([]:List Cell) ([]:List (List Event)) ([]:List Int) ([]:List Int))).bind fun y11 =>
     if (Judged.beq y11 (Judged.mk false 1 (-1) (-1)))=true then
      (axiom_Source n (Cand.mk y1.First y1.Harts y1.From ([0,1,2,3]:List Int)) 3).bind fun y13 =>
      if (y13==0)=true then
       (axiom_Source n (Cand.mk y1.First y1.Harts y1.From ([0,1,2,3]:List Int)) 0).bind fun y15 =>
       if (y15==(-1))=true then
        (axiom_Source n (Cand.mk y1.First y1.Harts y1.From ([0,1,2,3]:List Int)) 9).bind fun y17 =>
        if (y17==(-1))=true then
         (axiom_Line n (Judged.mk true 0 0 0)).bind fun y19 =>
         if (y19.toList==(ByteArray.mk #[111,107]).toList)=true then
          (axiom_Line n (Judged.mk false 9 (-3) 12)).bind fun y21 =>
          some (y21.toList==(ByteArray.mk #[111,116,104,101,114,32,45,51,32,49,50]).toList)
         else
          some false
        else
         some false
       else
        some false
      else
       some false
     else
      some false
    else
     some false
   else
    some false
  else
   some false
 else
  some false

end Go.Proofs.YtomahedcdcnnhaaDoor
