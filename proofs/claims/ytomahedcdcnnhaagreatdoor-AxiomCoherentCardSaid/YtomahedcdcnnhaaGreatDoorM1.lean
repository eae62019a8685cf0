/- What the functions compute, as functions on lists and numbers. Printed by a program from the code; nothing is claimed here. -/
import Derived.Test.YtomahedcdcnnhaaGreatDoorM0
namespace Go.Proofs.YtomahedcdcnnhaaGreatDoor
open Go A
set_option linter.unusedVariables false

structure eW (α:Type) where
  mk ::
  e0:α
  e1:α
structure Ke (α:Type) where
  mk ::
  e0:α
  e1:α
  e2:α
  e3:α
structure Mv (α:Type) where
  mk ::
  e0:α
  e1:α
  e2:α
  e3:α
  e4:α
  e5:α
  e6:α
  e7:α
  e8:α
  e9:α
  e10:α
  e11:α
  e12:α
structure Cell where
  mk ::
  Addr:Int
  Value:Int
structure Deps where
  mk ::
  Addr:(List Int)
  Data:(List Int)
  Way:(List Int)
structure Event where
  mk ::
  Hart:Int
  At:Int
  Kind:Int
  Addr:Int
  Load:Int
  Store:Int
  Aq:Bool
  Rl:Bool
  Pred:Int
  Succ:Int
  Pair:Int
  Deps:Deps
structure af where
  mk ::
  First:(List Cell)
  Harts:(List (List Event))
  From:(List Int)
  Order:(List Int)
structure bi where
  mk ::
  OK:Bool
  Why:Int
  A_:Int
  B:Int
structure aT where
  mk ::
  hart:Int
  at_:Int
  kind:Int
  pred:Int
  succ:Int
  pair:Int
  addr:Int
  load:Int
  store:Int
  aq:Bool
  rl:Bool
structure ai where
  mk ::
  c:(Option af)
  all:(List Event)
  fences:(Ke (List Int))
  hung:(List Int)
def bi.beq (x y:bi):Bool:=((x.OK==y.OK)&&((x.Why==y.Why)&&((x.A_==y.A_)&&(x.B==y.B))))
theorem bi.beq_eq {x y:bi} (h:bi.beq x y=true):x=y:=by
  obtain ⟨a1,a2,a3,a4⟩:=x
  obtain ⟨b5,b6,b7,b8⟩:=y
  unfold bi.beq at h
  simp only [Bool.and_eq_true,beq_iff_eq] at h
  simp_all
theorem bi.beq_refl (x:bi):bi.beq x x=true:=by
  unfold bi.beq
  simp
def aT.beq (x y:aT):Bool:=((x.hart==y.hart)&&((x.at_==y.at_)&&((x.kind==y.kind)&&((x.pred==y.pred)&&((x.succ==y.succ)&&((x.pair==y.pair)&&((x.addr==y.addr)&&((x.load==y.load)&&((x.store==y.store)&&((x.aq==y.aq)&&(x.rl==y.rl)))))))))))
theorem aT.beq_eq {x y:aT} (h:aT.beq x y=true):x=y:=by
  obtain ⟨a9,a10,a11,a12,a13,a14,a15,a16,a17,a18,a19⟩:=x
  obtain ⟨b20,b21,b22,b23,b24,b25,b26,b27,b28,b29,b30⟩:=y
  unfold aT.beq at h
  simp only [Bool.and_eq_true,beq_iff_eq] at h
  simp_all
theorem aT.beq_refl (x:aT):aT.beq x x=true:=by
  unfold aT.beq
  simp
def Cell.wf (x:Cell):Prop:=(ya .u64 x.Addr)∧(ya .u64 x.Value)
def Deps.wf (x:Deps):Prop:=(x.Addr.length≤maxLen∧∀ z∈x.Addr,ya .i64 z)∧(x.Data.length≤maxLen∧∀ z∈x.Data,ya .i64 z)∧(x.Way.length≤maxLen∧∀ z∈x.Way,ya .i64 z)
def Event.wf (x:Event):Prop:=(ya .i64 x.Hart)∧(ya .i64 x.At)∧(ya .i64 x.Kind)∧(ya .u64 x.Addr)∧(ya .u64 x.Load)∧(ya .u64 x.Store)∧(True)∧(True)∧(ya .i64 x.Pred)∧(ya .i64 x.Succ)∧(ya .i64 x.Pair)∧(Deps.wf x.Deps)
def af.wf (x:af):Prop:=(x.First.length≤maxLen∧∀ z∈x.First,Cell.wf z)∧(x.Harts.length≤maxLen∧∀ z∈x.Harts,z.length≤maxLen∧∀ zz∈z,Event.wf zz)∧(x.From.length≤maxLen∧∀ z∈x.From,ya .i64 z)∧(x.Order.length≤maxLen∧∀ z∈x.Order,ya .i64 z)
def lu (n:Nat) (fences:Bool):Option af :=
 if (!fences)=true then
  some (af.mk ([]:List Cell) ([([(Event.mk 0 0 2 8 0 1 false false 0 0 0 (Deps.mk ([]:List Int) ([]:List Int) ([]:List Int))),(Event.mk 0 1 2 16 0 1 false false 0 0 0 (Deps.mk ([]:List Int) ([]:List Int) ([]:List Int)))]:List Event),([(Event.mk 1 0 1 16 1 0 false false 0 0 0 (Deps.mk ([]:List Int) ([]:List Int) ([]:List Int))),(Event.mk 1 1 1 8 0 0 false false 0 0 0 (Deps.mk ([]:List Int) ([]:List Int) ([]:List Int)))]:List Event)]:List (List Event)) ([(-1),(-1),1,(-1)]:List Int) ([1,2,3,0]:List Int))
 else
  some (af.mk ([]:List Cell) ([([(Event.mk 0 0 2 8 0 1 false false 0 0 0 (Deps.mk ([]:List Int) ([]:List Int) ([]:List Int))),(Event.mk 0 1 6 0 0 0 false false 1 1 0 (Deps.mk ([]:List Int) ([]:List Int) ([]:List Int))),(Event.mk 0 2 2 16 0 1 false false 0 0 0 (Deps.mk ([]:List Int) ([]:List Int) ([]:List Int)))]:List Event),([(Event.mk 1 0 1 16 1 0 false false 0 0 0 (Deps.mk ([]:List Int) ([]:List Int) ([]:List Int))),(Event.mk 1 1 6 0 0 0 false false 2 2 0 (Deps.mk ([]:List Int) ([]:List Int) ([]:List Int))),(Event.mk 1 2 1 8 0 0 false false 0 0 0 (Deps.mk ([]:List Int) ([]:List Int) ([]:List Int)))]:List Event)]:List (List Event)) ([(-1),(-1),(-1),2,(-1),(-1)]:List Int) ([2,3,5,0]:List Int))
def lT (n:Nat) (l:(List Cell)) (sa:Int):Option (Int⊕(Unit⊕Unit)) :=
 if (decide (sa<(l.length:Int)))=true then
  (aw l sa).bind fun xa2 =>
  if ((mO .u64 xa2.Addr 8) != 0)=true then
   some (.inr (.inr ()))
  else
   if (decide (sa>0))=true then
    (aw l (cT .i64 sa 1)).bind fun xa5 =>
    if (decide (xa5.Addr≥xa2.Addr))=true then
     some (.inr (.inr ()))
    else
     some (.inl (ah .i64 sa 1))
   else
    some (.inl (ah .i64 sa 1))
 else
  some (.inr (.inl ()))
def kF (n:Nat) (l:(List Cell)):Option Bool :=
 (iter (fun s=>lT n l s) n 0).bind fun t1 =>
 match t1 with
 | .inl w2 =>
  some true
 | .inr w2 =>
  some false
def i_ (n:Nat) (kind:Int):Option Int :=
 if (decide (kind<1))=true then
  some 0
 else
  if (decide (kind>6))=true then
   some 0
  else
   if (kind==0)=true then
    some 0
   else
    if (kind==1)=true then
     some 1
    else
     if (kind==2)=true then
      some 2
     else
      if (kind==3)=true then
       some 5
      else
       if (kind==4)=true then
        some 14
       else
        if (kind==5)=true then
         some 7
        else
         if (kind==6)=true then
          some 16
         else
          none
def bq (n:Nat) (s1_:(List Int)) (s2_:(List Int)) (sa:Int):Option (Int⊕(Unit⊕Unit)) :=
 if (decide (sa<(s1_.length:Int)))=true then
  (aw s1_ sa).bind fun xa2 =>
  (aw s2_ sa).bind fun xa3 =>
  if (xa2 != xa3)=true then
   some (.inr (.inr ()))
  else
   some (.inl (ah .i64 sa 1))
 else
  some (.inr (.inl ()))
def bP (n:Nat) (s1_:(List Int)) (s2_:(List Int)):Option Bool :=
 if ((s1_.length:Int) != (s2_.length:Int))=true then
  some false
 else
  (iter (fun s=>bq n s1_ s2_ s) n 0).bind fun t2 =>
  match t2 with
  | .inl w3 =>
   some true
  | .inr w3 =>
   some false
def iy (n:Nat) (e:Event):Option aT :=
 some (aT.mk e.Hart e.At e.Kind e.Pred e.Succ e.Pair e.Addr e.Load e.Store e.Aq e.Rl)
def kG (n:Nat) (a:Event) (b:Event):Option Bool :=
 (bP n a.Deps.Addr b.Deps.Addr).bind fun y1 =>
 if (!y1)=true then
  some false
 else
  (bP n a.Deps.Data b.Deps.Data).bind fun y3 =>
  if (!y3)=true then
   some false
  else
   (bP n a.Deps.Way b.Deps.Way).bind fun y5 =>
   if (!y5)=true then
    some false
   else
    (iy n a).bind fun y7 =>
    (iy n b).bind fun y8 =>
    if (aT.beq y7 y8)=true then
     some true
    else
     some false
def cJ (n:Nat) (l:(List Int)) (sa:Int×Int):Option ((Int×Int)⊕(Unit⊕Unit)) :=
 if (decide (sa.2<(l.length:Int)))=true then
  (aw l sa.2).bind fun xa2 =>
  if (decide (xa2≤sa.1))=true then
   some (.inr (.inr ()))
  else
   some (.inl (xa2,(ah .i64 sa.2 1)))
 else
  some (.inr (.inl ()))
def iz (n:Nat) (l:(List Int)):Option Bool :=
 (iter (fun s=>cJ n l s) n ((-1),0)).bind fun t1 =>
 match t1 with
 | .inl w2 =>
  some true
 | .inr w2 =>
  some false
def dN (n:Nat) (l:(List Int)) (at_:Int):Option Bool :=
 (iz n l).bind fun y1 =>
 if y1=true then
  if ((l.length:Int)==0)=true then
   some true
  else
   (aw l (cT .i64 (l.length:Int) 1)).bind fun x4 =>
   some (decide (x4<at_))
 else
  some false
def dk (n:Nat) (e:Event) (y1:Int) (sf:Int×(List Int)×(List Int)×(List Int)×Int×Int×Int×Bool×Bool×Int×Int):Option Int :=
 if (y1==0)=true then
  some 2
 else
  if (decide (e.Hart<0))=true then
   some 2
  else
   if (decide (e.Hart≥8))=true then
    some 2
   else
    if (decide (e.At<0))=true then
     some 2
    else
     (kG n (Event.mk e.Hart e.At e.Kind sf.2.2.2.2.1 sf.2.2.2.2.2.1 sf.2.2.2.2.2.2.1 sf.2.2.2.2.2.2.2.1 sf.2.2.2.2.2.2.2.2.1 sf.2.2.2.2.2.2.2.2.2.1 sf.2.2.2.2.2.2.2.2.2.2 sf.1 (Deps.mk sf.2.1 sf.2.2.1 sf.2.2.2.1)) e).bind fun yf5 =>
     if (!yf5)=true then
      some 2
     else
      if ((mO .u64 e.Addr 8) != 0)=true then
       some 2
      else
       if (decide (e.Pred<0))=true then
        some 2
       else
        if (decide (e.Pred>15))=true then
         some 2
        else
         if (decide (e.Succ<0))=true then
          some 2
         else
          if (decide (e.Succ>15))=true then
           some 2
          else
           if ((cN .u64 y1 8) != 0)=true then
            if (decide (e.Pair<0))=true then
             some 2
            else
             if (decide (e.Pair≥e.At))=true then
              some 2
             else
              (dN n e.Deps.Addr e.At).bind fun yf15 =>
              if (!yf15)=true then
               some 2
              else
               (dN n e.Deps.Data e.At).bind fun yf17 =>
               if (!yf17)=true then
                some 2
               else
                (dN n e.Deps.Way e.At).bind fun yf19 =>
                if (!yf19)=true then
                 some 2
                else
                 some 0
           else
            (dN n e.Deps.Addr e.At).bind fun yf13 =>
            if (!yf13)=true then
             some 2
            else
             (dN n e.Deps.Data e.At).bind fun yf15 =>
             if (!yf15)=true then
              some 2
             else
              (dN n e.Deps.Way e.At).bind fun yf17 =>
              if (!yf17)=true then
               some 2
              else
               some 0
def dY (n:Nat) (e:Event) (y1:Int) (se:(List Int)×(List Int)×(List Int)×Int×Int×Int×Bool×Bool×Int×Int):Option Int :=
 if ((cN .u64 y1 8) != 0)=true then
  (dk n e y1 (e.Pair,se.1,se.2.1,se.2.2.1,se.2.2.2.1,se.2.2.2.2.1,se.2.2.2.2.2.1,se.2.2.2.2.2.2.1,se.2.2.2.2.2.2.2.1,se.2.2.2.2.2.2.2.2.1,se.2.2.2.2.2.2.2.2.2)).bind fun te2 =>
  some te2
 else
  (dk n e y1 (0,se.1,se.2.1,se.2.2.1,se.2.2.2.1,se.2.2.2.2.1,se.2.2.2.2.2.1,se.2.2.2.2.2.2.1,se.2.2.2.2.2.2.2.1,se.2.2.2.2.2.2.2.2.1,se.2.2.2.2.2.2.2.2.2)).bind fun te2 =>
  some te2
def dZ (n:Nat) (e:Event) (y1:Int) (sd:(List Int)×(List Int)×(List Int)×Int×Int×Int×Int×Int):Option Int :=
 if ((cN .u64 y1 4) != 0)=true then
  (dY n e y1 (sd.1,sd.2.1,sd.2.2.1,sd.2.2.2.1,sd.2.2.2.2.1,sd.2.2.2.2.2.1,e.Aq,e.Rl,sd.2.2.2.2.2.2.1,sd.2.2.2.2.2.2.2)).bind fun td2 =>
  some td2
 else
  (dY n e y1 (sd.1,sd.2.1,sd.2.2.1,sd.2.2.2.1,sd.2.2.2.2.1,sd.2.2.2.2.2.1,false,false,sd.2.2.2.2.2.2.1,sd.2.2.2.2.2.2.2)).bind fun td2 =>
  some td2
def d_ (n:Nat) (e:Event) (y1:Int) (sb:(List Int)×(List Int)×Int×Int×Int×Int):Option Int :=
 if ((cN .u64 y1 2) != 0)=true then
  (dZ n e y1 (sb.1,e.Deps.Data,sb.2.1,sb.2.2.1,sb.2.2.2.1,e.Store,sb.2.2.2.2.1,sb.2.2.2.2.2)).bind fun tb2 =>
  some tb2
 else
  (dZ n e y1 (sb.1,([]:List Int),sb.2.1,sb.2.2.1,sb.2.2.2.1,0,sb.2.2.2.2.1,sb.2.2.2.2.2)).bind fun tb2 =>
  some tb2
def ea (n:Nat) (e:Event) (y1:Int) (sa:(List Int)×(List Int)×Int×Int×Int):Option Int :=
 if ((cN .u64 y1 1) != 0)=true then
  (d_ n e y1 (sa.1,sa.2.1,sa.2.2.1,e.Load,sa.2.2.2.1,sa.2.2.2.2)).bind fun ta2 =>
  some ta2
 else
  (d_ n e y1 (sa.1,sa.2.1,sa.2.2.1,0,sa.2.2.2.1,sa.2.2.2.2)).bind fun ta2 =>
  some ta2
def hZ (n:Nat) (e:Event):Option Int :=
 (i_ n e.Kind).bind fun y1 =>
 if ((cN .u64 y1 16) != 0)=true then
  (ea n e y1 (([]:List Int),([]:List Int),0,e.Pred,e.Succ)).bind fun t3 =>
  some t3
 else
  (ea n e y1 (e.Deps.Addr,e.Deps.Way,e.Addr,0,0)).bind fun t3 =>
  some t3
def iA (n:Nat) (hart:Int) (l:(List Event)) (sa:Int×Int):Option ((Int×Int)⊕(Unit⊕Unit)) :=
 if (decide (sa.1<(l.length:Int)))=true then
  (aw l sa.1).bind fun xa2 =>
  (hZ n xa2).bind fun ya3 =>
  if (ya3 != 0)=true then
   some (.inr (.inr ()))
  else
   if (xa2.Hart != hart)=true then
    some (.inr (.inr ()))
   else
    if (xa2.At != sa.1)=true then
     some (.inr (.inr ()))
    else
     if (xa2.Kind==3)=true then
      some (.inl ((ah .i64 sa.1 1),sa.1))
     else
      if (xa2.Kind==4)=true then
       if (xa2.Pair != sa.2)=true then
        some (.inr (.inr ()))
       else
        (aw l sa.2).bind fun xa10 =>
        if (xa10.Addr != xa2.Addr)=true then
         some (.inr (.inr ()))
        else
         some (.inl ((ah .i64 sa.1 1),(-1)))
      else
       some (.inl ((ah .i64 sa.1 1),sa.2))
 else
  some (.inr (.inl ()))
def h_ (n:Nat) (hart:Int) (l:(List Event)):Option Int :=
 (iter (fun s=>iA n hart l s) n (0,(-1))).bind fun t1 =>
 match t1 with
 | .inl w2 =>
  some 0
 | .inr w2 =>
  some 4
def bG (n:Nat) (n_:Int):Option ((Nat×Nat×Nat×(List Event))⊕Unit) :=
 if (decide (n_<0))=true then
  none
 else
  if (decide ((cT .i64 n_ 0)>0))=true then
   grd (Nat.blt 0 14&&Nat.blt 0 152&&decide (0<(cT .i64 n_ 0))&&decide ((cT .i64 n_ 0) * 152≤140737488355328)&&decide ((cT .i64 n_ 0)≤140737488355328)) <|
   grd (decide ((0:Int)≤0)&&decide (0≤(((cT .i64 n_ 0)).toNat:Int))) <|
   some (.inl (0,0,((cT .i64 n_ 0)).toNat,(List.replicate ((cT .i64 n_ 0)).toNat (Event.mk 0 0 0 0 0 0 false false 0 0 0 (Deps.mk ([]:List Int) ([]:List Int) ([]:List Int))))))
  else
   some (.inr ())
def bB (n:Nat) (slices:(List (List Event))) (sa:Int×Int):Option ((Int×Int)⊕Int) :=
 if (decide (sa.1<(slices.length:Int)))=true then
  (aw slices sa.1).bind fun xa2 =>
  if (decide ((ah .i64 sa.2 (xa2.length:Int))<0))=true then
   none
  else
   some (.inl ((ah .i64 sa.1 1),(ah .i64 sa.2 (xa2.length:Int))))
 else
  some (.inr sa.2)
def bC (n:Nat) (slices:(List (List Event))) (wa3:Nat×Nat×Nat×(List Event)) (sa:Nat×Nat×(List Event)×Int):Option ((Nat×Nat×(List Event)×Int)⊕(Nat×Nat×(List Event))) :=
 if (decide (sa.2.2.2<(slices.length:Int)))=true then
  (aw slices sa.2.2.2).bind fun xa2 =>
  grd (Nat.ble xa2.length sa.2.1) <|
  grd (Nat.ble (wa3.1 + sa.1 + sa.2.1) sa.2.2.1.length) <|
  some (.inl ((sa.1 + xa2.length),(sa.2.1 - xa2.length),(sa.2.2.1.take (wa3.1 + sa.1)++(xa2++sa.2.2.1.drop (wa3.1 + sa.1 + xa2.length))),(ah .i64 sa.2.2.2 1)))
 else
  some (.inr (sa.1,sa.2.1,sa.2.2.1))
def bj (n:Nat) (slices:(List (List Event))) (sa:(List Event)×Int):Option (((List Event)×Int)⊕((List Event))) :=
 if (decide (sa.2<(slices.length:Int)))=true then
  (aw slices sa.2).bind fun xa2 =>
  grd (Nat.ble ((sa.1.length + xa2.length) * 152) 140737488355328) <|
  some (.inl ((sa.1++xa2),(ah .i64 sa.2 1)))
 else
  some (.inr sa.1)
def aX (n:Nat) (slices:(List (List Event))):Option (List Event) :=
 (iter (fun s=>bB n slices s) n (0,0)).bind fun t1 =>
 (bG n t1).bind fun y2 =>
 match y2 with
 | .inl wa3 =>
  (iter (fun s=>bC n slices wa3 s) n (wa3.2.1,wa3.2.2.1,wa3.2.2.2,0)).bind fun t4 =>
  some ((t4.2.2.drop wa3.1).take t4.1)
 | .inr wb3 =>
  (iter (fun s=>bj n slices s) n (([]:List Event),0)).bind fun t4 =>
  some t4
def ia (n:Nat) (oA:(List Cell)) (oB:(List (List Event))) (oC:(List Int)) (oD:(List Int)):Option (List Event) :=
 (aX n oB).bind fun y1 =>
 some y1
def bQ (n:Nat) (e:Event):Option Bool :=
 (i_ n e.Kind).bind fun y1 =>
 some ((cN .u64 y1 1) != 0)
def eZ (n:Nat) (x:Int):Option Bool :=
 some (x != x)
def eb (n:Nat) (x:Int) (y:Int):Option Int :=
 (eZ n x).bind fun y1 =>
 (eZ n y).bind fun y2 =>
 if y1=true then
  if y2=true then
   some 0
  else
   some (-1)
 else
  if y2=true then
   some 1
  else
   if (decide (x<y))=true then
    some (-1)
   else
    if (decide (x>y))=true then
     some 1
    else
     some 0
def gm (n:Nat) (x:Cell) (a:Int):Option Int :=
 (eb n x.Addr a).bind fun y1 =>
 some y1
def aH (n:Nat) (x:(List Cell)) (target:Int) (sa:Int×Int):Option ((Int×Int)⊕Int) :=
 if (decide (sa.2<sa.1))=true then
  (aw x (IntKind.wrap .i64 (jM .u64 (IntKind.wrap .u64 (ah .i64 sa.2 sa.1)) 1))).bind fun xa2 =>
  (gm n xa2 target).bind fun ya3 =>
  if (decide (ya3<0))=true then
   some (.inl (sa.1,(ah .i64 (IntKind.wrap .i64 (jM .u64 (IntKind.wrap .u64 (ah .i64 sa.2 sa.1)) 1)) 1)))
  else
   some (.inl ((IntKind.wrap .i64 (jM .u64 (IntKind.wrap .u64 (ah .i64 sa.2 sa.1)) 1)),sa.2))
 else
  some (.inr sa.2)
def bc (n:Nat) (x:(List Cell)) (target:Int):Option (Int×Bool) :=
 (iter (fun s=>aH n x target s) n ((x.length:Int),0)).bind fun t1 =>
 if (decide (t1<(x.length:Int)))=true then
  (aw x t1).bind fun x3 =>
  (gm n x3 target).bind fun y4 =>
  some (t1,(y4==0))
 else
  some (t1,false)
def ja (n:Nat) (l:(List Cell)) (addr:Int):Option Int :=
 (bc n l addr).bind fun y1 =>
 if (!y1.2)=true then
  some 0
 else
  (aw l y1.1).bind fun x3 =>
  some x3.Value
def cj (n:Nat) (e:Event):Option Bool :=
 (i_ n e.Kind).bind fun y1 =>
 some ((cN .u64 y1 2) != 0)
def ib (n:Nat) (c:af) (all:(List Event)) (n_:Int):Option Bool :=
 (aw all n_).bind fun x1 =>
 (aw c.From n_).bind fun x2 =>
 (bQ n x1).bind fun y3 =>
 if (!y3)=true then
  some (x2==(-1))
 else
  if (x2==(-1))=true then
   (ja n c.First x1.Addr).bind fun y6 =>
   some (x1.Load==y6)
  else
   if (decide (x2<0))=true then
    some false
   else
    if (decide (x2≥(all.length:Int)))=true then
     some false
    else
     if (x2==n_)=true then
      some false
     else
      (aw all x2).bind fun x9 =>
      (cj n x9).bind fun y10 =>
      if y10=true then
       if (x9.Addr==x1.Addr)=true then
        some (x9.Store==x1.Load)
       else
        some false
      else
       some false
def fk (n:Nat) (e:Event):Option Bool :=
 (bQ n e).bind fun y1 =>
 if y1=true then
  some true
 else
  (cj n e).bind fun y3 =>
  some y3
def fF (n:Nat) (c:af) (all:(List Event)) (sa:(List Bool)×Int×Int):Option (((List Bool)×Int×Int)⊕((List Bool)×Int)) :=
 if (decide (sa.2.1<(all.length:Int)))=true then
  (aw all sa.2.1).bind fun xa2 =>
  (fk n xa2).bind fun ya3 =>
  if ya3=true then
   (aw sa.1 sa.2.1).bind fun xa5 =>
   some (.inl ((sa.1.set (sa.2.1).toNat true),(ah .i64 sa.2.1 1),(ah .i64 sa.2.2 1)))
  else
   some (.inl (sa.1,(ah .i64 sa.2.1 1),sa.2.2))
 else
  some (.inr (sa.1,sa.2.2))
def fG (n:Nat) (c:af) (sa:(List Bool)×Int×Int):Option (((List Bool)×Int×Int)⊕(Int⊕Unit)) :=
 if (decide (sa.2.1<(c.Order.length:Int)))=true then
  (aw c.Order sa.2.1).bind fun xa2 =>
  if (decide (xa2<0))=true then
   some (.inr (.inr ()))
  else
   if (decide (xa2≥(sa.1.length:Int)))=true then
    some (.inr (.inr ()))
   else
    (aw sa.1 xa2).bind fun xa5 =>
    if (!xa5)=true then
     some (.inr (.inr ()))
    else
     some (.inl ((sa.1.set (xa2).toNat false),(ah .i64 sa.2.1 1),(cT .i64 sa.2.2 1)))
 else
  some (.inr (.inl sa.2.2))
def dH (n:Nat) (c:af) (all:(List Event)):Option Bool :=
 grd (decide ((0:Int)≤(all.length:Int))&&decide ((all.length:Int)≤(all.length:Int))&&decide (1 * (all.length:Int)≤140737488355328)&&decide ((all.length:Int)≤140737488355328)&&Nat.blt 0 1) <|
 (iter (fun s=>fF n c all s) n ((List.replicate ((all.length:Int)).toNat false),0,0)).bind fun t2 =>
 (iter (fun s=>fG n c s) n (t2.1,0,t2.2)).bind fun t3 =>
 match t3 with
 | .inl w4 =>
  some (w4==0)
 | .inr w4 =>
  some false
def fN (n:Nat) (c:af) (sa:Int×Int):Option ((Int×Int)⊕(Int⊕Unit)) :=
 if (decide (sa.1<(c.Harts.length:Int)))=true then
  (aw c.Harts sa.1).bind fun xa2 =>
  if (decide ((ah .i64 sa.2 (xa2.length:Int))>4096))=true then
   some (.inr (.inr ()))
  else
   (h_ n sa.1 xa2).bind fun ya4 =>
   if (ya4 != 0)=true then
    some (.inr (.inr ()))
   else
    some (.inl ((ah .i64 sa.1 1),(ah .i64 sa.2 (xa2.length:Int))))
 else
  some (.inr (.inl sa.2))
def gL (n:Nat) (c:af) (y7:(List Event)) (sa:Int):Option (Int⊕(Unit⊕Unit)) :=
 if (decide (sa<(y7.length:Int)))=true then
  (ib n c y7 sa).bind fun ya2 =>
  if (!ya2)=true then
   some (.inr (.inr ()))
  else
   some (.inl (ah .i64 sa 1))
 else
  some (.inr (.inl ()))
def b_ (n:Nat) (c:af):Option Int :=
 (kF n c.First).bind fun y1 =>
 if (!y1)=true then
  some 2
 else
  if (decide ((c.Harts.length:Int)<1))=true then
   some 2
  else
   if (decide ((c.Harts.length:Int)>8))=true then
    some 2
   else
    (iter (fun s=>fN n c s) n (0,0)).bind fun t5 =>
    match t5 with
    | .inl w6 =>
     (ia n c.First c.Harts c.From c.Order).bind fun y7 =>
     if ((c.From.length:Int) != w6)=true then
      some 2
     else
      (iter (fun s=>gL n c y7 s) n 0).bind fun t9 =>
      match t9 with
      | .inl w10 =>
       (dH n c y7).bind fun y11 =>
       if (!y11)=true then
        some 2
       else
        some 0
      | .inr w10 =>
       some 2
    | .inr w6 =>
     some 2
def bR (n:Nat) (l:List Int):Option (List Int):=grd (Nat.ble (l.length * 8) 140737488355328) (some l)
def nJ (n:Nat) (e:Event):Option Event :=
 (bR n e.Deps.Addr).bind fun y1 =>
 (bR n e.Deps.Data).bind fun y2 =>
 (bR n e.Deps.Way).bind fun y3 =>
 some (Event.mk e.Hart e.At e.Kind e.Addr e.Load e.Store e.Aq e.Rl e.Pred e.Succ e.Pair (Deps.mk y1 y2 y3))
def lv (n:Nat) (y3:(List Event)) (sa:(List Event)×Int):Option (((List Event)×Int)⊕((List Event))) :=
 if (decide (sa.2<(y3.length:Int)))=true then
  (aw y3 sa.2).bind fun xa2 =>
  (nJ n xa2).bind fun ya3 =>
  grd (Nat.ble ((sa.1.length + 1) * 152) 140737488355328) <|
  some (.inl ((sa.1++([ya3]:List Event)),(ah .i64 sa.2 1)))
 else
  some (.inr sa.1)
def mh (n:Nat) (c:af):Option (List Event) :=
 (b_ n c).bind fun y1 =>
 if (y1 != 0)=true then
  some ([]:List Event)
 else
  (ia n c.First c.Harts c.From c.Order).bind fun y3 =>
  (iter (fun s=>lv n y3 s) n (([]:List Event),0)).bind fun t4 =>
  some t4
def j3 (n:Nat) (x:Int) (y:Int):Option (Int×Int) :=
 some ((ah .u64 (ah .u64 (mg .u64 (jM .u64 x 32) (jM .u64 y 32)) (jM .u64 (ah .u64 (mg .u64 (jM .u64 x 32) (cN .u64 y 4294967295)) (jM .u64 (mg .u64 (cN .u64 x 4294967295) (cN .u64 y 4294967295)) 32)) 32)) (jM .u64 (ah .u64 (cN .u64 (ah .u64 (mg .u64 (jM .u64 x 32) (cN .u64 y 4294967295)) (jM .u64 (mg .u64 (cN .u64 x 4294967295) (cN .u64 y 4294967295)) 32)) 4294967295) (mg .u64 (cN .u64 x 4294967295) (jM .u64 y 32))) 32)),(mg .u64 x y))
def fO (n:Nat) (x:Int) (y:Int):Option (Int×Int) :=
 (j3 n x y).bind fun y1 =>
 some (y1.1,y1.2)
def cG (n:Nat) (sa:(List Int)×Int):Option (((List Int)×Int)⊕((List Int))) :=
 if (decide (sa.2<(sa.1.length:Int)))=true then
  grd (decide ((0:Int)≤sa.2)&&decide (sa.2≤(sa.1.length:Int))) <|
  grd (decide ((0:Int)≤sa.2)&&decide (sa.2≤(sa.1.length:Int))) <|
  grd (Nat.ble ((sa.2).toNat + (sa.1.length - (sa.2).toNat)) sa.1.length) <|
  some (.inl ((sa.1.take ((sa.2).toNat)++(((sa.1.drop 0).take ((sa.2).toNat)).take (sa.1.length - (sa.2).toNat)++sa.1.drop ((sa.2).toNat + min ((sa.1.drop 0).take ((sa.2).toNat)).length (sa.1.length - (sa.2).toNat)))),(ah .i64 sa.2 ((min ((sa.1.drop 0).take ((sa.2).toNat)).length (sa.1.length - (sa.2).toNat):Nat):Int))))
 else
  some (.inr sa.1)
def bM (n:Nat) (x:(List Int)) (count:Int):Option (List Int) :=
 if (decide (count<0))=true then
  none
 else
  (fO n (IntKind.wrap .u64 (x.length:Int)) (IntKind.wrap .u64 count)).bind fun y2 =>
  if (decide (y2.1>0))=true then
   none
  else
   if (decide (y2.2>9223372036854775807))=true then
    none
   else
    grd (decide ((0:Int)≤(IntKind.wrap .i64 y2.2))&&decide ((IntKind.wrap .i64 y2.2)≤(IntKind.wrap .i64 y2.2))&&decide (8 * (IntKind.wrap .i64 y2.2)≤140737488355328)&&decide ((IntKind.wrap .i64 y2.2)≤140737488355328)&&Nat.blt 0 1) <|
    (iter (fun s=>cG n s) n ((x.take (List.replicate ((IntKind.wrap .i64 y2.2)).toNat 0).length++(List.replicate ((IntKind.wrap .i64 y2.2)).toNat 0).drop x.length),((min x.length (List.replicate ((IntKind.wrap .i64 y2.2)).toNat 0).length:Nat):Int))).bind fun t6 =>
    some t6
def iB (n:Nat) (c:af) (sa:(List Int)×Int):Option (((List Int)×Int)⊕((List Int))) :=
 if (decide (sa.2<(c.Order.length:Int)))=true then
  (aw c.Order sa.2).bind fun xa2 =>
  (aw sa.1 xa2).bind fun xa3 =>
  some (.inl ((sa.1.set (xa2).toNat sa.2),(ah .i64 sa.2 1)))
 else
  some (.inr sa.1)
def jN (n:Nat) (c:af):Option (List Int) :=
 (b_ n c).bind fun y1 =>
 if (y1 != 0)=true then
  some ([]:List Int)
 else
  (bM n ([(-1)]:List Int) (c.From.length:Int)).bind fun y3 =>
  (iter (fun s=>iB n c s) n (y3,0)).bind fun t4 =>
  some t4
def jD (n:Nat) (oA:(List Cell)) (oB:(List (List Event))) (oC:(List Int)) (oD:(List Int)) (y3:(List Event)) (y4:(List Int)) (sa:(List Int×(List (Option (List Int))))×Int):Option (((List Int×(List (Option (List Int))))×Int)⊕((List Int×(List (Option (List Int)))))) :=
 if (decide (sa.2<(oD.length:Int)))=true then
  (aw oD sa.2).bind fun xa2 =>
  (aw y3 xa2).bind fun xa3 =>
  (cj n xa3).bind fun ya4 =>
  if ya4=true then
   i8 (dM fE sa.1.1 xa3.Addr) (
    some (.inl (((sa.1.1++[xa3.Addr]),(sa.1.2++[some ([xa2]:List Int)])),(ah .i64 sa.2 1)))) fun za6 =>
    (sa.1.2[za6]?).bind fun xa8 =>
    i8 xa8 (
     some (.inl ((sa.1.1,(sa.1.2.set za6 (some ([xa2]:List Int)))),(ah .i64 sa.2 1)))) fun za9 =>
     grd (Nat.ble ((za9.length + 1) * 8) 140737488355328) <|
     some (.inl ((sa.1.1,(sa.1.2.set za6 (some (za9++([xa2]:List Int))))),(ah .i64 sa.2 1)))
  else
   some (.inl ((sa.1.1,sa.1.2),(ah .i64 sa.2 1)))
 else
  some (.inr (sa.1.1,sa.1.2))
def g0 (n:Nat) (oA:(List Cell)) (oB:(List (List Event))) (oC:(List Int)) (oD:(List Int)):Option (Unit⊕((List (Int×(List Int)))×(List Event)×(List Int))) :=
 (b_ n (af.mk oA oB oC oD)).bind fun y1 =>
 if (y1 != 0)=true then
  some (.inl ())
 else
  (mh n (af.mk oA oB oC oD)).bind fun y3 =>
  (jN n (af.mk oA oB oC oD)).bind fun y4 =>
  (iter (fun s=>jD n oA oB oC oD y3 y4 s) n ((([]:List Int),([]:List (Option (List Int)))),0)).bind fun t23 =>
  grd (nF t23.2) <|
  some (.inr ((AF t23.1 t23.2),y3,y4))
def eD (n:Nat) (why:Int) (a:Int) (b:Int):Option bi :=
 some (bi.mk false why a b)
def cz (n:Nat) (oA:(List Cell)) (oB:(List (List Event))) (oC:(List Int)) (oD:(List Int)) (oE:(List Event)) (sa:(List Int)×Int):Option (((List Int)×Int)⊕((List Int))) :=
 if (decide (sa.2<(sa.1.length:Int)))=true then
  grd (decide ((0:Int)≤sa.2)&&decide (sa.2≤(sa.1.length:Int))) <|
  grd (decide ((0:Int)≤sa.2)&&decide (sa.2≤(sa.1.length:Int))) <|
  grd (Nat.ble ((sa.2).toNat + (sa.1.length - (sa.2).toNat)) sa.1.length) <|
  some (.inl ((sa.1.take ((sa.2).toNat)++(((sa.1.drop 0).take ((sa.2).toNat)).take (sa.1.length - (sa.2).toNat)++sa.1.drop ((sa.2).toNat + min ((sa.1.drop 0).take ((sa.2).toNat)).length (sa.1.length - (sa.2).toNat)))),(ah .i64 sa.2 ((min ((sa.1.drop 0).take ((sa.2).toNat)).length (sa.1.length - (sa.2).toNat):Nat):Int))))
 else
  some (.inr sa.1)
def cg (n:Nat) (x:(List Int)) (count:Int) (oA:(List Cell)) (oB:(List (List Event))) (oC:(List Int)) (oD:(List Int)) (oE:(List Event)):Option (List Int) :=
 if (decide (count<0))=true then
  none
 else
  (fO n (IntKind.wrap .u64 (x.length:Int)) (IntKind.wrap .u64 count)).bind fun y2 =>
  if (decide (y2.1>0))=true then
   none
  else
   if (decide (y2.2>9223372036854775807))=true then
    none
   else
    grd (decide ((0:Int)≤(IntKind.wrap .i64 y2.2))&&decide ((IntKind.wrap .i64 y2.2)≤(IntKind.wrap .i64 y2.2))&&decide (8 * (IntKind.wrap .i64 y2.2)≤140737488355328)&&decide ((IntKind.wrap .i64 y2.2)≤140737488355328)&&Nat.blt 0 1) <|
    (iter (fun s=>cz n oA oB oC oD oE s) n ((x.take (List.replicate ((IntKind.wrap .i64 y2.2)).toNat 0).length++(List.replicate ((IntKind.wrap .i64 y2.2)).toNat 0).drop x.length),((min x.length (List.replicate ((IntKind.wrap .i64 y2.2)).toNat 0).length:Nat):Int))).bind fun t6 =>
    some t6
def mi (n:Nat) (c:af) (y3:(List Event)) (xa2:Event) (sb:(List Int)×(List Int)×(List Int)×(List Int)×(List Int)×Int×Int×Int):Option (((List Int)×(List Int)×(List Int)×(List Int)×(List Int)×Int×Int×Int)⊕((List Int)×(List Int)×(List Int)×(List Int)×(List Int)×Int×Int)) :=
 if (decide (sb.2.2.2.2.2.2.1<4))=true then
  if (sb.2.2.2.2.2.2.1==0)=true then
   (aw sb.2.1 sb.2.2.2.2.2.2.2).bind fun xb3 =>
   (aw sb.2.1 (ah .i64 sb.2.2.2.2.2.2.2 1)).bind fun xb4 =>
   if (xa2.Kind==6)=true then
    grd (decide ((0:Int)≤(zi .i64 sb.2.2.2.2.2.2.1 2))) <|
    if ((cN .i64 (jM .i64 xa2.Pred (zi .i64 sb.2.2.2.2.2.2.1 2)) 1)==1)=true then
     grd (decide ((0:Int)≤(mO .i64 sb.2.2.2.2.2.2.1 2))) <|
     if ((cN .i64 (jM .i64 xa2.Succ (mO .i64 sb.2.2.2.2.2.2.1 2)) 1)==1)=true then
      (aw (sb.2.1.set ((ah .i64 sb.2.2.2.2.2.2.2 1)).toNat xb3) (ah .i64 sb.2.2.2.2.2.2.2 1)).bind fun xb10 =>
      some (.inl (sb.1,((sb.2.1.set ((ah .i64 sb.2.2.2.2.2.2.2 1)).toNat xb3).set ((ah .i64 sb.2.2.2.2.2.2.2 1)).toNat (ah .i64 xb10 1)),sb.2.2.1,sb.2.2.2.1,sb.2.2.2.2.1,sb.2.2.2.2.2.1,(ah .i64 sb.2.2.2.2.2.2.1 1),sb.2.2.2.2.2.2.2))
     else
      some (.inl (sb.1,(sb.2.1.set ((ah .i64 sb.2.2.2.2.2.2.2 1)).toNat xb3),sb.2.2.1,sb.2.2.2.1,sb.2.2.2.2.1,sb.2.2.2.2.2.1,(ah .i64 sb.2.2.2.2.2.2.1 1),sb.2.2.2.2.2.2.2))
    else
     some (.inl (sb.1,(sb.2.1.set ((ah .i64 sb.2.2.2.2.2.2.2 1)).toNat xb3),sb.2.2.1,sb.2.2.2.1,sb.2.2.2.2.1,sb.2.2.2.2.2.1,(ah .i64 sb.2.2.2.2.2.2.1 1),sb.2.2.2.2.2.2.2))
   else
    some (.inl (sb.1,(sb.2.1.set ((ah .i64 sb.2.2.2.2.2.2.2 1)).toNat xb3),sb.2.2.1,sb.2.2.2.1,sb.2.2.2.2.1,sb.2.2.2.2.2.1,(ah .i64 sb.2.2.2.2.2.2.1 1),sb.2.2.2.2.2.2.2))
  else
   if (sb.2.2.2.2.2.2.1==1)=true then
    (aw sb.2.2.1 sb.2.2.2.2.2.2.2).bind fun xb3 =>
    (aw sb.2.2.1 (ah .i64 sb.2.2.2.2.2.2.2 1)).bind fun xb4 =>
    if (xa2.Kind==6)=true then
     grd (decide ((0:Int)≤(zi .i64 sb.2.2.2.2.2.2.1 2))) <|
     if ((cN .i64 (jM .i64 xa2.Pred (zi .i64 sb.2.2.2.2.2.2.1 2)) 1)==1)=true then
      grd (decide ((0:Int)≤(mO .i64 sb.2.2.2.2.2.2.1 2))) <|
      if ((cN .i64 (jM .i64 xa2.Succ (mO .i64 sb.2.2.2.2.2.2.1 2)) 1)==1)=true then
       (aw (sb.2.2.1.set ((ah .i64 sb.2.2.2.2.2.2.2 1)).toNat xb3) (ah .i64 sb.2.2.2.2.2.2.2 1)).bind fun xb10 =>
       some (.inl (sb.1,sb.2.1,((sb.2.2.1.set ((ah .i64 sb.2.2.2.2.2.2.2 1)).toNat xb3).set ((ah .i64 sb.2.2.2.2.2.2.2 1)).toNat (ah .i64 xb10 1)),sb.2.2.2.1,sb.2.2.2.2.1,sb.2.2.2.2.2.1,(ah .i64 sb.2.2.2.2.2.2.1 1),sb.2.2.2.2.2.2.2))
      else
       some (.inl (sb.1,sb.2.1,(sb.2.2.1.set ((ah .i64 sb.2.2.2.2.2.2.2 1)).toNat xb3),sb.2.2.2.1,sb.2.2.2.2.1,sb.2.2.2.2.2.1,(ah .i64 sb.2.2.2.2.2.2.1 1),sb.2.2.2.2.2.2.2))
     else
      some (.inl (sb.1,sb.2.1,(sb.2.2.1.set ((ah .i64 sb.2.2.2.2.2.2.2 1)).toNat xb3),sb.2.2.2.1,sb.2.2.2.2.1,sb.2.2.2.2.2.1,(ah .i64 sb.2.2.2.2.2.2.1 1),sb.2.2.2.2.2.2.2))
    else
     some (.inl (sb.1,sb.2.1,(sb.2.2.1.set ((ah .i64 sb.2.2.2.2.2.2.2 1)).toNat xb3),sb.2.2.2.1,sb.2.2.2.2.1,sb.2.2.2.2.2.1,(ah .i64 sb.2.2.2.2.2.2.1 1),sb.2.2.2.2.2.2.2))
   else
    if (sb.2.2.2.2.2.2.1==2)=true then
     (aw sb.2.2.2.1 sb.2.2.2.2.2.2.2).bind fun xb3 =>
     (aw sb.2.2.2.1 (ah .i64 sb.2.2.2.2.2.2.2 1)).bind fun xb4 =>
     if (xa2.Kind==6)=true then
      grd (decide ((0:Int)≤(zi .i64 sb.2.2.2.2.2.2.1 2))) <|
      if ((cN .i64 (jM .i64 xa2.Pred (zi .i64 sb.2.2.2.2.2.2.1 2)) 1)==1)=true then
       grd (decide ((0:Int)≤(mO .i64 sb.2.2.2.2.2.2.1 2))) <|
       if ((cN .i64 (jM .i64 xa2.Succ (mO .i64 sb.2.2.2.2.2.2.1 2)) 1)==1)=true then
        (aw (sb.2.2.2.1.set ((ah .i64 sb.2.2.2.2.2.2.2 1)).toNat xb3) (ah .i64 sb.2.2.2.2.2.2.2 1)).bind fun xb10 =>
        some (.inl (sb.1,sb.2.1,sb.2.2.1,((sb.2.2.2.1.set ((ah .i64 sb.2.2.2.2.2.2.2 1)).toNat xb3).set ((ah .i64 sb.2.2.2.2.2.2.2 1)).toNat (ah .i64 xb10 1)),sb.2.2.2.2.1,sb.2.2.2.2.2.1,(ah .i64 sb.2.2.2.2.2.2.1 1),sb.2.2.2.2.2.2.2))
       else
        some (.inl (sb.1,sb.2.1,sb.2.2.1,(sb.2.2.2.1.set ((ah .i64 sb.2.2.2.2.2.2.2 1)).toNat xb3),sb.2.2.2.2.1,sb.2.2.2.2.2.1,(ah .i64 sb.2.2.2.2.2.2.1 1),sb.2.2.2.2.2.2.2))
      else
       some (.inl (sb.1,sb.2.1,sb.2.2.1,(sb.2.2.2.1.set ((ah .i64 sb.2.2.2.2.2.2.2 1)).toNat xb3),sb.2.2.2.2.1,sb.2.2.2.2.2.1,(ah .i64 sb.2.2.2.2.2.2.1 1),sb.2.2.2.2.2.2.2))
     else
      some (.inl (sb.1,sb.2.1,sb.2.2.1,(sb.2.2.2.1.set ((ah .i64 sb.2.2.2.2.2.2.2 1)).toNat xb3),sb.2.2.2.2.1,sb.2.2.2.2.2.1,(ah .i64 sb.2.2.2.2.2.2.1 1),sb.2.2.2.2.2.2.2))
    else
     if (sb.2.2.2.2.2.2.1==3)=true then
      (aw sb.2.2.2.2.1 sb.2.2.2.2.2.2.2).bind fun xb3 =>
      (aw sb.2.2.2.2.1 (ah .i64 sb.2.2.2.2.2.2.2 1)).bind fun xb4 =>
      if (xa2.Kind==6)=true then
       grd (decide ((0:Int)≤(zi .i64 sb.2.2.2.2.2.2.1 2))) <|
       if ((cN .i64 (jM .i64 xa2.Pred (zi .i64 sb.2.2.2.2.2.2.1 2)) 1)==1)=true then
        grd (decide ((0:Int)≤(mO .i64 sb.2.2.2.2.2.2.1 2))) <|
        if ((cN .i64 (jM .i64 xa2.Succ (mO .i64 sb.2.2.2.2.2.2.1 2)) 1)==1)=true then
         (aw (sb.2.2.2.2.1.set ((ah .i64 sb.2.2.2.2.2.2.2 1)).toNat xb3) (ah .i64 sb.2.2.2.2.2.2.2 1)).bind fun xb10 =>
         some (.inl (sb.1,sb.2.1,sb.2.2.1,sb.2.2.2.1,((sb.2.2.2.2.1.set ((ah .i64 sb.2.2.2.2.2.2.2 1)).toNat xb3).set ((ah .i64 sb.2.2.2.2.2.2.2 1)).toNat (ah .i64 xb10 1)),sb.2.2.2.2.2.1,(ah .i64 sb.2.2.2.2.2.2.1 1),sb.2.2.2.2.2.2.2))
        else
         some (.inl (sb.1,sb.2.1,sb.2.2.1,sb.2.2.2.1,(sb.2.2.2.2.1.set ((ah .i64 sb.2.2.2.2.2.2.2 1)).toNat xb3),sb.2.2.2.2.2.1,(ah .i64 sb.2.2.2.2.2.2.1 1),sb.2.2.2.2.2.2.2))
       else
        some (.inl (sb.1,sb.2.1,sb.2.2.1,sb.2.2.2.1,(sb.2.2.2.2.1.set ((ah .i64 sb.2.2.2.2.2.2.2 1)).toNat xb3),sb.2.2.2.2.2.1,(ah .i64 sb.2.2.2.2.2.2.1 1),sb.2.2.2.2.2.2.2))
      else
       some (.inl (sb.1,sb.2.1,sb.2.2.1,sb.2.2.2.1,(sb.2.2.2.2.1.set ((ah .i64 sb.2.2.2.2.2.2.2 1)).toNat xb3),sb.2.2.2.2.2.1,(ah .i64 sb.2.2.2.2.2.2.1 1),sb.2.2.2.2.2.2.2))
     else
      none
 else
  some (.inr (sb.1,sb.2.1,sb.2.2.1,sb.2.2.2.1,sb.2.2.2.2.1,sb.2.2.2.2.2.1,sb.2.2.2.2.2.2.2))
def mj (n:Nat) (c:af) (y3:(List Event)) (xa2:Event) (sb:(List Int)×(List Int)×(List Int)×(List Int)×(List Int)×Int×Int×Int):Option (((List Int)×(List Int)×(List Int)×(List Int)×(List Int)×Int×Int×Int)⊕((List Int)×(List Int)×(List Int)×(List Int)×(List Int)×Int)) :=
 if (decide (sb.2.2.2.2.2.1<(xa2.Deps.Addr.length:Int)))=true then
  (aw xa2.Deps.Addr sb.2.2.2.2.2.1).bind fun xb2 =>
  (aw sb.1 (ah .i64 (cT .i64 sb.2.2.2.2.2.2.2 xa2.At) xb2)).bind fun xb3 =>
  some (.inl ((sb.1.set ((ah .i64 (cT .i64 sb.2.2.2.2.2.2.2 xa2.At) xb2)).toNat (Kd xb3 sb.2.2.2.2.2.2.2)),sb.2.1,sb.2.2.1,sb.2.2.2.1,sb.2.2.2.2.1,(ah .i64 sb.2.2.2.2.2.1 1),sb.2.2.2.2.2.2.1,sb.2.2.2.2.2.2.2))
 else
  some (.inr (sb.1,sb.2.1,sb.2.2.1,sb.2.2.2.1,sb.2.2.2.2.1,sb.2.2.2.2.2.2.1))
def pg (n:Nat) (c:af) (y3:(List Event)) (sa:(List Int)×(List Int)×(List Int)×(List Int)×(List Int)×Int):Option (((List Int)×(List Int)×(List Int)×(List Int)×(List Int)×Int)⊕((List Int)×(List Int)×(List Int)×(List Int)×(List Int))) :=
 if (decide (sa.2.2.2.2.2<(y3.length:Int)))=true then
  (aw y3 sa.2.2.2.2.2).bind fun xa2 =>
  (iter (fun s=>mi n c y3 xa2 s) n (sa.1,sa.2.1,sa.2.2.1,sa.2.2.2.1,sa.2.2.2.2.1,sa.2.2.2.2.2,0,sa.2.2.2.2.2)).bind fun ta3 =>
  (iter (fun s=>mj n c y3 xa2 s) n (ta3.1,ta3.2.1,ta3.2.2.1,ta3.2.2.2.1,ta3.2.2.2.2.1,0,ta3.2.2.2.2.2.1,ta3.2.2.2.2.2.2)).bind fun ta4 =>
  some (.inl (ta4.1,ta4.2.1,ta4.2.2.1,ta4.2.2.2.1,ta4.2.2.2.2.1,(ah .i64 ta4.2.2.2.2.2 1)))
 else
  some (.inr (sa.1,sa.2.1,sa.2.2.1,sa.2.2.2.1,sa.2.2.2.2.1))
def qd (n:Nat) (c:af):Option (Option ai) :=
 (b_ n c).bind fun y1 =>
 if (y1 != 0)=true then
  some (none:Option ai)
 else
  (aX n c.Harts).bind fun y3 =>
  (cg n ([(y3.length:Int)]:List Int) (y3.length:Int) c.First c.Harts c.From c.Order y3).bind fun y4 =>
  grd (decide ((0:Int)≤(ah .i64 (y3.length:Int) 1))&&decide ((ah .i64 (y3.length:Int) 1)≤(ah .i64 (y3.length:Int) 1))&&decide (8 * (ah .i64 (y3.length:Int) 1)≤140737488355328)&&decide ((ah .i64 (y3.length:Int) 1)≤140737488355328)&&Nat.blt 0 1) <|
  grd (decide ((0:Int)≤(ah .i64 (y3.length:Int) 1))&&decide ((ah .i64 (y3.length:Int) 1)≤(ah .i64 (y3.length:Int) 1))&&decide (8 * (ah .i64 (y3.length:Int) 1)≤140737488355328)&&decide ((ah .i64 (y3.length:Int) 1)≤140737488355328)&&Nat.blt 0 1) <|
  grd (decide ((0:Int)≤(ah .i64 (y3.length:Int) 1))&&decide ((ah .i64 (y3.length:Int) 1)≤(ah .i64 (y3.length:Int) 1))&&decide (8 * (ah .i64 (y3.length:Int) 1)≤140737488355328)&&decide ((ah .i64 (y3.length:Int) 1)≤140737488355328)&&Nat.blt 0 1) <|
  grd (decide ((0:Int)≤(ah .i64 (y3.length:Int) 1))&&decide ((ah .i64 (y3.length:Int) 1)≤(ah .i64 (y3.length:Int) 1))&&decide (8 * (ah .i64 (y3.length:Int) 1)≤140737488355328)&&decide ((ah .i64 (y3.length:Int) 1)≤140737488355328)&&Nat.blt 0 1) <|
  (iter (fun s=>pg n c y3 s) n (y4,(List.replicate ((ah .i64 (y3.length:Int) 1)).toNat 0),(List.replicate ((ah .i64 (y3.length:Int) 1)).toNat 0),(List.replicate ((ah .i64 (y3.length:Int) 1)).toNat 0),(List.replicate ((ah .i64 (y3.length:Int) 1)).toNat 0),0)).bind fun t9 =>
  some (some (ai.mk (some c) y3 (Ke.mk t9.2.1 t9.2.2.1 t9.2.2.2.1 t9.2.2.2.2) t9.1))
def ed (n:Nat) (v:ai) (a:Int) (b:Int):Option Bool :=
 if (decide (a<0))=true then
  some false
 else
  if (decide (b≥(v.all.length:Int)))=true then
   some false
  else
   if (decide (a≥b))=true then
    some false
   else
    (aw v.all a).bind fun x4 =>
    (aw v.all b).bind fun x5 =>
    if (x4.Hart==x5.Hart)=true then
     (fk n x4).bind fun y7 =>
     if y7=true then
      (fk n x5).bind fun y9 =>
      some y9
     else
      some false
    else
     some false
def sq (n:Nat):Option Unit :=
 some ()
def fg (n:Nat) (v:ai) (a:Int) (b:Int) (x:Event) (y:Event):Option Bool :=
 (cj n y).bind fun y1 =>
 if y1=true then
  some (x.Addr==y.Addr)
 else
  some false
def gM (n:Nat) (m:Event) (a:Int) (a_:Int) (a_A:Int) (a_B:Int) (a_C:Int) (a_D:Int) (a_E:Bool) (a_F:Bool) (a_G:Int) (a_H:Int) (a_I:Int) (a_J:(List Int)) (a_K:(List Int)) (a_L:(List Int)):Option Bool :=
 (cj n m).bind fun y1 =>
 if y1=true then
  some (m.Addr==a_B)
 else
  some false
def bd (n:Nat) (s_:(List Event)) (f:Int) (f_:Int) (f_A:Int) (f_B:Int) (f_C:Int) (f_D:Int) (f_E:Bool) (f_F:Bool) (f_G:Int) (f_H:Int) (f_I:Int) (f_J:(List Int)) (f_K:(List Int)) (f_L:(List Int)) (sa:Int):Option (Int⊕(Unit⊕Int)) :=
 if (decide (sa<(s_.length:Int)))=true then
  (aw s_ sa).bind fun xa2 =>
  (gM n xa2 f f_ f_A f_B f_C f_D f_E f_F f_G f_H f_I f_J f_K f_L).bind fun ya3 =>
  if ya3=true then
   some (.inr (.inr sa))
  else
   some (.inl (ah .i64 sa 1))
 else
  some (.inr (.inl ()))
def bk (n:Nat) (s_:(List Event)) (f:Int) (f_:Int) (f_A:Int) (f_B:Int) (f_C:Int) (f_D:Int) (f_E:Bool) (f_F:Bool) (f_G:Int) (f_H:Int) (f_I:Int) (f_J:(List Int)) (f_K:(List Int)) (f_L:(List Int)):Option Int :=
 (iter (fun s=>bd n s_ f f_ f_A f_B f_C f_D f_E f_F f_G f_H f_I f_J f_K f_L s) n 0).bind fun t1 =>
 match t1 with
 | .inl w2 =>
  some (-1)
 | .inr w2 =>
  some w2
def bf (n:Nat) (s_:(List Event)) (f:Int) (f_:Int) (f_A:Int) (f_B:Int) (f_C:Int) (f_D:Int) (f_E:Bool) (f_F:Bool) (f_G:Int) (f_H:Int) (f_I:Int) (f_J:(List Int)) (f_K:(List Int)) (f_L:(List Int)):Option Bool :=
 (bk n s_ f f_ f_A f_B f_C f_D f_E f_F f_G f_H f_I f_J f_K f_L).bind fun y1 =>
 some (decide (y1≥0))
def fh (n:Nat) (v:ai) (a:Int) (b:Int) (x:Event) (y:Event):Option Bool :=
 if (x.Addr != y.Addr)=true then
  some false
 else
  (bQ n x).bind fun y2 =>
  if (!y2)=true then
   some false
  else
   (bQ n y).bind fun y4 =>
   if (!y4)=true then
    some false
   else
    i8 v.c (
     none) fun z6 =>
     (aw z6.From a).bind fun x8 =>
     i8 v.c (
      none) fun z9 =>
      (aw z9.From b).bind fun x11 =>
      if (x8==x11)=true then
       some false
      else
       grd (decide ((0:Int)≤(ah .i64 a 1))&&decide ((ah .i64 a 1)≤b)&&decide (b≤(v.all.length:Int))) <|
       (bf n ((v.all.drop ((ah .i64 a 1)).toNat).take ((b).toNat - ((ah .i64 a 1)).toNat)) x.Hart x.At x.Kind x.Addr x.Load x.Store x.Aq x.Rl x.Pred x.Succ x.Pair x.Deps.Addr x.Deps.Data x.Deps.Way).bind fun y14 =>
       some (!y14)
def ic (n:Nat) (v:ai) (a:Int) (b:Int) (x:Event) (y:Event):Option Bool :=
 if (x.Kind==4)=true then
  (bQ n y).bind fun y2 =>
  if y2=true then
   i8 v.c (
    none) fun z4 =>
    (aw z4.From b).bind fun x6 =>
    some (x6==a)
  else
   some false
 else
  if (x.Kind==5)=true then
   (bQ n y).bind fun y3 =>
   if y3=true then
    i8 v.c (
     none) fun z5 =>
     (aw z5.From b).bind fun x7 =>
     some (x7==a)
   else
    some false
  else
   some false
def kx (n:Nat) (e:Event):Option (List Int) :=
 (cj n e).bind fun y1 =>
 if y1=true then
  (bQ n e).bind fun y3 =>
  if y3=true then
   grd (Nat.ble ((([0]:List Int).length + 1) * 8) 140737488355328) <|
   some (([0]:List Int)++([1]:List Int))
  else
   some ([0]:List Int)
 else
  (bQ n e).bind fun y3 =>
  if y3=true then
   some ([1]:List Int)
  else
   some ([]:List Int)
def fm (n:Nat) (v:ai) (a:Int) (b:Int) (y2:(List Int)) (xa2:Int) (ya4:(List Int)) (sb:Int×Int):Option ((Int×Int)⊕(Int⊕Unit)) :=
 if (decide (sb.2<(ya4.length:Int)))=true then
  (aw ya4 sb.2).bind fun xb2 =>
  if ((ah .i64 (mg .i64 2 xa2) xb2)==0)=true then
   (aw v.fences.e0 b).bind fun xb4 =>
   (aw v.fences.e0 a).bind fun xb5 =>
   if (decide (xb4>xb5))=true then
    some (.inr (.inr ()))
   else
    some (.inl (sb.1,(ah .i64 sb.2 1)))
  else
   if ((ah .i64 (mg .i64 2 xa2) xb2)==1)=true then
    (aw v.fences.e1 b).bind fun xb4 =>
    (aw v.fences.e1 a).bind fun xb5 =>
    if (decide (xb4>xb5))=true then
     some (.inr (.inr ()))
    else
     some (.inl (sb.1,(ah .i64 sb.2 1)))
   else
    if ((ah .i64 (mg .i64 2 xa2) xb2)==2)=true then
     (aw v.fences.e2 b).bind fun xb4 =>
     (aw v.fences.e2 a).bind fun xb5 =>
     if (decide (xb4>xb5))=true then
      some (.inr (.inr ()))
     else
      some (.inl (sb.1,(ah .i64 sb.2 1)))
    else
     if ((ah .i64 (mg .i64 2 xa2) xb2)==3)=true then
      (aw v.fences.e3 b).bind fun xb4 =>
      (aw v.fences.e3 a).bind fun xb5 =>
      if (decide (xb4>xb5))=true then
       some (.inr (.inr ()))
      else
       some (.inl (sb.1,(ah .i64 sb.2 1)))
     else
      none
 else
  some (.inr (.inl sb.1))
def fo (n:Nat) (v:ai) (a:Int) (b:Int) (y2:(List Int)) (sa:Int):Option (Int⊕(Unit⊕Unit)) :=
 if (decide (sa<(y2.length:Int)))=true then
  (aw y2 sa).bind fun xa2 =>
  (aw v.all b).bind fun xa3 =>
  (kx n xa3).bind fun ya4 =>
  (iter (fun s=>fm n v a b y2 xa2 ya4 s) n (sa,0)).bind fun ta5 =>
  match ta5 with
  | .inl wa6 =>
   some (.inl (ah .i64 wa6 1))
  | .inr wa6 =>
   some (.inr (.inr ()))
 else
  some (.inr (.inl ()))
def fH (n:Nat) (v:ai) (a:Int) (b:Int):Option Bool :=
 (aw v.all a).bind fun x1 =>
 (kx n x1).bind fun y2 =>
 (iter (fun s=>fo n v a b y2 s) n 0).bind fun t3 =>
 match t3 with
 | .inl w4 =>
  some false
 | .inr w4 =>
  some true
def ig (n:Nat) (v:ai) (a:Int) (b:Int) (x:Event) (y:Event):Option Bool :=
 (fH n v a b).bind fun y1 =>
 some y1
def lw (n:Nat) (v:ai) (a:Int) (b:Int) (x:Event) (y:Event):Option Bool :=
 some x.Aq
def ly (n:Nat) (v:ai) (a:Int) (b:Int) (x:Event) (y:Event):Option Bool :=
 some y.Rl
def ij (n:Nat) (v:ai) (a:Int) (b:Int) (x:Event) (y:Event):Option Bool :=
 if x.Aq=true then
  if y.Aq=true then
   some true
  else
   some y.Rl
 else
  if x.Rl=true then
   if y.Aq=true then
    some true
   else
    some y.Rl
  else
   some false
def lz (n:Nat) (v:ai) (a:Int) (b:Int) (x:Event) (y:Event):Option Bool :=
 if (y.Kind==4)=true then
  some (y.Pair==x.At)
 else
  some false
def cmp_isNaN_int (n:Nat) (x:Int):Option Bool :=
 some (x != x)
def cmp_Less_int (n:Nat) (x:Int) (y:Int):Option Bool :=
 (cmp_isNaN_int n x).bind fun y1 =>
 if y1=true then
  (cmp_isNaN_int n y).bind fun y3 =>
  if (!y3)=true then
   some true
  else
   some (decide (x<y))
 else
  some (decide (x<y))
def gn (n:Nat) (x:Int):Option Bool :=
 some (x != x)
def bY (n:Nat) (x:(List Int)) (target:Int) (sa:Int×Int):Option ((Int×Int)⊕Int) :=
 if (decide (sa.1<sa.2))=true then
  (aw x (IntKind.wrap .i64 (jM .u64 (IntKind.wrap .u64 (ah .i64 sa.1 sa.2)) 1))).bind fun xa2 =>
  (cmp_Less_int n xa2 target).bind fun ya3 =>
  if ya3=true then
   some (.inl ((ah .i64 (IntKind.wrap .i64 (jM .u64 (IntKind.wrap .u64 (ah .i64 sa.1 sa.2)) 1)) 1),sa.2))
  else
   some (.inl (sa.1,(IntKind.wrap .i64 (jM .u64 (IntKind.wrap .u64 (ah .i64 sa.1 sa.2)) 1))))
 else
  some (.inr sa.1)
def cA (n:Nat) (x:(List Int)) (target:Int):Option (Int×Bool) :=
 (iter (fun s=>bY n x target s) n (0,(x.length:Int))).bind fun t1 =>
 if (decide (t1<(x.length:Int)))=true then
  (aw x t1).bind fun x3 =>
  if (x3==target)=true then
   some (t1,true)
  else
   (gn n x3).bind fun y5 =>
   if y5=true then
    (gn n target).bind fun y7 =>
    some (t1,y7)
   else
    some (t1,false)
 else
  some (t1,false)
def mQ (n:Nat) (l:(List Int)) (at_:Int):Option Bool :=
 (cA n l at_).bind fun y1 =>
 some y1.2
def ik (n:Nat) (v:ai) (a:Int) (b:Int) (x:Event) (y:Event):Option Bool :=
 (mQ n y.Deps.Addr x.At).bind fun y1 =>
 some y1
def gp (n:Nat) (v:ai) (a:Int) (b:Int) (x:Event) (y:Event):Option Bool :=
 (mQ n y.Deps.Data x.At).bind fun y1 =>
 some y1
def gq (n:Nat) (v:ai) (a:Int) (b:Int) (x:Event) (y:Event):Option Bool :=
 (cj n y).bind fun y1 =>
 if y1=true then
  (mQ n y.Deps.Way x.At).bind fun y3 =>
  some y3
 else
  some false
def gr (n:Nat) (v:ai) (a:Int) (b:Int) (x:Event) (y:Event):Option Bool :=
 i8 v.c (
  none) fun z1 =>
  (aw z1.From b).bind fun x3 =>
  (bQ n y).bind fun y4 =>
  if y4=true then
   if (decide (x3>a))=true then
    if (decide (x3<b))=true then
     (aw v.all x3).bind fun x8 =>
     (mQ n x8.Deps.Addr x.At).bind fun y9 =>
     if y9=true then
      some true
     else
      (mQ n x8.Deps.Data x.At).bind fun y11 =>
      some y11
    else
     some false
   else
    some false
  else
   some false
def gu (n:Nat) (v:ai) (a:Int) (b:Int) (x:Event) (y:Event):Option Bool :=
 (cj n y).bind fun y1 =>
 if y1=true then
  (aw v.hung a).bind fun x3 =>
  some (decide (x3<b))
 else
  some false
def e_ (n:Nat) (v:ai) (a:Int) (b:Int) (sa:Int):Option (Int⊕(Unit⊕Int)) :=
 if (decide (sa<13))=true then
  if (sa==0)=true then
   (aw v.all a).bind fun xa3 =>
   (aw v.all b).bind fun xa4 =>
   (fg n v a b xa3 xa4).bind fun ya5 =>
   if ya5=true then
    some (.inr (.inr 1))
   else
    some (.inl 1)
  else
   if (sa==1)=true then
    (aw v.all a).bind fun xa3 =>
    (aw v.all b).bind fun xa4 =>
    (fh n v a b xa3 xa4).bind fun ya5 =>
    if ya5=true then
     some (.inr (.inr 2))
    else
     some (.inl 2)
   else
    if (sa==2)=true then
     (aw v.all a).bind fun xa3 =>
     (aw v.all b).bind fun xa4 =>
     (ic n v a b xa3 xa4).bind fun ya5 =>
     if ya5=true then
      some (.inr (.inr 3))
     else
      some (.inl 3)
    else
     if (sa==3)=true then
      (aw v.all a).bind fun xa3 =>
      (aw v.all b).bind fun xa4 =>
      (ig n v a b xa3 xa4).bind fun ya5 =>
      if ya5=true then
       some (.inr (.inr 4))
      else
       some (.inl 4)
     else
      if (sa==4)=true then
       (aw v.all a).bind fun xa3 =>
       (aw v.all b).bind fun xa4 =>
       (lw n v a b xa3 xa4).bind fun ya5 =>
       if ya5=true then
        some (.inr (.inr 5))
       else
        some (.inl 5)
      else
       if (sa==5)=true then
        (aw v.all a).bind fun xa3 =>
        (aw v.all b).bind fun xa4 =>
        (ly n v a b xa3 xa4).bind fun ya5 =>
        if ya5=true then
         some (.inr (.inr 6))
        else
         some (.inl 6)
       else
        if (sa==6)=true then
         (aw v.all a).bind fun xa3 =>
         (aw v.all b).bind fun xa4 =>
         (ij n v a b xa3 xa4).bind fun ya5 =>
         if ya5=true then
          some (.inr (.inr 7))
         else
          some (.inl 7)
        else
         if (sa==7)=true then
          (aw v.all a).bind fun xa3 =>
          (aw v.all b).bind fun xa4 =>
          (lz n v a b xa3 xa4).bind fun ya5 =>
          if ya5=true then
           some (.inr (.inr 8))
          else
           some (.inl 8)
         else
          if (sa==8)=true then
           (aw v.all a).bind fun xa3 =>
           (aw v.all b).bind fun xa4 =>
           (ik n v a b xa3 xa4).bind fun ya5 =>
           if ya5=true then
            some (.inr (.inr 9))
           else
            some (.inl 9)
          else
           if (sa==9)=true then
            (aw v.all a).bind fun xa3 =>
            (aw v.all b).bind fun xa4 =>
            (gp n v a b xa3 xa4).bind fun ya5 =>
            if ya5=true then
             some (.inr (.inr 10))
            else
             some (.inl 10)
           else
            if (sa==10)=true then
             (aw v.all a).bind fun xa3 =>
             (aw v.all b).bind fun xa4 =>
             (gq n v a b xa3 xa4).bind fun ya5 =>
             if ya5=true then
              some (.inr (.inr 11))
             else
              some (.inl 11)
            else
             if (sa==11)=true then
              (aw v.all a).bind fun xa3 =>
              (aw v.all b).bind fun xa4 =>
              (gr n v a b xa3 xa4).bind fun ya5 =>
              if ya5=true then
               some (.inr (.inr 12))
              else
               some (.inl 12)
             else
              if (sa==12)=true then
               (aw v.all a).bind fun xa3 =>
               (aw v.all b).bind fun xa4 =>
               (gu n v a b xa3 xa4).bind fun ya5 =>
               if ya5=true then
                some (.inr (.inr 13))
               else
                some (.inl 13)
              else
               if (sa==13)=true then
                none
               else
                none
 else
  some (.inr (.inl ()))
def cF (n:Nat) (v:ai) (a:Int) (b:Int):Option Int :=
 (ed n v a b).bind fun y1 =>
 if (!y1)=true then
  some 0
 else
  (sq n).bind fun y3 =>
  (iter (fun s=>e_ n v a b s) n 0).bind fun t4 =>
  match t4 with
  | .inl w5 =>
   some 0
  | .inr w5 =>
   some w5
def km (n:Nat) (z2:ai) (xa2:Event) (sb:(List (eW Int))×Int×Int×Int):Option (((List (eW Int))×Int×Int×Int)⊕((List (eW Int))×Int)) :=
 if (decide (sb.2.2.2<(z2.all.length:Int)))=true then
  (aw z2.all sb.2.2.2).bind fun xb2 =>
  if (xb2.Hart==xa2.Hart)=true then
   (cF n z2 sb.2.2.1 sb.2.2.2).bind fun yb4 =>
   if (decide (yb4>0))=true then
    grd (Nat.ble ((sb.1.length + 1) * 16) 140737488355328) <|
    some (.inl ((sb.1++([(eW.mk sb.2.2.1 sb.2.2.2)]:List (eW Int))),sb.2.1,sb.2.2.1,(ah .i64 sb.2.2.2 1)))
   else
    some (.inl (sb.1,sb.2.1,sb.2.2.1,(ah .i64 sb.2.2.2 1)))
  else
   some (.inr (sb.1,sb.2.1))
 else
  some (.inr (sb.1,sb.2.1))
def kn (n:Nat) (z2:ai) (sa:(List (eW Int))×Int):Option (((List (eW Int))×Int)⊕((List (eW Int)))) :=
 if (decide (sa.2<(z2.all.length:Int)))=true then
  (aw z2.all sa.2).bind fun xa2 =>
  (iter (fun s=>km n z2 xa2 s) n (sa.1,sa.2,sa.2,(ah .i64 sa.2 1))).bind fun ta3 =>
  some (.inl (ta3.1,(ah .i64 ta3.2 1)))
 else
  some (.inr sa.1)
def ky (n:Nat) (c:af):Option (List (eW Int)) :=
 (qd n c).bind fun y1 =>
 match y1 with
 | none =>
  some ([]:List (eW Int))
 | some z2 =>
  (iter (fun s=>kn n z2 s) n (([]:List (eW Int)),0)).bind fun t3 =>
  some t3
def g7 (n:Nat):Option bi :=
 some (bi.mk true 0 (-1) (-1))
def dI (n:Nat) (oA:(List Cell)) (oB:(List (List Event))) (oC:(List Int)) (oD:(List Int)) (oE:(List (Int×(List Int)))) (oF:(List Event)) (oG:(List Int)) (y1:(List (eW Int))) (sa:Int):Option (Int⊕(Unit⊕(Bool×Int×Int×Int))) :=
 if (decide (sa<(y1.length:Int)))=true then
  (aw y1 sa).bind fun xa2 =>
  (aw oG xa2.e0).bind fun xa3 =>
  (aw oG xa2.e1).bind fun xa4 =>
  if (decide (xa3>xa4))=true then
   (eD n 2 xa2.e0 xa2.e1).bind fun ya6 =>
   some (.inr (.inr (ya6.OK,ya6.Why,ya6.A_,ya6.B)))
  else
   some (.inl (ah .i64 sa 1))
 else
  some (.inr (.inl ()))
def dD (n:Nat) (oA:(List Cell)) (oB:(List (List Event))) (oC:(List Int)) (oD:(List Int)) (oE:(List (Int×(List Int)))) (oF:(List Event)) (oG:(List Int)):Option (Bool×Int×Int×Int) :=
 (ky n (af.mk oA oB oC oD)).bind fun y1 =>
 (iter (fun s=>dI n oA oB oC oD oE oF oG y1 s) n 0).bind fun t2 =>
 match t2 with
 | .inl w3 =>
  (g7 n).bind fun y4 =>
  some (y4.OK,y4.Why,y4.A_,y4.B)
 | .inr w3 =>
  some (w3.1,w3.2.1,w3.2.2.1,w3.2.2.2)
def bN (n:Nat) (n_:Int) (oA:(List Cell)) (oB:(List (List Event))) (oC:(List Int)) (oD:(List Int)) (oE:(List (Int×(List Int)))) (oF:(List Event)) (oG:(List Int)) (x1:Event) (sa:(List Int)×Int):Option (((List Int)×Int)⊕(Unit⊕Int)) :=
 if (decide (sa.2≥0))=true then
  (aw sa.1 sa.2).bind fun xa2 =>
  (aw oF xa2).bind fun xa3 =>
  if (xa2 != n_)=true then
   (aw oG xa2).bind fun xa5 =>
   (aw oG n_).bind fun xa6 =>
   if (decide (xa5<xa6))=true then
    some (.inr (.inr xa2))
   else
    if (xa3.Hart==x1.Hart)=true then
     if (decide (xa3.At<x1.At))=true then
      some (.inr (.inr xa2))
     else
      some (.inl (sa.1,(cT .i64 sa.2 1)))
    else
     some (.inl (sa.1,(cT .i64 sa.2 1)))
  else
   some (.inl (sa.1,(cT .i64 sa.2 1)))
 else
  some (.inr (.inl ()))
def cq (n:Nat) (n_:Int) (oA:(List Cell)) (oB:(List (List Event))) (oC:(List Int)) (oD:(List Int)) (oE:(List (Int×(List Int)))) (oF:(List Event)) (oG:(List Int)):Option Int :=
 (aw oF n_).bind fun x1 =>
 i8 (kj fE oE x1.Addr) (
  (iter (fun s=>bN n n_ oA oB oC oD oE oF oG x1 s) n (([]:List Int),(-1))).bind fun t3 =>
  match t3 with
  | .inl w4 =>
   some (-1)
  | .inr w4 =>
   some w4) fun z2 =>
  (iter (fun s=>bN n n_ oA oB oC oD oE oF oG x1 s) n (z2,(cT .i64 (z2.length:Int) 1))).bind fun t4 =>
  match t4 with
  | .inl w5 =>
   some (-1)
  | .inr w5 =>
   some w5
def dJ (n:Nat) (oA:(List Cell)) (oB:(List (List Event))) (oC:(List Int)) (oD:(List Int)) (oE:(List (Int×(List Int)))) (oF:(List Event)) (oG:(List Int)) (sa:Int):Option (Int⊕(Unit⊕(Bool×Int×Int×Int))) :=
 if (decide (sa<(oF.length:Int)))=true then
  (aw oF sa).bind fun xa2 =>
  (bQ n xa2).bind fun ya3 =>
  if (!ya3)=true then
   some (.inl (ah .i64 sa 1))
  else
   (cq n sa oA oB oC oD oE oF oG).bind fun ya5 =>
   (aw oC sa).bind fun xa6 =>
   if (ya5 != xa6)=true then
    (eD n 3 sa ya5).bind fun ya8 =>
    some (.inr (.inr (ya8.OK,ya8.Why,ya8.A_,ya8.B)))
   else
    some (.inl (ah .i64 sa 1))
 else
  some (.inr (.inl ()))
def dE (n:Nat) (oA:(List Cell)) (oB:(List (List Event))) (oC:(List Int)) (oD:(List Int)) (oE:(List (Int×(List Int)))) (oF:(List Event)) (oG:(List Int)):Option (Bool×Int×Int×Int) :=
 (iter (fun s=>dJ n oA oB oC oD oE oF oG s) n 0).bind fun t1 =>
 match t1 with
 | .inl w2 =>
  (g7 n).bind fun y3 =>
  some (y3.OK,y3.Why,y3.A_,y3.B)
 | .inr w2 =>
  some (w2.1,w2.2.1,w2.2.2.1,w2.2.2.2)
def bp (n:Nat) (oA:(List Cell)) (oB:(List (List Event))) (oC:(List Int)) (oD:(List Int)) (oE:(List (Int×(List Int)))) (oF:(List Event)) (oG:(List Int)) (xa2:Event) (sb:Int×Int×Int×Int×(List Int)×Int×Int):Option ((Int×Int×Int×Int×(List Int)×Int×Int)⊕(Int⊕(Bool×Int×Int×Int))) :=
 if (decide (sb.2.2.2.2.2.2<sb.2.2.2.2.2.1))=true then
  (aw sb.2.2.2.2.1 sb.2.2.2.2.2.2).bind fun xb2 =>
  (aw oG xb2).bind fun xb3 =>
  if (decide (xb3>sb.2.2.2.1))=true then
   (aw oG sb.2.1).bind fun xb5 =>
   if (decide (xb3<xb5))=true then
    (aw oF xb2).bind fun xb7 =>
    if (xb7.Hart != xa2.Hart)=true then
     (eD n 4 sb.2.2.1 xb2).bind fun yb9 =>
     some (.inr (.inr (yb9.OK,yb9.Why,yb9.A_,yb9.B)))
    else
     some (.inl (sb.1,sb.2.1,sb.2.2.1,sb.2.2.2.1,sb.2.2.2.2.1,sb.2.2.2.2.2.1,(ah .i64 sb.2.2.2.2.2.2 1)))
   else
    some (.inl (sb.1,sb.2.1,sb.2.2.1,sb.2.2.2.1,sb.2.2.2.2.1,sb.2.2.2.2.2.1,(ah .i64 sb.2.2.2.2.2.2 1)))
  else
   some (.inl (sb.1,sb.2.1,sb.2.2.1,sb.2.2.2.1,sb.2.2.2.2.1,sb.2.2.2.2.2.1,(ah .i64 sb.2.2.2.2.2.2 1)))
 else
  some (.inr (.inl sb.1))
def ew (n:Nat) (oA:(List Cell)) (oB:(List (List Event))) (oC:(List Int)) (oD:(List Int)) (oE:(List (Int×(List Int)))) (oF:(List Event)) (oG:(List Int)) (sa:Int):Option (Int⊕(Unit⊕(Bool×Int×Int×Int))) :=
 if (decide (sa<(oF.length:Int)))=true then
  (aw oF sa).bind fun xa2 =>
  if (xa2.Kind != 4)=true then
   some (.inl (ah .i64 sa 1))
  else
   (aw oC (ah .i64 (cT .i64 sa xa2.At) xa2.Pair)).bind fun xa4 =>
   if (decide (xa4≥0))=true then
    (aw oG xa4).bind fun xa6 =>
    (aw oG sa).bind fun xa7 =>
    if (decide (xa6≥xa7))=true then
     (eD n 4 (ah .i64 (cT .i64 sa xa2.At) xa2.Pair) xa4).bind fun ya9 =>
     some (.inr (.inr (ya9.OK,ya9.Why,ya9.A_,ya9.B)))
    else
     i8 (kj fE oE xa2.Addr) (
      (iter (fun s=>bp n oA oB oC oD oE oF oG xa2 s) n (sa,sa,(ah .i64 (cT .i64 sa xa2.At) xa2.Pair),xa6,([]:List Int),0,0)).bind fun ta10 =>
      match ta10 with
      | .inl wa11 =>
       some (.inl (ah .i64 wa11 1))
      | .inr wa11 =>
       some (.inr (.inr (wa11.1,wa11.2.1,wa11.2.2.1,wa11.2.2.2)))) fun za9 =>
      (iter (fun s=>bp n oA oB oC oD oE oF oG xa2 s) n (sa,sa,(ah .i64 (cT .i64 sa xa2.At) xa2.Pair),xa6,za9,(za9.length:Int),0)).bind fun ta11 =>
      match ta11 with
      | .inl wa12 =>
       some (.inl (ah .i64 wa12 1))
      | .inr wa12 =>
       some (.inr (.inr (wa12.1,wa12.2.1,wa12.2.2.1,wa12.2.2.2)))
   else
    i8 (kj fE oE xa2.Addr) (
     (iter (fun s=>bp n oA oB oC oD oE oF oG xa2 s) n (sa,sa,(ah .i64 (cT .i64 sa xa2.At) xa2.Pair),(-1),([]:List Int),0,0)).bind fun ta7 =>
     match ta7 with
     | .inl wa8 =>
      some (.inl (ah .i64 wa8 1))
     | .inr wa8 =>
      some (.inr (.inr (wa8.1,wa8.2.1,wa8.2.2.1,wa8.2.2.2)))) fun za6 =>
     (iter (fun s=>bp n oA oB oC oD oE oF oG xa2 s) n (sa,sa,(ah .i64 (cT .i64 sa xa2.At) xa2.Pair),(-1),za6,(za6.length:Int),0)).bind fun ta8 =>
     match ta8 with
     | .inl wa9 =>
      some (.inl (ah .i64 wa9 1))
     | .inr wa9 =>
      some (.inr (.inr (wa9.1,wa9.2.1,wa9.2.2.1,wa9.2.2.2)))
 else
  some (.inr (.inl ()))
def ef (n:Nat) (oA:(List Cell)) (oB:(List (List Event))) (oC:(List Int)) (oD:(List Int)) (oE:(List (Int×(List Int)))) (oF:(List Event)) (oG:(List Int)):Option (Bool×Int×Int×Int) :=
 (iter (fun s=>ew n oA oB oC oD oE oF oG s) n 0).bind fun t1 =>
 match t1 with
 | .inl w2 =>
  (g7 n).bind fun y3 =>
  some (y3.OK,y3.Why,y3.A_,y3.B)
 | .inr w2 =>
  some (w2.1,w2.2.1,w2.2.2.1,w2.2.2.2)
def f7 (n:Nat) (c:af):Option bi :=
 (g0 n c.First c.Harts c.From c.Order).bind fun y1 =>
 match y1 with
 | .inl wa2 =>
  (eD n 1 (-1) (-1)).bind fun y3 =>
  some y3
 | .inr wb2 =>
  (dD n c.First c.Harts c.From c.Order wb2.1 wb2.2.1 wb2.2.2).bind fun y3 =>
  if (!y3.1)=true then
   some (bi.mk y3.1 y3.2.1 y3.2.2.1 y3.2.2.2)
  else
   (dE n c.First c.Harts c.From c.Order wb2.1 wb2.2.1 wb2.2.2).bind fun y5 =>
   if (!y5.1)=true then
    some (bi.mk y5.1 y5.2.1 y5.2.2.1 y5.2.2.2)
   else
    (ef n c.First c.Harts c.From c.Order wb2.1 wb2.2.1 wb2.2.2).bind fun y7 =>
    if (!y7.1)=true then
     some (bi.mk y7.1 y7.2.1 y7.2.2.1 y7.2.2.2)
    else
     (g7 n).bind fun y9 =>
     some y9
def qe (n:Nat) (j:bi):Option ByteArray:=if bi.beq j ⟨false,2,0,2⟩=true then some ⟨#[111,114,100,101,114,32,48,32,50]⟩ else none
def ml (n:Nat):Option Bool :=
 (lu n false).bind fun y1 =>
 (f7 n y1).bind fun y2 =>
 if (bi.beq y2 (bi.mk true 0 (-1) (-1)))=true then
  (lu n true).bind fun y4 =>
  (f7 n y4).bind fun y5 =>
  (qe n y5).bind fun y6 =>
  some (y6.toList==(ByteArray.mk #[111,114,100,101,114,32,48,32,50]).toList)
 else
  some false
def jE (n:Nat) (d:Deps) (most:Int):Option Bool :=
 if (decide ((d.Addr.length:Int)≤most))=true then
  if (decide ((d.Data.length:Int)≤most))=true then
   some (decide ((d.Way.length:Int)≤most))
  else
   some false
 else
  some false
def fp (n:Nat) (l:(List Event)) (sa:Int):Option (Int⊕(Unit⊕Unit)) :=
 if (decide (sa<(l.length:Int)))=true then
  (aw l sa).bind fun xa2 =>
  (jE n xa2.Deps 60).bind fun ya3 =>
  if (!ya3)=true then
   some (.inr (.inr ()))
  else
   some (.inl (ah .i64 sa 1))
 else
  some (.inr (.inl ()))
def fI (n:Nat) (l:(List Event)) (most:Int):Option Bool :=
 if (decide ((l.length:Int)>most))=true then
  some false
 else
  (iter (fun s=>fp n l s) n 0).bind fun t2 =>
  match t2 with
  | .inl w3 =>
   some true
  | .inr w3 =>
   some false
def gv (n:Nat) (c:af) (most:Int) (sa:Int×Int):Option ((Int×Int)⊕(Int⊕Unit)) :=
 if (decide (sa.2<(c.Harts.length:Int)))=true then
  if (decide (sa.2<10))=true then
   (aw c.Harts sa.2).bind fun xa3 =>
   (fI n xa3 most).bind fun ya4 =>
   if (!ya4)=true then
    some (.inr (.inr ()))
   else
    some (.inl ((ah .i64 sa.1 (xa3.length:Int)),(ah .i64 sa.2 1)))
  else
   some (.inr (.inl sa.1))
 else
  some (.inr (.inl sa.1))
def gN (n:Nat) (c:af) (most:Int):Option Bool :=
 (iter (fun s=>gv n c most s) n (0,0)).bind fun t1 =>
 match t1 with
 | .inl w2 =>
  if (decide ((c.Harts.length:Int)≤9))=true then
   if (decide (w2≤most))=true then
    if (decide ((c.First.length:Int)≤most))=true then
     if (decide ((c.From.length:Int)≤(mg .i64 2 most)))=true then
      some (decide ((c.Order.length:Int)≤(mg .i64 2 most)))
     else
      some false
    else
     some false
   else
    some false
  else
   some false
 | .inr w2 =>
  some false
def nK (n:Nat) (c:af):Option Bool :=
 (f7 n c).bind fun y1 =>
 some y1.OK
def ko (n:Nat) (l:(List Cell)) (sa:Int):Option (Int⊕(Unit⊕Unit)) :=
 if (decide (sa<(l.length:Int)))=true then
  (aw l sa).bind fun xa2 =>
  if ((mO .u64 xa2.Addr 8) != 0)=true then
   some (.inr (.inr ()))
  else
   if (decide (sa>0))=true then
    (aw l (cT .i64 sa 1)).bind fun xa5 =>
    if (decide (xa5.Addr≥xa2.Addr))=true then
     some (.inr (.inr ()))
    else
     some (.inl (ah .i64 sa 1))
   else
    some (.inl (ah .i64 sa 1))
 else
  some (.inr (.inl ()))
def jb (n:Nat) (l:(List Cell)):Option Bool :=
 (iter (fun s=>ko n l s) n 0).bind fun t1 =>
 match t1 with
 | .inl w2 =>
  some true
 | .inr w2 =>
  some false
def fP (n:Nat) (e:Event):Option Bool :=
 if (e.Kind==1)=true then
  some true
 else
  if (e.Kind==3)=true then
   some true
  else
   some (e.Kind==5)
def eg (n:Nat) (e:Event):Option Bool :=
 if (e.Kind==2)=true then
  some true
 else
  if (e.Kind==4)=true then
   some true
  else
   some (e.Kind==5)
def fq (n:Nat) (e:Event):Option Bool :=
 (fP n e).bind fun y1 =>
 if y1=true then
  some true
 else
  (eg n e).bind fun y3 =>
  some y3
def dO (n:Nat) (l:(List Int)) (sa:Int):Option (Int⊕(Unit⊕Unit)) :=
 if (decide (sa<(l.length:Int)))=true then
  (aw l sa).bind fun xa2 =>
  if (decide (xa2<0))=true then
   some (.inr (.inr ()))
  else
   if (decide (sa>0))=true then
    (aw l (cT .i64 sa 1)).bind fun xa5 =>
    if (decide (xa5≥xa2))=true then
     some (.inr (.inr ()))
    else
     some (.inl (ah .i64 sa 1))
   else
    some (.inl (ah .i64 sa 1))
 else
  some (.inr (.inl ()))
def kH (n:Nat) (l:(List Int)):Option Bool :=
 (iter (fun s=>dO n l s) n 0).bind fun t1 =>
 match t1 with
 | .inl w2 =>
  some true
 | .inr w2 =>
  some false
def jc (n:Nat) (l:(List Int)) (at_:Int):Option Bool :=
 (kH n l).bind fun y1 =>
 if y1=true then
  if ((l.length:Int)==0)=true then
   some true
  else
   (aw l (cT .i64 (l.length:Int) 1)).bind fun x4 =>
   some (decide (x4<at_))
 else
  some false
def ay (n:Nat) (sa:Bool):Option Int :=
 if (!sa)=true then
  some 2
 else
  some 0
def bH (n:Nat) (e:Event) (sd:Bool):Option Bool :=
 if sd=true then
  (jc n e.Deps.Addr e.At).bind fun yd2 =>
  if yd2=true then
   (jc n e.Deps.Data e.At).bind fun yd4 =>
   if yd4=true then
    (jc n e.Deps.Way e.At).bind fun yd6 =>
    if yd6=true then
     (eg n e).bind fun yd8 =>
     if yd8=true then
      some true
     else
      some ((e.Deps.Data.length:Int)==0)
    else
     some false
   else
    some false
  else
   some false
 else
  some false
def ci (n:Nat) (e:Event) (sb:Bool):Option Bool :=
 if sb=true then
  if (e.Kind==4)=true then
   if (decide (e.Pair≥0))=true then
    if (decide (e.Pair<e.At))=true then
     (bH n e true).bind fun tb5 =>
     some tb5
    else
     if (e.Kind != 4)=true then
      (bH n e (e.Pair==0)).bind fun tb6 =>
      some tb6
     else
      (bH n e false).bind fun tb6 =>
      some tb6
   else
    if (e.Kind != 4)=true then
     (bH n e (e.Pair==0)).bind fun tb5 =>
     some tb5
    else
     (bH n e false).bind fun tb5 =>
     some tb5
  else
   if (e.Kind != 4)=true then
    (bH n e (e.Pair==0)).bind fun tb4 =>
    some tb4
   else
    (bH n e false).bind fun tb4 =>
    some tb4
 else
  (bH n e false).bind fun tb2 =>
  some tb2
def aZ (n:Nat) (e:Event) (sa:Bool):Option Bool :=
 if sa=true then
  if (e.Kind != 1)=true then
   if (e.Kind != 2)=true then
    (ci n e true).bind fun ta4 =>
    some ta4
   else
    if (!e.Aq)=true then
     (ci n e (!e.Rl)).bind fun ta5 =>
     some ta5
    else
     (ci n e false).bind fun ta5 =>
     some ta5
  else
   if (!e.Aq)=true then
    (ci n e (!e.Rl)).bind fun ta4 =>
    some ta4
   else
    (ci n e false).bind fun ta4 =>
    some ta4
 else
  (ci n e false).bind fun ta2 =>
  some ta2
def eP (n:Nat) (e:Event):Option Int :=
 if (decide (e.Hart≥0))=true then
  if (decide (e.Hart<8))=true then
   if (e.Kind==6)=true then
    if (decide (e.At≥0))=true then
     if (e.Addr==0)=true then
      if (e.Load==0)=true then
       if (e.Store==0)=true then
        if (!e.Aq)=true then
         if (!e.Rl)=true then
          if (e.Pair==0)=true then
           if ((ah .i64 (ah .i64 (e.Deps.Addr.length:Int) (e.Deps.Data.length:Int)) (e.Deps.Way.length:Int))==0)=true then
            if (decide (e.Pred≥0))=true then
             if (decide (e.Pred≤15))=true then
              if (decide (e.Succ≥0))=true then
               (ay n (decide (e.Succ≤15))).bind fun t15 =>
               some t15
              else
               (ay n false).bind fun t15 =>
               some t15
             else
              (ay n false).bind fun t14 =>
              some t14
            else
             (ay n false).bind fun t13 =>
             some t13
           else
            (ay n false).bind fun t12 =>
            some t12
          else
           (ay n false).bind fun t11 =>
           some t11
         else
          (ay n false).bind fun t10 =>
          some t10
        else
         (ay n false).bind fun t9 =>
         some t9
       else
        (ay n false).bind fun t8 =>
        some t8
      else
       (ay n false).bind fun t7 =>
       some t7
     else
      (ay n false).bind fun t6 =>
      some t6
    else
     (ay n false).bind fun t5 =>
     some t5
   else
    if (decide (e.At≥0))=true then
     (fq n e).bind fun y5 =>
     if y5=true then
      if ((mO .u64 e.Addr 8)==0)=true then
       (fP n e).bind fun y8 =>
       if y8=true then
        (eg n e).bind fun y10 =>
        if y10=true then
         if (e.Pred==0)=true then
          (aZ n e (e.Succ==0)).bind fun t13 =>
          (ay n t13).bind fun t14 =>
          some t14
         else
          (aZ n e false).bind fun t13 =>
          (ay n t13).bind fun t14 =>
          some t14
        else
         if (e.Store==0)=true then
          if (e.Pred==0)=true then
           (aZ n e (e.Succ==0)).bind fun t14 =>
           (ay n t14).bind fun t15 =>
           some t15
          else
           (aZ n e false).bind fun t14 =>
           (ay n t14).bind fun t15 =>
           some t15
         else
          (aZ n e false).bind fun t13 =>
          (ay n t13).bind fun t14 =>
          some t14
       else
        if (e.Load==0)=true then
         (eg n e).bind fun y11 =>
         if y11=true then
          if (e.Pred==0)=true then
           (aZ n e (e.Succ==0)).bind fun t14 =>
           (ay n t14).bind fun t15 =>
           some t15
          else
           (aZ n e false).bind fun t14 =>
           (ay n t14).bind fun t15 =>
           some t15
         else
          if (e.Store==0)=true then
           if (e.Pred==0)=true then
            (aZ n e (e.Succ==0)).bind fun t15 =>
            (ay n t15).bind fun t16 =>
            some t16
           else
            (aZ n e false).bind fun t15 =>
            (ay n t15).bind fun t16 =>
            some t16
          else
           (aZ n e false).bind fun t14 =>
           (ay n t14).bind fun t15 =>
           some t15
        else
         (aZ n e false).bind fun t11 =>
         (ay n t11).bind fun t12 =>
         some t12
      else
       (aZ n e false).bind fun t8 =>
       (ay n t8).bind fun t9 =>
       some t9
     else
      (aZ n e false).bind fun t7 =>
      (ay n t7).bind fun t8 =>
      some t8
    else
     (aZ n e false).bind fun t5 =>
     (ay n t5).bind fun t6 =>
     some t6
  else
   if (e.Kind==6)=true then
    (ay n false).bind fun t4 =>
    some t4
   else
    (aZ n e false).bind fun t4 =>
    (ay n t4).bind fun t5 =>
    some t5
 else
  if (e.Kind==6)=true then
   (ay n false).bind fun t3 =>
   some t3
  else
   (aZ n e false).bind fun t3 =>
   (ay n t3).bind fun t4 =>
   some t4
def kI (n:Nat) (hart:Int) (l:(List Event)) (xa2:Event) (xa8:Event) (sb:Int×Bool×Int×Int):Option ((Int×Bool×Int×Int)⊕((Int×Bool×Int)⊕Unit)) :=
 if (decide (sb.2.2.2<sb.2.2.1))=true then
  (aw l sb.2.2.2).bind fun xb2 =>
  if (xb2.Kind==3)=true then
   some (.inr (.inr ()))
  else
   if (xb2.Kind==4)=true then
    some (.inr (.inr ()))
   else
    some (.inl (sb.1,sb.2.1,sb.2.2.1,(ah .i64 sb.2.2.2 1)))
 else
  some (.inr (.inl (sb.1,sb.2.1,sb.2.2.1)))
def kJ (n:Nat) (hart:Int) (l:(List Event)) (sa:Int):Option (Int⊕(Unit⊕Unit)) :=
 if (decide (sa<(l.length:Int)))=true then
  (aw l sa).bind fun xa2 =>
  (eP n xa2).bind fun ya3 =>
  if (ya3 != 0)=true then
   some (.inr (.inr ()))
  else
   if (xa2.Hart != hart)=true then
    some (.inr (.inr ()))
   else
    if (xa2.At != sa)=true then
     some (.inr (.inr ()))
    else
     if (xa2.Kind != 4)=true then
      some (.inl (ah .i64 sa 1))
     else
      (aw l xa2.Pair).bind fun xa8 =>
      if (xa8.Kind != 3)=true then
       some (.inr (.inr ()))
      else
       if (xa8.Addr != xa2.Addr)=true then
        some (.inr (.inr ()))
       else
        (iter (fun s=>kI n hart l xa2 xa8 s) n (sa,(xa2.At != sa),sa,(ah .i64 xa2.Pair 1))).bind fun ta11 =>
        match ta11 with
        | .inl wa12 =>
         some (.inl (ah .i64 wa12.2.2 1))
        | .inr wa12 =>
         some (.inr (.inr ()))
 else
  some (.inr (.inl ()))
def lA (n:Nat) (hart:Int) (l:(List Event)):Option Int :=
 (iter (fun s=>kJ n hart l s) n 0).bind fun t1 =>
 match t1 with
 | .inl w2 =>
  some 0
 | .inr w2 =>
  some 4
def nL (n:Nat) (d:Deps):Option Deps :=
 grd (Nat.ble (d.Addr.length * 8) 140737488355328) <|
 grd (Nat.ble (d.Data.length * 8) 140737488355328) <|
 grd (Nat.ble (d.Way.length * 8) 140737488355328) <|
 some d
def lB (n:Nat) (c:af) (sb:(List Event)×Int×Int):Option (((List Event)×Int×Int)⊕((List Event)×Int)) :=
 (aw c.Harts sb.2.1).bind fun xb1 =>
 if (decide (sb.2.2<(xb1.length:Int)))=true then
  (aw xb1 sb.2.2).bind fun xb3 =>
  (nL n xb3.Deps).bind fun yb4 =>
  grd (Nat.ble ((sb.1.length + 1) * 152) 140737488355328) <|
  some (.inl ((sb.1++([(Event.mk xb3.Hart xb3.At xb3.Kind xb3.Addr xb3.Load xb3.Store xb3.Aq xb3.Rl xb3.Pred xb3.Succ xb3.Pair yb4)]:List Event)),sb.2.1,(ah .i64 sb.2.2 1)))
 else
  some (.inr (sb.1,sb.2.1))
def lC (n:Nat) (c:af) (sa:(List Event)×Int):Option (((List Event)×Int)⊕((List Event))) :=
 if (decide (sa.2<(c.Harts.length:Int)))=true then
  (iter (fun s=>lB n c s) n (sa.1,sa.2,0)).bind fun ta2 =>
  some (.inl (ta2.1,(ah .i64 ta2.2 1)))
 else
  some (.inr sa.1)
def jO (n:Nat) (c:af):Option (List Event) :=
 (iter (fun s=>lC n c s) n (([]:List Event),0)).bind fun t1 =>
 some t1
def kp (n:Nat) (l:(List Cell)) (addr:Int) (sa:Int):Option (Int⊕(Unit⊕Int)) :=
 if (decide (sa<(l.length:Int)))=true then
  (aw l sa).bind fun xa2 =>
  if (xa2.Addr==addr)=true then
   some (.inr (.inr xa2.Value))
  else
   some (.inl (ah .i64 sa 1))
 else
  some (.inr (.inl ()))
def kz (n:Nat) (l:(List Cell)) (addr:Int):Option Int :=
 (iter (fun s=>kp n l addr s) n 0).bind fun t1 =>
 match t1 with
 | .inl w2 =>
  some 0
 | .inr w2 =>
  some w2
def dl (n:Nat) (c:af) (all:(List Event)) (n_:Int):Option Bool :=
 (aw all n_).bind fun x1 =>
 (aw c.From n_).bind fun x2 =>
 (fP n x1).bind fun y3 =>
 if (!y3)=true then
  some (x2==(-1))
 else
  if (x2==(-1))=true then
   (kz n c.First x1.Addr).bind fun y6 =>
   some (x1.Load==y6)
  else
   if (decide (x2<0))=true then
    some false
   else
    if (decide (x2≥(all.length:Int)))=true then
     some false
    else
     if (x2==n_)=true then
      some false
     else
      (aw all x2).bind fun x9 =>
      (eg n x9).bind fun y10 =>
      if y10=true then
       if (x9.Addr==x1.Addr)=true then
        some (x9.Store==x1.Load)
       else
        some false
      else
       some false
def iC (n:Nat) (c:af) (sa:Int×Int):Option ((Int×Int)⊕(Int⊕Unit)) :=
 if (decide (sa.2<(c.Harts.length:Int)))=true then
  (aw c.Harts sa.2).bind fun xa2 =>
  if (decide ((ah .i64 sa.1 (xa2.length:Int))>4096))=true then
   some (.inr (.inr ()))
  else
   (lA n sa.2 xa2).bind fun ya4 =>
   if (ya4 != 0)=true then
    some (.inr (.inr ()))
   else
    some (.inl ((ah .i64 sa.1 (xa2.length:Int)),(ah .i64 sa.2 1)))
 else
  some (.inr (.inl sa.1))
def iD (n:Nat) (c:af) (w6:Int) (y7:(List Event)) (sa:Int×Int):Option ((Int×Int)⊕(Int⊕Unit)) :=
 if (decide (sa.2<w6))=true then
  (dl n c y7 sa.2).bind fun ya2 =>
  if (!ya2)=true then
   some (.inr (.inr ()))
  else
   (aw y7 sa.2).bind fun xa4 =>
   (fq n xa4).bind fun ya5 =>
   if ya5=true then
    some (.inl ((ah .i64 sa.1 1),(ah .i64 sa.2 1)))
   else
    some (.inl (sa.1,(ah .i64 sa.2 1)))
 else
  some (.inr (.inl sa.1))
def iE (n:Nat) (c:af) (w6:Int) (y7:(List Event)) (w10:Int) (sa:(List Bool)×Int):Option (((List Bool)×Int)⊕(Unit⊕Unit)) :=
 if (decide (sa.2<(c.Order.length:Int)))=true then
  (aw c.Order sa.2).bind fun xa2 =>
  if (decide (xa2<0))=true then
   some (.inr (.inr ()))
  else
   if (decide (xa2≥w6))=true then
    some (.inr (.inr ()))
   else
    (aw sa.1 xa2).bind fun xa5 =>
    if xa5=true then
     some (.inr (.inr ()))
    else
     (aw y7 xa2).bind fun xa7 =>
     (fq n xa7).bind fun ya8 =>
     if (!ya8)=true then
      some (.inr (.inr ()))
     else
      some (.inl ((sa.1.set (xa2).toNat true),(ah .i64 sa.2 1)))
 else
  some (.inr (.inl ()))
def fQ (n:Nat) (c:af):Option Int :=
 (jb n c.First).bind fun y1 =>
 if (!y1)=true then
  some 2
 else
  if (decide ((c.Harts.length:Int)<1))=true then
   some 2
  else
   if (decide ((c.Harts.length:Int)>8))=true then
    some 2
   else
    (iter (fun s=>iC n c s) n (0,0)).bind fun t5 =>
    match t5 with
    | .inl w6 =>
     (jO n c).bind fun y7 =>
     if ((c.From.length:Int) != w6)=true then
      some 2
     else
      (iter (fun s=>iD n c w6 y7 s) n (0,0)).bind fun t9 =>
      match t9 with
      | .inl w10 =>
       grd (decide ((0:Int)≤w6)&&decide (w6≤w6)&&decide (1 * w6≤140737488355328)&&decide (w6≤140737488355328)&&Nat.blt 0 1) <|
       (iter (fun s=>iE n c w6 y7 w10 s) n ((List.replicate (w6).toNat false),0)).bind fun t12 =>
       match t12 with
       | .inl w13 =>
        if ((c.Order.length:Int) != w10)=true then
         some 2
        else
         some 0
       | .inr w13 =>
        some 2
      | .inr w10 =>
       some 2
    | .inr w6 =>
     some 2
def q6 (n:Nat) (c:af):Option (List Event) :=
 (fQ n c).bind fun y1 =>
 if (y1 != 0)=true then
  some ([]:List Event)
 else
  (jO n c).bind fun y3 =>
  some y3
def jF (n:Nat) (c:af) (sa:(List Int)×Int):Option (((List Int)×Int)⊕((List Int))) :=
 if (decide (sa.2<(sa.1.length:Int)))=true then
  (aw sa.1 sa.2).bind fun xa2 =>
  some (.inl ((sa.1.set (sa.2).toNat (-1)),(ah .i64 sa.2 1)))
 else
  some (.inr sa.1)
def jG (n:Nat) (c:af) (sa:(List Int)×Int):Option (((List Int)×Int)⊕((List Int))) :=
 if (decide (sa.2<(c.Order.length:Int)))=true then
  (aw c.Order sa.2).bind fun xa2 =>
  (aw sa.1 xa2).bind fun xa3 =>
  some (.inl ((sa.1.set (xa2).toNat sa.2),(ah .i64 sa.2 1)))
 else
  some (.inr sa.1)
def kK (n:Nat) (c:af):Option (List Int) :=
 (fQ n c).bind fun y1 =>
 if (y1 != 0)=true then
  some ([]:List Int)
 else
  grd (decide ((0:Int)≤(c.From.length:Int))&&decide ((c.From.length:Int)≤(c.From.length:Int))&&decide (8 * (c.From.length:Int)≤140737488355328)&&decide ((c.From.length:Int)≤140737488355328)&&Nat.blt 0 1) <|
  (iter (fun s=>jF n c s) n ((List.replicate ((c.From.length:Int)).toNat 0),0)).bind fun t4 =>
  (iter (fun s=>jG n c s) n (t4,0)).bind fun t5 =>
  some t5
def fZ (n:Nat) (places:(List Int)) (n_:Int):Option Int :=
 if (decide (n_<0))=true then
  some (-1)
 else
  (aw places n_).bind fun x2 =>
  some x2
def dm (n:Nat) (c:af) (y7:(List Event)) (y8:(List Int)) (xa2:Event) (sb:Int×Int):Option ((Int×Int)⊕(Int⊕Unit)) :=
 if (decide (sb.2<(y7.length:Int)))=true then
  (aw y7 sb.2).bind fun xb2 =>
  if (xa2.Hart != xb2.Hart)=true then
   some (.inl (sb.1,(ah .i64 sb.2 1)))
  else
   if (xa2.Addr != xb2.Addr)=true then
    some (.inl (sb.1,(ah .i64 sb.2 1)))
   else
    (fq n xa2).bind fun yb5 =>
    if (!yb5)=true then
     some (.inl (sb.1,(ah .i64 sb.2 1)))
    else
     (fP n xb2).bind fun yb7 =>
     if (!yb7)=true then
      some (.inl (sb.1,(ah .i64 sb.2 1)))
     else
      (eg n xa2).bind fun yb9 =>
      if yb9=true then
       (aw c.From sb.2).bind fun xb11 =>
       (fZ n y8 xb11).bind fun yb12 =>
       (fZ n y8 sb.1).bind fun yb13 =>
       if (decide (yb12<yb13))=true then
        some (.inr (.inr ()))
       else
        (fP n xa2).bind fun yb15 =>
        if yb15=true then
         (fZ n y8 xb11).bind fun yb17 =>
         (aw c.From sb.1).bind fun xb18 =>
         (fZ n y8 xb18).bind fun yb19 =>
         if (decide (yb17<yb19))=true then
          some (.inr (.inr ()))
         else
          some (.inl (sb.1,(ah .i64 sb.2 1)))
        else
         some (.inl (sb.1,(ah .i64 sb.2 1)))
      else
       (fP n xa2).bind fun yb11 =>
       if yb11=true then
        (aw c.From sb.2).bind fun xb13 =>
        (fZ n y8 xb13).bind fun yb14 =>
        (aw c.From sb.1).bind fun xb15 =>
        (fZ n y8 xb15).bind fun yb16 =>
        if (decide (yb14<yb16))=true then
         some (.inr (.inr ()))
        else
         some (.inl (sb.1,(ah .i64 sb.2 1)))
       else
        some (.inl (sb.1,(ah .i64 sb.2 1)))
 else
  some (.inr (.inl sb.1))
def bF (n:Nat) (c:af) (y7:(List Event)) (y8:(List Int)) (xa2:Event) (sb:Int×Int):Option ((Int×Int)⊕(Int⊕Unit)) :=
 (aw y8 sb.2).bind fun xb1 =>
 if (decide (sb.1<xb1))=true then
  (aw c.Order sb.1).bind fun xb3 =>
  (aw y7 xb3).bind fun xb4 =>
  (eg n xb4).bind fun yb5 =>
  if yb5=true then
   if (xb4.Addr==xa2.Addr)=true then
    if (!(xa2.Kind==4))=true then
     some (.inr (.inr ()))
    else
     if (xb4.Hart != xa2.Hart)=true then
      some (.inr (.inr ()))
     else
      some (.inl ((ah .i64 sb.1 1),sb.2))
   else
    some (.inl ((ah .i64 sb.1 1),sb.2))
  else
   some (.inl ((ah .i64 sb.1 1),sb.2))
 else
  some (.inr (.inl sb.2))
def eG (n:Nat) (c:af) (y7:(List Event)) (y8:(List Int)) (sa:Int):Option (Int⊕(Unit⊕Unit)) :=
 if (decide (sa<(y7.length:Int)))=true then
  (aw y7 sa).bind fun xa2 =>
  (iter (fun s=>dm n c y7 y8 xa2 s) n (sa,(ah .i64 sa 1))).bind fun ta3 =>
  match ta3 with
  | .inl wa4 =>
   if (xa2.Kind != 5)=true then
    if (xa2.Kind != 4)=true then
     some (.inl (ah .i64 wa4 1))
    else
     (aw c.From wa4).bind fun xa7 =>
     if (xa2.Kind==4)=true then
      (aw c.From (cT .i64 wa4 (cT .i64 xa2.At xa2.Pair))).bind fun xa9 =>
      (fZ n y8 xa9).bind fun ya10 =>
      (iter (fun s=>bF n c y7 y8 xa2 s) n ((ah .i64 ya10 1),wa4)).bind fun ta11 =>
      match ta11 with
      | .inl wa12 =>
       some (.inl (ah .i64 wa12 1))
      | .inr wa12 =>
       some (.inr (.inr ()))
     else
      (fZ n y8 xa7).bind fun ya9 =>
      (iter (fun s=>bF n c y7 y8 xa2 s) n ((ah .i64 ya9 1),wa4)).bind fun ta10 =>
      match ta10 with
      | .inl wa11 =>
       some (.inl (ah .i64 wa11 1))
      | .inr wa11 =>
       some (.inr (.inr ()))
   else
    (aw c.From wa4).bind fun xa6 =>
    if (xa2.Kind==4)=true then
     (aw c.From (cT .i64 wa4 (cT .i64 xa2.At xa2.Pair))).bind fun xa8 =>
     (fZ n y8 xa8).bind fun ya9 =>
     (iter (fun s=>bF n c y7 y8 xa2 s) n ((ah .i64 ya9 1),wa4)).bind fun ta10 =>
     match ta10 with
     | .inl wa11 =>
      some (.inl (ah .i64 wa11 1))
     | .inr wa11 =>
      some (.inr (.inr ()))
    else
     (fZ n y8 xa6).bind fun ya8 =>
     (iter (fun s=>bF n c y7 y8 xa2 s) n ((ah .i64 ya8 1),wa4)).bind fun ta9 =>
     match ta9 with
     | .inl wa10 =>
      some (.inl (ah .i64 wa10 1))
     | .inr wa10 =>
      some (.inr (.inr ()))
  | .inr wa4 =>
   some (.inr (.inr ()))
 else
  some (.inr (.inl ()))
def eH (n:Nat) (c:af):Option Bool :=
 (ml n).bind fun y1 =>
 if (!y1)=true then
  some false
 else
  (gN n c 30).bind fun y3 =>
  if (!y3)=true then
   some true
  else
   (nK n c).bind fun y5 =>
   if (!y5)=true then
    some true
   else
    (q6 n c).bind fun y7 =>
    (kK n c).bind fun y8 =>
    (iter (fun s=>eG n c y7 y8 s) n 0).bind fun t9 =>
    match t9 with
    | .inl w10 =>
     some true
    | .inr w10 =>
     some false

end Go.Proofs.YtomahedcdcnnhaaGreatDoor
