/- What the functions compute, as functions on lists and numbers. Printed by a program from the code; nothing is claimed here. -/
import Derived.Test.YtomahedcdcnnhaaGreatDoorM0
namespace Go.Proofs.YtomahedcdcnnhaaGreatDoor
open Go A
set_option linter.unusedVariables false

structure eR (α:Type) where
  mk ::
  e0:α
  e1:α
structure Kc (α:Type) where
  mk ::
  e0:α
  e1:α
  e2:α
  e3:α
structure Mx (α:Type) where
  mk ::
  e0:α
  e1:α
  e2:α
  e3:α
  e4:α
  e5:α
  e6:α
  e7:α
  e8:α
  e9:α
  e10:α
  e11:α
  e12:α
structure Cell where
  mk ::
  Addr:Int
  Value:Int
structure Deps where
  mk ::
  Addr:(List Int)
  Data:(List Int)
  Way:(List Int)
structure Event where
  mk ::
  Hart:Int
  At:Int
  Kind:Int
  Addr:Int
  Load:Int
  Store:Int
  Aq:Bool
  Rl:Bool
  Pred:Int
  Succ:Int
  Pair:Int
  Deps:Deps
structure ae where
  mk ::
  First:(List Cell)
  Harts:(List (List Event))
  From:(List Int)
  Order:(List Int)
structure bc where
  mk ::
  OK:Bool
  Why:Int
  A_:Int
  B:Int
structure aS where
  mk ::
  hart:Int
  at_:Int
  kind:Int
  pred:Int
  succ:Int
  pair:Int
  addr:Int
  load:Int
  store:Int
  aq:Bool
  rl:Bool
structure ah where
  mk ::
  c:(Option ae)
  all:(List Event)
  fences:(Kc (List Int))
  hung:(List Int)
def bc.beq (x y:bc):Bool:=((x.OK==y.OK)&&((x.Why==y.Why)&&((x.A_==y.A_)&&(x.B==y.B))))
theorem bc.beq_eq {x y:bc} (h:bc.beq x y=true):x=y:=by
  obtain ⟨a1,a2,a3,a4⟩:=x
  obtain ⟨b5,b6,b7,b8⟩:=y
  unfold bc.beq at h
  simp only [Bool.and_eq_true,beq_iff_eq] at h
  simp_all
theorem bc.beq_refl (x:bc):bc.beq x x=true:=by
  unfold bc.beq
  simp
def aS.beq (x y:aS):Bool:=((x.hart==y.hart)&&((x.at_==y.at_)&&((x.kind==y.kind)&&((x.pred==y.pred)&&((x.succ==y.succ)&&((x.pair==y.pair)&&((x.addr==y.addr)&&((x.load==y.load)&&((x.store==y.store)&&((x.aq==y.aq)&&(x.rl==y.rl)))))))))))
theorem aS.beq_eq {x y:aS} (h:aS.beq x y=true):x=y:=by
  obtain ⟨a9,a10,a11,a12,a13,a14,a15,a16,a17,a18,a19⟩:=x
  obtain ⟨b20,b21,b22,b23,b24,b25,b26,b27,b28,b29,b30⟩:=y
  unfold aS.beq at h
  simp only [Bool.and_eq_true,beq_iff_eq] at h
  simp_all
theorem aS.beq_refl (x:aS):aS.beq x x=true:=by
  unfold aS.beq
  simp
def Cell.wf (x:Cell):Prop:=(yc .u64 x.Addr)∧(yc .u64 x.Value)
def Deps.wf (x:Deps):Prop:=(x.Addr.length≤maxLen∧∀ z∈x.Addr,yc .i64 z)∧(x.Data.length≤maxLen∧∀ z∈x.Data,yc .i64 z)∧(x.Way.length≤maxLen∧∀ z∈x.Way,yc .i64 z)
def Event.wf (x:Event):Prop:=(yc .i64 x.Hart)∧(yc .i64 x.At)∧(yc .i64 x.Kind)∧(yc .u64 x.Addr)∧(yc .u64 x.Load)∧(yc .u64 x.Store)∧(True)∧(True)∧(yc .i64 x.Pred)∧(yc .i64 x.Succ)∧(yc .i64 x.Pair)∧(Deps.wf x.Deps)
def ae.wf (x:ae):Prop:=(x.First.length≤maxLen∧∀ z∈x.First,Cell.wf z)∧(x.Harts.length≤maxLen∧∀ z∈x.Harts,z.length≤maxLen∧∀ zz∈z,Event.wf zz)∧(x.From.length≤maxLen∧∀ z∈x.From,yc .i64 z)∧(x.Order.length≤maxLen∧∀ z∈x.Order,yc .i64 z)
def lB (n:Nat) (fences:Bool):Option ae :=
 if (!fences)=true then
  some (ae.mk ([]:List Cell) ([([(Event.mk 0 0 2 8 0 1 false false 0 0 0 (Deps.mk ([]:List Int) ([]:List Int) ([]:List Int))),(Event.mk 0 1 2 16 0 1 false false 0 0 0 (Deps.mk ([]:List Int) ([]:List Int) ([]:List Int)))]:List Event),([(Event.mk 1 0 1 16 1 0 false false 0 0 0 (Deps.mk ([]:List Int) ([]:List Int) ([]:List Int))),(Event.mk 1 1 1 8 0 0 false false 0 0 0 (Deps.mk ([]:List Int) ([]:List Int) ([]:List Int)))]:List Event)]:List (List Event)) ([(-1),(-1),1,(-1)]:List Int) ([1,2,3,0]:List Int))
 else
  some (ae.mk ([]:List Cell) ([([(Event.mk 0 0 2 8 0 1 false false 0 0 0 (Deps.mk ([]:List Int) ([]:List Int) ([]:List Int))),(Event.mk 0 1 6 0 0 0 false false 1 1 0 (Deps.mk ([]:List Int) ([]:List Int) ([]:List Int))),(Event.mk 0 2 2 16 0 1 false false 0 0 0 (Deps.mk ([]:List Int) ([]:List Int) ([]:List Int)))]:List Event),([(Event.mk 1 0 1 16 1 0 false false 0 0 0 (Deps.mk ([]:List Int) ([]:List Int) ([]:List Int))),(Event.mk 1 1 6 0 0 0 false false 2 2 0 (Deps.mk ([]:List Int) ([]:List Int) ([]:List Int))),(Event.mk 1 2 1 8 0 0 false false 0 0 0 (Deps.mk ([]:List Int) ([]:List Int) ([]:List Int)))]:List Event)]:List (List Event)) ([(-1),(-1),(-1),2,(-1),(-1)]:List Int) ([2,3,5,0]:List Int))
def l5 (n:Nat) (l:(List Cell)) (sa:Int):Option (Int⊕(Unit⊕Unit)) :=
 if (decide (sa<(l.length:Int)))=true then
  (av l sa).bind fun xa2 =>
  if ((kI .u64 xa2.Addr 8) != 0)=true then
   some (.inr (.inr ()))
  else
   if (decide (sa>0))=true then
    (av l (cj .i64 sa 1)).bind fun xa5 =>
    if (decide (xa5.Addr≥xa2.Addr))=true then
     some (.inr (.inr ()))
    else
     some (.inl (af .i64 sa 1))
   else
    some (.inl (af .i64 sa 1))
 else
  some (.inr (.inl ()))
def kJ (n:Nat) (l:(List Cell)):Option Bool :=
 (iter (fun s=>l5 n l s) n 0).bind fun t1 =>
 match t1 with
 | .inl w2 =>
  some true
 | .inr w2 =>
  some false
def jd (n:Nat) (kind:Int):Option Int :=
 if (decide (kind<1))=true then
  some 0
 else
  if (decide (kind>6))=true then
   some 0
  else
   if (kind==0)=true then
    some 0
   else
    if (kind==1)=true then
     some 1
    else
     if (kind==2)=true then
      some 2
     else
      if (kind==3)=true then
       some 5
      else
       if (kind==4)=true then
        some 14
       else
        if (kind==5)=true then
         some 7
        else
         if (kind==6)=true then
          some 16
         else
          none
def bk (n:Nat) (s1_:(List Int)) (s2_:(List Int)) (sa:Int):Option (Int⊕(Unit⊕Unit)) :=
 if (decide (sa<(s1_.length:Int)))=true then
  (av s1_ sa).bind fun xa2 =>
  (av s2_ sa).bind fun xa3 =>
  if (xa2 != xa3)=true then
   some (.inr (.inr ()))
  else
   some (.inl (af .i64 sa 1))
 else
  some (.inr (.inl ()))
def bO (n:Nat) (s1_:(List Int)) (s2_:(List Int)):Option Bool :=
 if ((s1_.length:Int) != (s2_.length:Int))=true then
  some false
 else
  (iter (fun s=>bk n s1_ s2_ s) n 0).bind fun t2 =>
  match t2 with
  | .inl w3 =>
   some true
  | .inr w3 =>
   some false
def iw (n:Nat) (e:Event):Option aS :=
 some (aS.mk e.Hart e.At e.Kind e.Pred e.Succ e.Pair e.Addr e.Load e.Store e.Aq e.Rl)
def kK (n:Nat) (a:Event) (b:Event):Option Bool :=
 (bO n a.Deps.Addr b.Deps.Addr).bind fun y1 =>
 if (!y1)=true then
  some false
 else
  (bO n a.Deps.Data b.Deps.Data).bind fun y3 =>
  if (!y3)=true then
   some false
  else
   (bO n a.Deps.Way b.Deps.Way).bind fun y5 =>
   if (!y5)=true then
    some false
   else
    (iw n a).bind fun y7 =>
    (iw n b).bind fun y8 =>
    if (aS.beq y7 y8)=true then
     some true
    else
     some false
def cI (n:Nat) (l:(List Int)) (sa:Int×Int):Option ((Int×Int)⊕(Unit⊕Unit)) :=
 if (decide (sa.2<(l.length:Int)))=true then
  (av l sa.2).bind fun xa2 =>
  if (decide (xa2≤sa.1))=true then
   some (.inr (.inr ()))
  else
   some (.inl (xa2,(af .i64 sa.2 1)))
 else
  some (.inr (.inl ()))
def iy (n:Nat) (l:(List Int)):Option Bool :=
 (iter (fun s=>cI n l s) n ((-1),0)).bind fun t1 =>
 match t1 with
 | .inl w2 =>
  some true
 | .inr w2 =>
  some false
def dL (n:Nat) (l:(List Int)) (at_:Int):Option Bool :=
 (iy n l).bind fun y1 =>
 if y1=true then
  if ((l.length:Int)==0)=true then
   some true
  else
   (av l (cj .i64 (l.length:Int) 1)).bind fun x4 =>
   some (decide (x4<at_))
 else
  some false
def dh (n:Nat) (e:Event) (y1:Int) (sf:Int×(List Int)×(List Int)×(List Int)×Int×Int×Int×Bool×Bool×Int×Int):Option Int :=
 if (y1==0)=true then
  some 2
 else
  if (decide (e.Hart<0))=true then
   some 2
  else
   if (decide (e.Hart≥8))=true then
    some 2
   else
    if (decide (e.At<0))=true then
     some 2
    else
     (kK n (Event.mk e.Hart e.At e.Kind sf.2.2.2.2.1 sf.2.2.2.2.2.1 sf.2.2.2.2.2.2.1 sf.2.2.2.2.2.2.2.1 sf.2.2.2.2.2.2.2.2.1 sf.2.2.2.2.2.2.2.2.2.1 sf.2.2.2.2.2.2.2.2.2.2 sf.1 (Deps.mk sf.2.1 sf.2.2.1 sf.2.2.2.1)) e).bind fun yf5 =>
     if (!yf5)=true then
      some 2
     else
      if ((kI .u64 e.Addr 8) != 0)=true then
       some 2
      else
       if (decide (e.Pred<0))=true then
        some 2
       else
        if (decide (e.Pred>15))=true then
         some 2
        else
         if (decide (e.Succ<0))=true then
          some 2
         else
          if (decide (e.Succ>15))=true then
           some 2
          else
           if ((cL .u64 y1 8) != 0)=true then
            if (decide (e.Pair<0))=true then
             some 2
            else
             if (decide (e.Pair≥e.At))=true then
              some 2
             else
              (dL n e.Deps.Addr e.At).bind fun yf15 =>
              if (!yf15)=true then
               some 2
              else
               (dL n e.Deps.Data e.At).bind fun yf17 =>
               if (!yf17)=true then
                some 2
               else
                (dL n e.Deps.Way e.At).bind fun yf19 =>
                if (!yf19)=true then
                 some 2
                else
                 some 0
           else
            (dL n e.Deps.Addr e.At).bind fun yf13 =>
            if (!yf13)=true then
             some 2
            else
             (dL n e.Deps.Data e.At).bind fun yf15 =>
             if (!yf15)=true then
              some 2
             else
              (dL n e.Deps.Way e.At).bind fun yf17 =>
              if (!yf17)=true then
               some 2
              else
               some 0
def dV (n:Nat) (e:Event) (y1:Int) (se:(List Int)×(List Int)×(List Int)×Int×Int×Int×Bool×Bool×Int×Int):Option Int :=
 if ((cL .u64 y1 8) != 0)=true then
  (dh n e y1 (e.Pair,se.1,se.2.1,se.2.2.1,se.2.2.2.1,se.2.2.2.2.1,se.2.2.2.2.2.1,se.2.2.2.2.2.2.1,se.2.2.2.2.2.2.2.1,se.2.2.2.2.2.2.2.2.1,se.2.2.2.2.2.2.2.2.2)).bind fun te2 =>
  some te2
 else
  (dh n e y1 (0,se.1,se.2.1,se.2.2.1,se.2.2.2.1,se.2.2.2.2.1,se.2.2.2.2.2.1,se.2.2.2.2.2.2.1,se.2.2.2.2.2.2.2.1,se.2.2.2.2.2.2.2.2.1,se.2.2.2.2.2.2.2.2.2)).bind fun te2 =>
  some te2
def dW (n:Nat) (e:Event) (y1:Int) (sd:(List Int)×(List Int)×(List Int)×Int×Int×Int×Int×Int):Option Int :=
 if ((cL .u64 y1 4) != 0)=true then
  (dV n e y1 (sd.1,sd.2.1,sd.2.2.1,sd.2.2.2.1,sd.2.2.2.2.1,sd.2.2.2.2.2.1,e.Aq,e.Rl,sd.2.2.2.2.2.2.1,sd.2.2.2.2.2.2.2)).bind fun td2 =>
  some td2
 else
  (dV n e y1 (sd.1,sd.2.1,sd.2.2.1,sd.2.2.2.1,sd.2.2.2.2.1,sd.2.2.2.2.2.1,false,false,sd.2.2.2.2.2.2.1,sd.2.2.2.2.2.2.2)).bind fun td2 =>
  some td2
def dX (n:Nat) (e:Event) (y1:Int) (sb:(List Int)×(List Int)×Int×Int×Int×Int):Option Int :=
 if ((cL .u64 y1 2) != 0)=true then
  (dW n e y1 (sb.1,e.Deps.Data,sb.2.1,sb.2.2.1,sb.2.2.2.1,e.Store,sb.2.2.2.2.1,sb.2.2.2.2.2)).bind fun tb2 =>
  some tb2
 else
  (dW n e y1 (sb.1,([]:List Int),sb.2.1,sb.2.2.1,sb.2.2.2.1,0,sb.2.2.2.2.1,sb.2.2.2.2.2)).bind fun tb2 =>
  some tb2
def dY (n:Nat) (e:Event) (y1:Int) (sa:(List Int)×(List Int)×Int×Int×Int):Option Int :=
 if ((cL .u64 y1 1) != 0)=true then
  (dX n e y1 (sa.1,sa.2.1,sa.2.2.1,e.Load,sa.2.2.2.1,sa.2.2.2.2)).bind fun ta2 =>
  some ta2
 else
  (dX n e y1 (sa.1,sa.2.1,sa.2.2.1,0,sa.2.2.2.1,sa.2.2.2.2)).bind fun ta2 =>
  some ta2
def g9 (n:Nat) (e:Event):Option Int :=
 (jd n e.Kind).bind fun y1 =>
 if ((cL .u64 y1 16) != 0)=true then
  (dY n e y1 (([]:List Int),([]:List Int),0,e.Pred,e.Succ)).bind fun t3 =>
  some t3
 else
  (dY n e y1 (e.Deps.Addr,e.Deps.Way,e.Addr,0,0)).bind fun t3 =>
  some t3
def iz (n:Nat) (hart:Int) (l:(List Event)) (sa:Int×Int):Option ((Int×Int)⊕(Unit⊕Unit)) :=
 if (decide (sa.1<(l.length:Int)))=true then
  (av l sa.1).bind fun xa2 =>
  (g9 n xa2).bind fun ya3 =>
  if (ya3 != 0)=true then
   some (.inr (.inr ()))
  else
   if (xa2.Hart != hart)=true then
    some (.inr (.inr ()))
   else
    if (xa2.At != sa.1)=true then
     some (.inr (.inr ()))
    else
     if (xa2.Kind==3)=true then
      some (.inl ((af .i64 sa.1 1),sa.1))
     else
      if (xa2.Kind==4)=true then
       if (xa2.Pair != sa.2)=true then
        some (.inr (.inr ()))
       else
        (av l sa.2).bind fun xa10 =>
        if (xa10.Addr != xa2.Addr)=true then
         some (.inr (.inr ()))
        else
         some (.inl ((af .i64 sa.1 1),(-1)))
      else
       some (.inl ((af .i64 sa.1 1),sa.2))
 else
  some (.inr (.inl ()))
def g_ (n:Nat) (hart:Int) (l:(List Event)):Option Int :=
 (iter (fun s=>iz n hart l s) n (0,(-1))).bind fun t1 =>
 match t1 with
 | .inl w2 =>
  some 0
 | .inr w2 =>
  some 4
def bF (n:Nat) (n_:Int):Option ((Nat×Nat×Nat×(List Event))⊕Unit) :=
 if (decide (n_<0))=true then
  none
 else
  if (decide ((cj .i64 n_ 0)>0))=true then
   grd (Nat.blt 0 14&&Nat.blt 0 152&&decide (0<(cj .i64 n_ 0))&&decide ((cj .i64 n_ 0) * 152≤140737488355328)&&decide ((cj .i64 n_ 0)≤140737488355328)) <|
   grd (decide ((0:Int)≤0)&&decide (0≤(((cj .i64 n_ 0)).toNat:Int))) <|
   some (.inl (0,0,((cj .i64 n_ 0)).toNat,(List.replicate ((cj .i64 n_ 0)).toNat (Event.mk 0 0 0 0 0 0 false false 0 0 0 (Deps.mk ([]:List Int) ([]:List Int) ([]:List Int))))))
  else
   some (.inr ())
def bw (n:Nat) (slices:(List (List Event))) (sa:Int×Int):Option ((Int×Int)⊕Int) :=
 if (decide (sa.1<(slices.length:Int)))=true then
  (av slices sa.1).bind fun xa2 =>
  if (decide ((af .i64 sa.2 (xa2.length:Int))<0))=true then
   none
  else
   some (.inl ((af .i64 sa.1 1),(af .i64 sa.2 (xa2.length:Int))))
 else
  some (.inr sa.2)
def bz (n:Nat) (slices:(List (List Event))) (wa3:Nat×Nat×Nat×(List Event)) (sa:Nat×Nat×(List Event)×Int):Option ((Nat×Nat×(List Event)×Int)⊕(Nat×Nat×(List Event))) :=
 if (decide (sa.2.2.2<(slices.length:Int)))=true then
  (av slices sa.2.2.2).bind fun xa2 =>
  grd (Nat.ble xa2.length sa.2.1) <|
  grd (Nat.ble (wa3.1 + sa.1 + sa.2.1) sa.2.2.1.length) <|
  some (.inl ((sa.1 + xa2.length),(sa.2.1 - xa2.length),(sa.2.2.1.take (wa3.1 + sa.1)++(xa2++sa.2.2.1.drop (wa3.1 + sa.1 + xa2.length))),(af .i64 sa.2.2.2 1)))
 else
  some (.inr (sa.1,sa.2.1,sa.2.2.1))
def bd (n:Nat) (slices:(List (List Event))) (sa:(List Event)×Int):Option (((List Event)×Int)⊕((List Event))) :=
 if (decide (sa.2<(slices.length:Int)))=true then
  (av slices sa.2).bind fun xa2 =>
  grd (Nat.ble ((sa.1.length + xa2.length) * 152) 140737488355328) <|
  some (.inl ((sa.1++xa2),(af .i64 sa.2 1)))
 else
  some (.inr sa.1)
def aW (n:Nat) (slices:(List (List Event))):Option (List Event) :=
 (iter (fun s=>bw n slices s) n (0,0)).bind fun t1 =>
 (bF n t1).bind fun y2 =>
 match y2 with
 | .inl wa3 =>
  (iter (fun s=>bz n slices wa3 s) n (wa3.2.1,wa3.2.2.1,wa3.2.2.2,0)).bind fun t4 =>
  some ((t4.2.2.drop wa3.1).take t4.1)
 | .inr wb3 =>
  (iter (fun s=>bd n slices s) n (([]:List Event),0)).bind fun t4 =>
  some t4
def hG (n:Nat) (oA:(List Cell)) (oB:(List (List Event))) (oC:(List Int)) (oD:(List Int)):Option (List Event) :=
 (aW n oB).bind fun y1 =>
 some y1
def bI (n:Nat) (e:Event):Option Bool :=
 (jd n e.Kind).bind fun y1 =>
 some ((cL .u64 y1 1) != 0)
def eU (n:Nat) (x:Int):Option Bool :=
 some (x != x)
def dZ (n:Nat) (x:Int) (y:Int):Option Int :=
 (eU n x).bind fun y1 =>
 (eU n y).bind fun y2 =>
 if y1=true then
  if y2=true then
   some 0
  else
   some (-1)
 else
  if y2=true then
   some 1
  else
   if (decide (x<y))=true then
    some (-1)
   else
    if (decide (x>y))=true then
     some 1
    else
     some 0
def gf (n:Nat) (x:Cell) (a:Int):Option Int :=
 (dZ n x.Addr a).bind fun y1 =>
 some y1
def aF (n:Nat) (x:(List Cell)) (target:Int) (sa:Int×Int):Option ((Int×Int)⊕Int) :=
 if (decide (sa.2<sa.1))=true then
  (av x (IntKind.wrap .i64 (jP .u64 (IntKind.wrap .u64 (af .i64 sa.2 sa.1)) 1))).bind fun xa2 =>
  (gf n xa2 target).bind fun ya3 =>
  if (decide (ya3<0))=true then
   some (.inl (sa.1,(af .i64 (IntKind.wrap .i64 (jP .u64 (IntKind.wrap .u64 (af .i64 sa.2 sa.1)) 1)) 1)))
  else
   some (.inl ((IntKind.wrap .i64 (jP .u64 (IntKind.wrap .u64 (af .i64 sa.2 sa.1)) 1)),sa.2))
 else
  some (.inr sa.2)
def a8 (n:Nat) (x:(List Cell)) (target:Int):Option (Int×Bool) :=
 (iter (fun s=>aF n x target s) n ((x.length:Int),0)).bind fun t1 =>
 if (decide (t1<(x.length:Int)))=true then
  (av x t1).bind fun x3 =>
  (gf n x3 target).bind fun y4 =>
  some (t1,(y4==0))
 else
  some (t1,false)
def je (n:Nat) (l:(List Cell)) (addr:Int):Option Int :=
 (a8 n l addr).bind fun y1 =>
 if (!y1.2)=true then
  some 0
 else
  (av l y1.1).bind fun x3 =>
  some x3.Value
def ce (n:Nat) (e:Event):Option Bool :=
 (jd n e.Kind).bind fun y1 =>
 some ((cL .u64 y1 2) != 0)
def hJ (n:Nat) (c:ae) (all:(List Event)) (n_:Int):Option Bool :=
 (av all n_).bind fun x1 =>
 (av c.From n_).bind fun x2 =>
 (bI n x1).bind fun y3 =>
 if (!y3)=true then
  some (x2==(-1))
 else
  if (x2==(-1))=true then
   (je n c.First x1.Addr).bind fun y6 =>
   some (x1.Load==y6)
  else
   if (decide (x2<0))=true then
    some false
   else
    if (decide (x2≥(all.length:Int)))=true then
     some false
    else
     if (x2==n_)=true then
      some false
     else
      (av all x2).bind fun x9 =>
      (ce n x9).bind fun y10 =>
      if y10=true then
       if (x9.Addr==x1.Addr)=true then
        some (x9.Store==x1.Load)
       else
        some false
      else
       some false
def fe (n:Nat) (e:Event):Option Bool :=
 (bI n e).bind fun y1 =>
 if y1=true then
  some true
 else
  (ce n e).bind fun y3 =>
  some y3
def fw (n:Nat) (c:ae) (all:(List Event)) (sa:(List Bool)×Int×Int):Option (((List Bool)×Int×Int)⊕((List Bool)×Int)) :=
 if (decide (sa.2.1<(all.length:Int)))=true then
  (av all sa.2.1).bind fun xa2 =>
  (fe n xa2).bind fun ya3 =>
  if ya3=true then
   (av sa.1 sa.2.1).bind fun xa5 =>
   some (.inl ((sa.1.set (sa.2.1).toNat true),(af .i64 sa.2.1 1),(af .i64 sa.2.2 1)))
  else
   some (.inl (sa.1,(af .i64 sa.2.1 1),sa.2.2))
 else
  some (.inr (sa.1,sa.2.2))
def fx (n:Nat) (c:ae) (sa:(List Bool)×Int×Int):Option (((List Bool)×Int×Int)⊕(Int⊕Unit)) :=
 if (decide (sa.2.1<(c.Order.length:Int)))=true then
  (av c.Order sa.2.1).bind fun xa2 =>
  if (decide (xa2<0))=true then
   some (.inr (.inr ()))
  else
   if (decide (xa2≥(sa.1.length:Int)))=true then
    some (.inr (.inr ()))
   else
    (av sa.1 xa2).bind fun xa5 =>
    if (!xa5)=true then
     some (.inr (.inr ()))
    else
     some (.inl ((sa.1.set (xa2).toNat false),(af .i64 sa.2.1 1),(cj .i64 sa.2.2 1)))
 else
  some (.inr (.inl sa.2.2))
def dD (n:Nat) (c:ae) (all:(List Event)):Option Bool :=
 grd (decide ((0:Int)≤(all.length:Int))&&decide ((all.length:Int)≤(all.length:Int))&&decide (1 * (all.length:Int)≤140737488355328)&&decide ((all.length:Int)≤140737488355328)&&Nat.blt 0 1) <|
 (iter (fun s=>fw n c all s) n ((List.replicate ((all.length:Int)).toNat false),0,0)).bind fun t2 =>
 (iter (fun s=>fx n c s) n (t2.1,0,t2.2)).bind fun t3 =>
 match t3 with
 | .inl w4 =>
  some (w4==0)
 | .inr w4 =>
  some false
def fE (n:Nat) (c:ae) (sa:Int×Int):Option ((Int×Int)⊕(Int⊕Unit)) :=
 if (decide (sa.1<(c.Harts.length:Int)))=true then
  (av c.Harts sa.1).bind fun xa2 =>
  if (decide ((af .i64 sa.2 (xa2.length:Int))>4096))=true then
   some (.inr (.inr ()))
  else
   (g_ n sa.1 xa2).bind fun ya4 =>
   if (ya4 != 0)=true then
    some (.inr (.inr ()))
   else
    some (.inl ((af .i64 sa.1 1),(af .i64 sa.2 (xa2.length:Int))))
 else
  some (.inr (.inl sa.2))
def gK (n:Nat) (c:ae) (y7:(List Event)) (sa:Int):Option (Int⊕(Unit⊕Unit)) :=
 if (decide (sa<(y7.length:Int)))=true then
  (hJ n c y7 sa).bind fun ya2 =>
  if (!ya2)=true then
   some (.inr (.inr ()))
  else
   some (.inl (af .i64 sa 1))
 else
  some (.inr (.inl ()))
def bY (n:Nat) (c:ae):Option Int :=
 (kJ n c.First).bind fun y1 =>
 if (!y1)=true then
  some 2
 else
  if (decide ((c.Harts.length:Int)<1))=true then
   some 2
  else
   if (decide ((c.Harts.length:Int)>8))=true then
    some 2
   else
    (iter (fun s=>fE n c s) n (0,0)).bind fun t5 =>
    match t5 with
    | .inl w6 =>
     (hG n c.First c.Harts c.From c.Order).bind fun y7 =>
     if ((c.From.length:Int) != w6)=true then
      some 2
     else
      (iter (fun s=>gK n c y7 s) n 0).bind fun t9 =>
      match t9 with
      | .inl w10 =>
       (dD n c y7).bind fun y11 =>
       if (!y11)=true then
        some 2
       else
        some 0
      | .inr w10 =>
       some 2
    | .inr w6 =>
     some 2
def bP (n:Nat) (l:List Int):Option (List Int):=grd (Nat.ble (l.length * 8) 140737488355328) (some l)
def nS (n:Nat) (e:Event):Option Event :=
 (bP n e.Deps.Addr).bind fun y1 =>
 (bP n e.Deps.Data).bind fun y2 =>
 (bP n e.Deps.Way).bind fun y3 =>
 some (Event.mk e.Hart e.At e.Kind e.Addr e.Load e.Store e.Aq e.Rl e.Pred e.Succ e.Pair (Deps.mk y1 y2 y3))
def lC (n:Nat) (y3:(List Event)) (sa:(List Event)×Int):Option (((List Event)×Int)⊕((List Event))) :=
 if (decide (sa.2<(y3.length:Int)))=true then
  (av y3 sa.2).bind fun xa2 =>
  (nS n xa2).bind fun ya3 =>
  grd (Nat.ble ((sa.1.length + 1) * 152) 140737488355328) <|
  some (.inl ((sa.1++([ya3]:List Event)),(af .i64 sa.2 1)))
 else
  some (.inr sa.1)
def mt (n:Nat) (c:ae):Option (List Event) :=
 (bY n c).bind fun y1 =>
 if (y1 != 0)=true then
  some ([]:List Event)
 else
  (hG n c.First c.Harts c.From c.Order).bind fun y3 =>
  (iter (fun s=>lC n y3 s) n (([]:List Event),0)).bind fun t4 =>
  some t4
def j7 (n:Nat) (x:Int) (y:Int):Option (Int×Int) :=
 some ((af .u64 (af .u64 (mr .u64 (jP .u64 x 32) (jP .u64 y 32)) (jP .u64 (af .u64 (mr .u64 (jP .u64 x 32) (cL .u64 y 4294967295)) (jP .u64 (mr .u64 (cL .u64 x 4294967295) (cL .u64 y 4294967295)) 32)) 32)) (jP .u64 (af .u64 (cL .u64 (af .u64 (mr .u64 (jP .u64 x 32) (cL .u64 y 4294967295)) (jP .u64 (mr .u64 (cL .u64 x 4294967295) (cL .u64 y 4294967295)) 32)) 4294967295) (mr .u64 (cL .u64 x 4294967295) (jP .u64 y 32))) 32)),(mr .u64 x y))
def fF (n:Nat) (x:Int) (y:Int):Option (Int×Int) :=
 (j7 n x y).bind fun y1 =>
 some (y1.1,y1.2)
def cD (n:Nat) (sa:(List Int)×Int):Option (((List Int)×Int)⊕((List Int))) :=
 if (decide (sa.2<(sa.1.length:Int)))=true then
  grd (decide ((0:Int)≤sa.2)&&decide (sa.2≤(sa.1.length:Int))) <|
  grd (decide ((0:Int)≤sa.2)&&decide (sa.2≤(sa.1.length:Int))) <|
  grd (Nat.ble ((sa.2).toNat + (sa.1.length - (sa.2).toNat)) sa.1.length) <|
  some (.inl ((sa.1.take ((sa.2).toNat)++(((sa.1.drop 0).take ((sa.2).toNat)).take (sa.1.length - (sa.2).toNat)++sa.1.drop ((sa.2).toNat + min ((sa.1.drop 0).take ((sa.2).toNat)).length (sa.1.length - (sa.2).toNat)))),(af .i64 sa.2 ((min ((sa.1.drop 0).take ((sa.2).toNat)).length (sa.1.length - (sa.2).toNat):Nat):Int))))
 else
  some (.inr sa.1)
def bM (n:Nat) (x:(List Int)) (count:Int):Option (List Int) :=
 if (decide (count<0))=true then
  none
 else
  (fF n (IntKind.wrap .u64 (x.length:Int)) (IntKind.wrap .u64 count)).bind fun y2 =>
  if (decide (y2.1>0))=true then
   none
  else
   if (decide (y2.2>9223372036854775807))=true then
    none
   else
    grd (decide ((0:Int)≤(IntKind.wrap .i64 y2.2))&&decide ((IntKind.wrap .i64 y2.2)≤(IntKind.wrap .i64 y2.2))&&decide (8 * (IntKind.wrap .i64 y2.2)≤140737488355328)&&decide ((IntKind.wrap .i64 y2.2)≤140737488355328)&&Nat.blt 0 1) <|
    (iter (fun s=>cD n s) n ((x.take (List.replicate ((IntKind.wrap .i64 y2.2)).toNat 0).length++(List.replicate ((IntKind.wrap .i64 y2.2)).toNat 0).drop x.length),((min x.length (List.replicate ((IntKind.wrap .i64 y2.2)).toNat 0).length:Nat):Int))).bind fun t6 =>
    some t6
def iA (n:Nat) (c:ae) (sa:(List Int)×Int):Option (((List Int)×Int)⊕((List Int))) :=
 if (decide (sa.2<(c.Order.length:Int)))=true then
  (av c.Order sa.2).bind fun xa2 =>
  (av sa.1 xa2).bind fun xa3 =>
  some (.inl ((sa.1.set (xa2).toNat sa.2),(af .i64 sa.2 1)))
 else
  some (.inr sa.1)
def jR (n:Nat) (c:ae):Option (List Int) :=
 (bY n c).bind fun y1 =>
 if (y1 != 0)=true then
  some ([]:List Int)
 else
  (bM n ([(-1)]:List Int) (c.From.length:Int)).bind fun y3 =>
  (iter (fun s=>iA n c s) n (y3,0)).bind fun t4 =>
  some t4
def jH (n:Nat) (oA:(List Cell)) (oB:(List (List Event))) (oC:(List Int)) (oD:(List Int)) (y3:(List Event)) (y4:(List Int)) (sa:(List Int×(List (Option (List Int))))×Int):Option (((List Int×(List (Option (List Int))))×Int)⊕((List Int×(List (Option (List Int)))))) :=
 if (decide (sa.2<(oD.length:Int)))=true then
  (av oD sa.2).bind fun xa2 =>
  (av y3 xa2).bind fun xa3 =>
  (ce n xa3).bind fun ya4 =>
  if ya4=true then
   iu (dK fc sa.1.1 xa3.Addr) (
    some (.inl (((sa.1.1++[xa3.Addr]),(sa.1.2++[some ([xa2]:List Int)])),(af .i64 sa.2 1)))) fun za6 =>
    (sa.1.2[za6]?).bind fun xa8 =>
    iu xa8 (
     some (.inl ((sa.1.1,(sa.1.2.set za6 (some ([xa2]:List Int)))),(af .i64 sa.2 1)))) fun za9 =>
     grd (Nat.ble ((za9.length + 1) * 8) 140737488355328) <|
     some (.inl ((sa.1.1,(sa.1.2.set za6 (some (za9++([xa2]:List Int))))),(af .i64 sa.2 1)))
  else
   some (.inl ((sa.1.1,sa.1.2),(af .i64 sa.2 1)))
 else
  some (.inr (sa.1.1,sa.1.2))
def fS (n:Nat) (oA:(List Cell)) (oB:(List (List Event))) (oC:(List Int)) (oD:(List Int)):Option (Unit⊕((List (Int×(List Int)))×(List Event)×(List Int))) :=
 (bY n (ae.mk oA oB oC oD)).bind fun y1 =>
 if (y1 != 0)=true then
  some (.inl ())
 else
  (mt n (ae.mk oA oB oC oD)).bind fun y3 =>
  (jR n (ae.mk oA oB oC oD)).bind fun y4 =>
  (iter (fun s=>jH n oA oB oC oD y3 y4 s) n ((([]:List Int),([]:List (Option (List Int)))),0)).bind fun t23 =>
  grd (nP t23.2) <|
  some (.inr ((AJ t23.1 t23.2),y3,y4))
def ey (n:Nat) (why:Int) (a:Int) (b:Int):Option bc :=
 some (bc.mk false why a b)
def cr (n:Nat) (oA:(List Cell)) (oB:(List (List Event))) (oC:(List Int)) (oD:(List Int)) (oE:(List Event)) (sa:(List Int)×Int):Option (((List Int)×Int)⊕((List Int))) :=
 if (decide (sa.2<(sa.1.length:Int)))=true then
  grd (decide ((0:Int)≤sa.2)&&decide (sa.2≤(sa.1.length:Int))) <|
  grd (decide ((0:Int)≤sa.2)&&decide (sa.2≤(sa.1.length:Int))) <|
  grd (Nat.ble ((sa.2).toNat + (sa.1.length - (sa.2).toNat)) sa.1.length) <|
  some (.inl ((sa.1.take ((sa.2).toNat)++(((sa.1.drop 0).take ((sa.2).toNat)).take (sa.1.length - (sa.2).toNat)++sa.1.drop ((sa.2).toNat + min ((sa.1.drop 0).take ((sa.2).toNat)).length (sa.1.length - (sa.2).toNat)))),(af .i64 sa.2 ((min ((sa.1.drop 0).take ((sa.2).toNat)).length (sa.1.length - (sa.2).toNat):Nat):Int))))
 else
  some (.inr sa.1)
def b_ (n:Nat) (x:(List Int)) (count:Int) (oA:(List Cell)) (oB:(List (List Event))) (oC:(List Int)) (oD:(List Int)) (oE:(List Event)):Option (List Int) :=
 if (decide (count<0))=true then
  none
 else
  (fF n (IntKind.wrap .u64 (x.length:Int)) (IntKind.wrap .u64 count)).bind fun y2 =>
  if (decide (y2.1>0))=true then
   none
  else
   if (decide (y2.2>9223372036854775807))=true then
    none
   else
    grd (decide ((0:Int)≤(IntKind.wrap .i64 y2.2))&&decide ((IntKind.wrap .i64 y2.2)≤(IntKind.wrap .i64 y2.2))&&decide (8 * (IntKind.wrap .i64 y2.2)≤140737488355328)&&decide ((IntKind.wrap .i64 y2.2)≤140737488355328)&&Nat.blt 0 1) <|
    (iter (fun s=>cr n oA oB oC oD oE s) n ((x.take (List.replicate ((IntKind.wrap .i64 y2.2)).toNat 0).length++(List.replicate ((IntKind.wrap .i64 y2.2)).toNat 0).drop x.length),((min x.length (List.replicate ((IntKind.wrap .i64 y2.2)).toNat 0).length:Nat):Int))).bind fun t6 =>
    some t6
def mw (n:Nat) (c:ae) (y3:(List Event)) (xa2:Event) (sb:(List Int)×(List Int)×(List Int)×(List Int)×(List Int)×Int×Int×Int):Option (((List Int)×(List Int)×(List Int)×(List Int)×(List Int)×Int×Int×Int)⊕((List Int)×(List Int)×(List Int)×(List Int)×(List Int)×Int×Int)) :=
 if (decide (sb.2.2.2.2.2.2.1<4))=true then
  if (sb.2.2.2.2.2.2.1==0)=true then
   (av sb.2.1 sb.2.2.2.2.2.2.2).bind fun xb3 =>
   (av sb.2.1 (af .i64 sb.2.2.2.2.2.2.2 1)).bind fun xb4 =>
   if (xa2.Kind==6)=true then
    grd (decide ((0:Int)≤(zm .i64 sb.2.2.2.2.2.2.1 2))) <|
    if ((cL .i64 (jP .i64 xa2.Pred (zm .i64 sb.2.2.2.2.2.2.1 2)) 1)==1)=true then
     grd (decide ((0:Int)≤(kI .i64 sb.2.2.2.2.2.2.1 2))) <|
     if ((cL .i64 (jP .i64 xa2.Succ (kI .i64 sb.2.2.2.2.2.2.1 2)) 1)==1)=true then
      (av (sb.2.1.set ((af .i64 sb.2.2.2.2.2.2.2 1)).toNat xb3) (af .i64 sb.2.2.2.2.2.2.2 1)).bind fun xb10 =>
      some (.inl (sb.1,((sb.2.1.set ((af .i64 sb.2.2.2.2.2.2.2 1)).toNat xb3).set ((af .i64 sb.2.2.2.2.2.2.2 1)).toNat (af .i64 xb10 1)),sb.2.2.1,sb.2.2.2.1,sb.2.2.2.2.1,sb.2.2.2.2.2.1,(af .i64 sb.2.2.2.2.2.2.1 1),sb.2.2.2.2.2.2.2))
     else
      some (.inl (sb.1,(sb.2.1.set ((af .i64 sb.2.2.2.2.2.2.2 1)).toNat xb3),sb.2.2.1,sb.2.2.2.1,sb.2.2.2.2.1,sb.2.2.2.2.2.1,(af .i64 sb.2.2.2.2.2.2.1 1),sb.2.2.2.2.2.2.2))
    else
     some (.inl (sb.1,(sb.2.1.set ((af .i64 sb.2.2.2.2.2.2.2 1)).toNat xb3),sb.2.2.1,sb.2.2.2.1,sb.2.2.2.2.1,sb.2.2.2.2.2.1,(af .i64 sb.2.2.2.2.2.2.1 1),sb.2.2.2.2.2.2.2))
   else
    some (.inl (sb.1,(sb.2.1.set ((af .i64 sb.2.2.2.2.2.2.2 1)).toNat xb3),sb.2.2.1,sb.2.2.2.1,sb.2.2.2.2.1,sb.2.2.2.2.2.1,(af .i64 sb.2.2.2.2.2.2.1 1),sb.2.2.2.2.2.2.2))
  else
   if (sb.2.2.2.2.2.2.1==1)=true then
    (av sb.2.2.1 sb.2.2.2.2.2.2.2).bind fun xb3 =>
    (av sb.2.2.1 (af .i64 sb.2.2.2.2.2.2.2 1)).bind fun xb4 =>
    if (xa2.Kind==6)=true then
     grd (decide ((0:Int)≤(zm .i64 sb.2.2.2.2.2.2.1 2))) <|
     if ((cL .i64 (jP .i64 xa2.Pred (zm .i64 sb.2.2.2.2.2.2.1 2)) 1)==1)=true then
      grd (decide ((0:Int)≤(kI .i64 sb.2.2.2.2.2.2.1 2))) <|
      if ((cL .i64 (jP .i64 xa2.Succ (kI .i64 sb.2.2.2.2.2.2.1 2)) 1)==1)=true then
       (av (sb.2.2.1.set ((af .i64 sb.2.2.2.2.2.2.2 1)).toNat xb3) (af .i64 sb.2.2.2.2.2.2.2 1)).bind fun xb10 =>
       some (.inl (sb.1,sb.2.1,((sb.2.2.1.set ((af .i64 sb.2.2.2.2.2.2.2 1)).toNat xb3).set ((af .i64 sb.2.2.2.2.2.2.2 1)).toNat (af .i64 xb10 1)),sb.2.2.2.1,sb.2.2.2.2.1,sb.2.2.2.2.2.1,(af .i64 sb.2.2.2.2.2.2.1 1),sb.2.2.2.2.2.2.2))
      else
       some (.inl (sb.1,sb.2.1,(sb.2.2.1.set ((af .i64 sb.2.2.2.2.2.2.2 1)).toNat xb3),sb.2.2.2.1,sb.2.2.2.2.1,sb.2.2.2.2.2.1,(af .i64 sb.2.2.2.2.2.2.1 1),sb.2.2.2.2.2.2.2))
     else
      some (.inl (sb.1,sb.2.1,(sb.2.2.1.set ((af .i64 sb.2.2.2.2.2.2.2 1)).toNat xb3),sb.2.2.2.1,sb.2.2.2.2.1,sb.2.2.2.2.2.1,(af .i64 sb.2.2.2.2.2.2.1 1),sb.2.2.2.2.2.2.2))
    else
     some (.inl (sb.1,sb.2.1,(sb.2.2.1.set ((af .i64 sb.2.2.2.2.2.2.2 1)).toNat xb3),sb.2.2.2.1,sb.2.2.2.2.1,sb.2.2.2.2.2.1,(af .i64 sb.2.2.2.2.2.2.1 1),sb.2.2.2.2.2.2.2))
   else
    if (sb.2.2.2.2.2.2.1==2)=true then
     (av sb.2.2.2.1 sb.2.2.2.2.2.2.2).bind fun xb3 =>
     (av sb.2.2.2.1 (af .i64 sb.2.2.2.2.2.2.2 1)).bind fun xb4 =>
     if (xa2.Kind==6)=true then
      grd (decide ((0:Int)≤(zm .i64 sb.2.2.2.2.2.2.1 2))) <|
      if ((cL .i64 (jP .i64 xa2.Pred (zm .i64 sb.2.2.2.2.2.2.1 2)) 1)==1)=true then
       grd (decide ((0:Int)≤(kI .i64 sb.2.2.2.2.2.2.1 2))) <|
       if ((cL .i64 (jP .i64 xa2.Succ (kI .i64 sb.2.2.2.2.2.2.1 2)) 1)==1)=true then
        (av (sb.2.2.2.1.set ((af .i64 sb.2.2.2.2.2.2.2 1)).toNat xb3) (af .i64 sb.2.2.2.2.2.2.2 1)).bind fun xb10 =>
        some (.inl (sb.1,sb.2.1,sb.2.2.1,((sb.2.2.2.1.set ((af .i64 sb.2.2.2.2.2.2.2 1)).toNat xb3).set ((af .i64 sb.2.2.2.2.2.2.2 1)).toNat (af .i64 xb10 1)),sb.2.2.2.2.1,sb.2.2.2.2.2.1,(af .i64 sb.2.2.2.2.2.2.1 1),sb.2.2.2.2.2.2.2))
       else
        some (.inl (sb.1,sb.2.1,sb.2.2.1,(sb.2.2.2.1.set ((af .i64 sb.2.2.2.2.2.2.2 1)).toNat xb3),sb.2.2.2.2.1,sb.2.2.2.2.2.1,(af .i64 sb.2.2.2.2.2.2.1 1),sb.2.2.2.2.2.2.2))
      else
       some (.inl (sb.1,sb.2.1,sb.2.2.1,(sb.2.2.2.1.set ((af .i64 sb.2.2.2.2.2.2.2 1)).toNat xb3),sb.2.2.2.2.1,sb.2.2.2.2.2.1,(af .i64 sb.2.2.2.2.2.2.1 1),sb.2.2.2.2.2.2.2))
     else
      some (.inl (sb.1,sb.2.1,sb.2.2.1,(sb.2.2.2.1.set ((af .i64 sb.2.2.2.2.2.2.2 1)).toNat xb3),sb.2.2.2.2.1,sb.2.2.2.2.2.1,(af .i64 sb.2.2.2.2.2.2.1 1),sb.2.2.2.2.2.2.2))
    else
     if (sb.2.2.2.2.2.2.1==3)=true then
      (av sb.2.2.2.2.1 sb.2.2.2.2.2.2.2).bind fun xb3 =>
      (av sb.2.2.2.2.1 (af .i64 sb.2.2.2.2.2.2.2 1)).bind fun xb4 =>
      if (xa2.Kind==6)=true then
       grd (decide ((0:Int)≤(zm .i64 sb.2.2.2.2.2.2.1 2))) <|
       if ((cL .i64 (jP .i64 xa2.Pred (zm .i64 sb.2.2.2.2.2.2.1 2)) 1)==1)=true then
        grd (decide ((0:Int)≤(kI .i64 sb.2.2.2.2.2.2.1 2))) <|
        if ((cL .i64 (jP .i64 xa2.Succ (kI .i64 sb.2.2.2.2.2.2.1 2)) 1)==1)=true then
         (av (sb.2.2.2.2.1.set ((af .i64 sb.2.2.2.2.2.2.2 1)).toNat xb3) (af .i64 sb.2.2.2.2.2.2.2 1)).bind fun xb10 =>
         some (.inl (sb.1,sb.2.1,sb.2.2.1,sb.2.2.2.1,((sb.2.2.2.2.1.set ((af .i64 sb.2.2.2.2.2.2.2 1)).toNat xb3).set ((af .i64 sb.2.2.2.2.2.2.2 1)).toNat (af .i64 xb10 1)),sb.2.2.2.2.2.1,(af .i64 sb.2.2.2.2.2.2.1 1),sb.2.2.2.2.2.2.2))
        else
         some (.inl (sb.1,sb.2.1,sb.2.2.1,sb.2.2.2.1,(sb.2.2.2.2.1.set ((af .i64 sb.2.2.2.2.2.2.2 1)).toNat xb3),sb.2.2.2.2.2.1,(af .i64 sb.2.2.2.2.2.2.1 1),sb.2.2.2.2.2.2.2))
       else
        some (.inl (sb.1,sb.2.1,sb.2.2.1,sb.2.2.2.1,(sb.2.2.2.2.1.set ((af .i64 sb.2.2.2.2.2.2.2 1)).toNat xb3),sb.2.2.2.2.2.1,(af .i64 sb.2.2.2.2.2.2.1 1),sb.2.2.2.2.2.2.2))
      else
       some (.inl (sb.1,sb.2.1,sb.2.2.1,sb.2.2.2.1,(sb.2.2.2.2.1.set ((af .i64 sb.2.2.2.2.2.2.2 1)).toNat xb3),sb.2.2.2.2.2.1,(af .i64 sb.2.2.2.2.2.2.1 1),sb.2.2.2.2.2.2.2))
     else
      none
 else
  some (.inr (sb.1,sb.2.1,sb.2.2.1,sb.2.2.2.1,sb.2.2.2.2.1,sb.2.2.2.2.2.1,sb.2.2.2.2.2.2.2))
def mz (n:Nat) (c:ae) (y3:(List Event)) (xa2:Event) (sb:(List Int)×(List Int)×(List Int)×(List Int)×(List Int)×Int×Int×Int):Option (((List Int)×(List Int)×(List Int)×(List Int)×(List Int)×Int×Int×Int)⊕((List Int)×(List Int)×(List Int)×(List Int)×(List Int)×Int)) :=
 if (decide (sb.2.2.2.2.2.1<(xa2.Deps.Addr.length:Int)))=true then
  (av xa2.Deps.Addr sb.2.2.2.2.2.1).bind fun xb2 =>
  (av sb.1 (af .i64 (cj .i64 sb.2.2.2.2.2.2.2 xa2.At) xb2)).bind fun xb3 =>
  some (.inl ((sb.1.set ((af .i64 (cj .i64 sb.2.2.2.2.2.2.2 xa2.At) xb2)).toNat (Kb xb3 sb.2.2.2.2.2.2.2)),sb.2.1,sb.2.2.1,sb.2.2.2.1,sb.2.2.2.2.1,(af .i64 sb.2.2.2.2.2.1 1),sb.2.2.2.2.2.2.1,sb.2.2.2.2.2.2.2))
 else
  some (.inr (sb.1,sb.2.1,sb.2.2.1,sb.2.2.2.1,sb.2.2.2.2.1,sb.2.2.2.2.2.2.1))
def pw (n:Nat) (c:ae) (y3:(List Event)) (sa:(List Int)×(List Int)×(List Int)×(List Int)×(List Int)×Int):Option (((List Int)×(List Int)×(List Int)×(List Int)×(List Int)×Int)⊕((List Int)×(List Int)×(List Int)×(List Int)×(List Int))) :=
 if (decide (sa.2.2.2.2.2<(y3.length:Int)))=true then
  (av y3 sa.2.2.2.2.2).bind fun xa2 =>
  (iter (fun s=>mw n c y3 xa2 s) n (sa.1,sa.2.1,sa.2.2.1,sa.2.2.2.1,sa.2.2.2.2.1,sa.2.2.2.2.2,0,sa.2.2.2.2.2)).bind fun ta3 =>
  (iter (fun s=>mz n c y3 xa2 s) n (ta3.1,ta3.2.1,ta3.2.2.1,ta3.2.2.2.1,ta3.2.2.2.2.1,0,ta3.2.2.2.2.2.1,ta3.2.2.2.2.2.2)).bind fun ta4 =>
  some (.inl (ta4.1,ta4.2.1,ta4.2.2.1,ta4.2.2.2.1,ta4.2.2.2.2.1,(af .i64 ta4.2.2.2.2.2 1)))
 else
  some (.inr (sa.1,sa.2.1,sa.2.2.1,sa.2.2.2.1,sa.2.2.2.2.1))
def qk (n:Nat) (c:ae):Option (Option ah) :=
 (bY n c).bind fun y1 =>
 if (y1 != 0)=true then
  some (none:Option ah)
 else
  (aW n c.Harts).bind fun y3 =>
  (b_ n ([(y3.length:Int)]:List Int) (y3.length:Int) c.First c.Harts c.From c.Order y3).bind fun y4 =>
  grd (decide ((0:Int)≤(af .i64 (y3.length:Int) 1))&&decide ((af .i64 (y3.length:Int) 1)≤(af .i64 (y3.length:Int) 1))&&decide (8 * (af .i64 (y3.length:Int) 1)≤140737488355328)&&decide ((af .i64 (y3.length:Int) 1)≤140737488355328)&&Nat.blt 0 1) <|
  grd (decide ((0:Int)≤(af .i64 (y3.length:Int) 1))&&decide ((af .i64 (y3.length:Int) 1)≤(af .i64 (y3.length:Int) 1))&&decide (8 * (af .i64 (y3.length:Int) 1)≤140737488355328)&&decide ((af .i64 (y3.length:Int) 1)≤140737488355328)&&Nat.blt 0 1) <|
  grd (decide ((0:Int)≤(af .i64 (y3.length:Int) 1))&&decide ((af .i64 (y3.length:Int) 1)≤(af .i64 (y3.length:Int) 1))&&decide (8 * (af .i64 (y3.length:Int) 1)≤140737488355328)&&decide ((af .i64 (y3.length:Int) 1)≤140737488355328)&&Nat.blt 0 1) <|
  grd (decide ((0:Int)≤(af .i64 (y3.length:Int) 1))&&decide ((af .i64 (y3.length:Int) 1)≤(af .i64 (y3.length:Int) 1))&&decide (8 * (af .i64 (y3.length:Int) 1)≤140737488355328)&&decide ((af .i64 (y3.length:Int) 1)≤140737488355328)&&Nat.blt 0 1) <|
  (iter (fun s=>pw n c y3 s) n (y4,(List.replicate ((af .i64 (y3.length:Int) 1)).toNat 0),(List.replicate ((af .i64 (y3.length:Int) 1)).toNat 0),(List.replicate ((af .i64 (y3.length:Int) 1)).toNat 0),(List.replicate ((af .i64 (y3.length:Int) 1)).toNat 0),0)).bind fun t9 =>
  some (some (ah.mk (some c) y3 (Kc.mk t9.2.1 t9.2.2.1 t9.2.2.2.1 t9.2.2.2.2) t9.1))
def d_ (n:Nat) (v:ah) (a:Int) (b:Int):Option Bool :=
 if (decide (a<0))=true then
  some false
 else
  if (decide (b≥(v.all.length:Int)))=true then
   some false
  else
   if (decide (a≥b))=true then
    some false
   else
    (av v.all a).bind fun x4 =>
    (av v.all b).bind fun x5 =>
    if (x4.Hart==x5.Hart)=true then
     (fe n x4).bind fun y7 =>
     if y7=true then
      (fe n x5).bind fun y9 =>
      some y9
     else
      some false
    else
     some false
def sw (n:Nat):Option Unit :=
 some ()
def hT (n:Nat) (v:ah) (a:Int) (b:Int) (x:Event) (y:Event):Option Bool :=
 (ce n y).bind fun y1 =>
 if y1=true then
  some (x.Addr==y.Addr)
 else
  some false
def jI (n:Nat) (m:Event) (a:Int) (a_:Int) (a_A:Int) (a_B:Int) (a_C:Int) (a_D:Int) (a_E:Bool) (a_F:Bool) (a_G:Int) (a_H:Int) (a_I:Int) (a_J:(List Int)) (a_K:(List Int)) (a_L:(List Int)):Option Bool :=
 (ce n m).bind fun y1 =>
 if y1=true then
  some (m.Addr==a_B)
 else
  some false
def bm (n:Nat) (s_:(List Event)) (f:Int) (f_:Int) (f_A:Int) (f_B:Int) (f_C:Int) (f_D:Int) (f_E:Bool) (f_F:Bool) (f_G:Int) (f_H:Int) (f_I:Int) (f_J:(List Int)) (f_K:(List Int)) (f_L:(List Int)) (sa:Int):Option (Int⊕(Unit⊕Int)) :=
 if (decide (sa<(s_.length:Int)))=true then
  (av s_ sa).bind fun xa2 =>
  (jI n xa2 f f_ f_A f_B f_C f_D f_E f_F f_G f_H f_I f_J f_K f_L).bind fun ya3 =>
  if ya3=true then
   some (.inr (.inr sa))
  else
   some (.inl (af .i64 sa 1))
 else
  some (.inr (.inl ()))
def bA (n:Nat) (s_:(List Event)) (f:Int) (f_:Int) (f_A:Int) (f_B:Int) (f_C:Int) (f_D:Int) (f_E:Bool) (f_F:Bool) (f_G:Int) (f_H:Int) (f_I:Int) (f_J:(List Int)) (f_K:(List Int)) (f_L:(List Int)):Option Int :=
 (iter (fun s=>bm n s_ f f_ f_A f_B f_C f_D f_E f_F f_G f_H f_I f_J f_K f_L s) n 0).bind fun t1 =>
 match t1 with
 | .inl w2 =>
  some (-1)
 | .inr w2 =>
  some w2
def bn (n:Nat) (s_:(List Event)) (f:Int) (f_:Int) (f_A:Int) (f_B:Int) (f_C:Int) (f_D:Int) (f_E:Bool) (f_F:Bool) (f_G:Int) (f_H:Int) (f_I:Int) (f_J:(List Int)) (f_K:(List Int)) (f_L:(List Int)):Option Bool :=
 (bA n s_ f f_ f_A f_B f_C f_D f_E f_F f_G f_H f_I f_J f_K f_L).bind fun y1 =>
 some (decide (y1≥0))
def hU (n:Nat) (v:ah) (a:Int) (b:Int) (x:Event) (y:Event):Option Bool :=
 if (x.Addr != y.Addr)=true then
  some false
 else
  (bI n x).bind fun y2 =>
  if (!y2)=true then
   some false
  else
   (bI n y).bind fun y4 =>
   if (!y4)=true then
    some false
   else
    iu v.c (
     none) fun z6 =>
     (av z6.From a).bind fun x8 =>
     iu v.c (
      none) fun z9 =>
      (av z9.From b).bind fun x11 =>
      if (x8==x11)=true then
       some false
      else
       grd (decide ((0:Int)≤(af .i64 a 1))&&decide ((af .i64 a 1)≤b)&&decide (b≤(v.all.length:Int))) <|
       (bn n ((v.all.drop ((af .i64 a 1)).toNat).take ((b).toNat - ((af .i64 a 1)).toNat)) x.Hart x.At x.Kind x.Addr x.Load x.Store x.Aq x.Rl x.Pred x.Succ x.Pair x.Deps.Addr x.Deps.Data x.Deps.Way).bind fun y14 =>
       some (!y14)
def hZ (n:Nat) (v:ah) (a:Int) (b:Int) (x:Event) (y:Event):Option Bool :=
 if (x.Kind==4)=true then
  (bI n y).bind fun y2 =>
  if y2=true then
   iu v.c (
    none) fun z4 =>
    (av z4.From b).bind fun x6 =>
    some (x6==a)
  else
   some false
 else
  if (x.Kind==5)=true then
   (bI n y).bind fun y3 =>
   if y3=true then
    iu v.c (
     none) fun z5 =>
     (av z5.From b).bind fun x7 =>
     some (x7==a)
   else
    some false
  else
   some false
def kB (n:Nat) (e:Event):Option (List Int) :=
 (ce n e).bind fun y1 =>
 if y1=true then
  (bI n e).bind fun y3 =>
  if y3=true then
   grd (Nat.ble ((([0]:List Int).length + 1) * 8) 140737488355328) <|
   some (([0]:List Int)++([1]:List Int))
  else
   some ([0]:List Int)
 else
  (bI n e).bind fun y3 =>
  if y3=true then
   some ([1]:List Int)
  else
   some ([]:List Int)
def ff (n:Nat) (v:ah) (a:Int) (b:Int) (y2:(List Int)) (xa2:Int) (ya4:(List Int)) (sb:Int×Int):Option ((Int×Int)⊕(Int⊕Unit)) :=
 if (decide (sb.2<(ya4.length:Int)))=true then
  (av ya4 sb.2).bind fun xb2 =>
  if ((af .i64 (mr .i64 2 xa2) xb2)==0)=true then
   (av v.fences.e0 b).bind fun xb4 =>
   (av v.fences.e0 a).bind fun xb5 =>
   if (decide (xb4>xb5))=true then
    some (.inr (.inr ()))
   else
    some (.inl (sb.1,(af .i64 sb.2 1)))
  else
   if ((af .i64 (mr .i64 2 xa2) xb2)==1)=true then
    (av v.fences.e1 b).bind fun xb4 =>
    (av v.fences.e1 a).bind fun xb5 =>
    if (decide (xb4>xb5))=true then
     some (.inr (.inr ()))
    else
     some (.inl (sb.1,(af .i64 sb.2 1)))
   else
    if ((af .i64 (mr .i64 2 xa2) xb2)==2)=true then
     (av v.fences.e2 b).bind fun xb4 =>
     (av v.fences.e2 a).bind fun xb5 =>
     if (decide (xb4>xb5))=true then
      some (.inr (.inr ()))
     else
      some (.inl (sb.1,(af .i64 sb.2 1)))
    else
     if ((af .i64 (mr .i64 2 xa2) xb2)==3)=true then
      (av v.fences.e3 b).bind fun xb4 =>
      (av v.fences.e3 a).bind fun xb5 =>
      if (decide (xb4>xb5))=true then
       some (.inr (.inr ()))
      else
       some (.inl (sb.1,(af .i64 sb.2 1)))
     else
      none
 else
  some (.inr (.inl sb.1))
def fg (n:Nat) (v:ah) (a:Int) (b:Int) (y2:(List Int)) (sa:Int):Option (Int⊕(Unit⊕Unit)) :=
 if (decide (sa<(y2.length:Int)))=true then
  (av y2 sa).bind fun xa2 =>
  (av v.all b).bind fun xa3 =>
  (kB n xa3).bind fun ya4 =>
  (iter (fun s=>ff n v a b y2 xa2 ya4 s) n (sa,0)).bind fun ta5 =>
  match ta5 with
  | .inl wa6 =>
   some (.inl (af .i64 wa6 1))
  | .inr wa6 =>
   some (.inr (.inr ()))
 else
  some (.inr (.inl ()))
def fy (n:Nat) (v:ah) (a:Int) (b:Int):Option Bool :=
 (av v.all a).bind fun x1 =>
 (kB n x1).bind fun y2 =>
 (iter (fun s=>fg n v a b y2 s) n 0).bind fun t3 =>
 match t3 with
 | .inl w4 =>
  some false
 | .inr w4 =>
  some true
def h_ (n:Nat) (v:ah) (a:Int) (b:Int) (x:Event) (y:Event):Option Bool :=
 (fy n v a b).bind fun y1 =>
 some y1
def lD (n:Nat) (v:ah) (a:Int) (b:Int) (x:Event) (y:Event):Option Bool :=
 some x.Aq
def lE (n:Nat) (v:ah) (a:Int) (b:Int) (x:Event) (y:Event):Option Bool :=
 some y.Rl
def ia (n:Nat) (v:ah) (a:Int) (b:Int) (x:Event) (y:Event):Option Bool :=
 if x.Aq=true then
  if y.Aq=true then
   some true
  else
   some y.Rl
 else
  if x.Rl=true then
   if y.Aq=true then
    some true
   else
    some y.Rl
  else
   some false
def lF (n:Nat) (v:ah) (a:Int) (b:Int) (x:Event) (y:Event):Option Bool :=
 if (y.Kind==4)=true then
  some (y.Pair==x.At)
 else
  some false
def cmp_isNaN_int (n:Nat) (x:Int):Option Bool :=
 some (x != x)
def cmp_Less_int (n:Nat) (x:Int) (y:Int):Option Bool :=
 (cmp_isNaN_int n x).bind fun y1 =>
 if y1=true then
  (cmp_isNaN_int n y).bind fun y3 =>
  if (!y3)=true then
   some true
  else
   some (decide (x<y))
 else
  some (decide (x<y))
def gg (n:Nat) (x:Int):Option Bool :=
 some (x != x)
def bV (n:Nat) (x:(List Int)) (target:Int) (sa:Int×Int):Option ((Int×Int)⊕Int) :=
 if (decide (sa.1<sa.2))=true then
  (av x (IntKind.wrap .i64 (jP .u64 (IntKind.wrap .u64 (af .i64 sa.1 sa.2)) 1))).bind fun xa2 =>
  (cmp_Less_int n xa2 target).bind fun ya3 =>
  if ya3=true then
   some (.inl ((af .i64 (IntKind.wrap .i64 (jP .u64 (IntKind.wrap .u64 (af .i64 sa.1 sa.2)) 1)) 1),sa.2))
  else
   some (.inl (sa.1,(IntKind.wrap .i64 (jP .u64 (IntKind.wrap .u64 (af .i64 sa.1 sa.2)) 1))))
 else
  some (.inr sa.1)
def cu (n:Nat) (x:(List Int)) (target:Int):Option (Int×Bool) :=
 (iter (fun s=>bV n x target s) n (0,(x.length:Int))).bind fun t1 =>
 if (decide (t1<(x.length:Int)))=true then
  (av x t1).bind fun x3 =>
  if (x3==target)=true then
   some (t1,true)
  else
   (gg n x3).bind fun y5 =>
   if y5=true then
    (gg n target).bind fun y7 =>
    some (t1,y7)
   else
    some (t1,false)
 else
  some (t1,false)
def mY (n:Nat) (l:(List Int)) (at_:Int):Option Bool :=
 (cu n l at_).bind fun y1 =>
 some y1.2
def ib (n:Nat) (v:ah) (a:Int) (b:Int) (x:Event) (y:Event):Option Bool :=
 (mY n y.Deps.Addr x.At).bind fun y1 =>
 some y1
def gh (n:Nat) (v:ah) (a:Int) (b:Int) (x:Event) (y:Event):Option Bool :=
 (mY n y.Deps.Data x.At).bind fun y1 =>
 some y1
def gi (n:Nat) (v:ah) (a:Int) (b:Int) (x:Event) (y:Event):Option Bool :=
 (ce n y).bind fun y1 =>
 if y1=true then
  (mY n y.Deps.Way x.At).bind fun y3 =>
  some y3
 else
  some false
def gl (n:Nat) (v:ah) (a:Int) (b:Int) (x:Event) (y:Event):Option Bool :=
 iu v.c (
  none) fun z1 =>
  (av z1.From b).bind fun x3 =>
  (bI n y).bind fun y4 =>
  if y4=true then
   if (decide (x3>a))=true then
    if (decide (x3<b))=true then
     (av v.all x3).bind fun x8 =>
     (mY n x8.Deps.Addr x.At).bind fun y9 =>
     if y9=true then
      some true
     else
      (mY n x8.Deps.Data x.At).bind fun y11 =>
      some y11
    else
     some false
   else
    some false
  else
   some false
def gm (n:Nat) (v:ah) (a:Int) (b:Int) (x:Event) (y:Event):Option Bool :=
 (ce n y).bind fun y1 =>
 if y1=true then
  (av v.hung a).bind fun x3 =>
  some (decide (x3<b))
 else
  some false
def eV (n:Nat) (v:ah) (a:Int) (b:Int) (sa:Int):Option (Int⊕(Unit⊕Int)) :=
 if (decide (sa<13))=true then
  if (sa==0)=true then
   (av v.all a).bind fun xa3 =>
   (av v.all b).bind fun xa4 =>
   (hT n v a b xa3 xa4).bind fun ya5 =>
   if ya5=true then
    some (.inr (.inr 1))
   else
    some (.inl 1)
  else
   if (sa==1)=true then
    (av v.all a).bind fun xa3 =>
    (av v.all b).bind fun xa4 =>
    (hU n v a b xa3 xa4).bind fun ya5 =>
    if ya5=true then
     some (.inr (.inr 2))
    else
     some (.inl 2)
   else
    if (sa==2)=true then
     (av v.all a).bind fun xa3 =>
     (av v.all b).bind fun xa4 =>
     (hZ n v a b xa3 xa4).bind fun ya5 =>
     if ya5=true then
      some (.inr (.inr 3))
     else
      some (.inl 3)
    else
     if (sa==3)=true then
      (av v.all a).bind fun xa3 =>
      (av v.all b).bind fun xa4 =>
      (h_ n v a b xa3 xa4).bind fun ya5 =>
      if ya5=true then
       some (.inr (.inr 4))
      else
       some (.inl 4)
     else
      if (sa==4)=true then
       (av v.all a).bind fun xa3 =>
       (av v.all b).bind fun xa4 =>
       (lD n v a b xa3 xa4).bind fun ya5 =>
       if ya5=true then
        some (.inr (.inr 5))
       else
        some (.inl 5)
      else
       if (sa==5)=true then
        (av v.all a).bind fun xa3 =>
        (av v.all b).bind fun xa4 =>
        (lE n v a b xa3 xa4).bind fun ya5 =>
        if ya5=true then
         some (.inr (.inr 6))
        else
         some (.inl 6)
       else
        if (sa==6)=true then
         (av v.all a).bind fun xa3 =>
         (av v.all b).bind fun xa4 =>
         (ia n v a b xa3 xa4).bind fun ya5 =>
         if ya5=true then
          some (.inr (.inr 7))
         else
          some (.inl 7)
        else
         if (sa==7)=true then
          (av v.all a).bind fun xa3 =>
          (av v.all b).bind fun xa4 =>
          (lF n v a b xa3 xa4).bind fun ya5 =>
          if ya5=true then
           some (.inr (.inr 8))
          else
           some (.inl 8)
         else
          if (sa==8)=true then
           (av v.all a).bind fun xa3 =>
           (av v.all b).bind fun xa4 =>
           (ib n v a b xa3 xa4).bind fun ya5 =>
           if ya5=true then
            some (.inr (.inr 9))
           else
            some (.inl 9)
          else
           if (sa==9)=true then
            (av v.all a).bind fun xa3 =>
            (av v.all b).bind fun xa4 =>
            (gh n v a b xa3 xa4).bind fun ya5 =>
            if ya5=true then
             some (.inr (.inr 10))
            else
             some (.inl 10)
           else
            if (sa==10)=true then
             (av v.all a).bind fun xa3 =>
             (av v.all b).bind fun xa4 =>
             (gi n v a b xa3 xa4).bind fun ya5 =>
             if ya5=true then
              some (.inr (.inr 11))
             else
              some (.inl 11)
            else
             if (sa==11)=true then
              (av v.all a).bind fun xa3 =>
              (av v.all b).bind fun xa4 =>
              (gl n v a b xa3 xa4).bind fun ya5 =>
              if ya5=true then
               some (.inr (.inr 12))
              else
               some (.inl 12)
             else
              if (sa==12)=true then
               (av v.all a).bind fun xa3 =>
               (av v.all b).bind fun xa4 =>
               (gm n v a b xa3 xa4).bind fun ya5 =>
               if ya5=true then
                some (.inr (.inr 13))
               else
                some (.inl 13)
              else
               if (sa==13)=true then
                none
               else
                none
 else
  some (.inr (.inl ()))
def cC (n:Nat) (v:ah) (a:Int) (b:Int):Option Int :=
 (d_ n v a b).bind fun y1 =>
 if (!y1)=true then
  some 0
 else
  (sw n).bind fun y3 =>
  (iter (fun s=>eV n v a b s) n 0).bind fun t4 =>
  match t4 with
  | .inl w5 =>
   some 0
  | .inr w5 =>
   some w5
def kq (n:Nat) (z2:ah) (xa2:Event) (sb:(List (eR Int))×Int×Int×Int):Option (((List (eR Int))×Int×Int×Int)⊕((List (eR Int))×Int)) :=
 if (decide (sb.2.2.2<(z2.all.length:Int)))=true then
  (av z2.all sb.2.2.2).bind fun xb2 =>
  if (xb2.Hart==xa2.Hart)=true then
   (cC n z2 sb.2.2.1 sb.2.2.2).bind fun yb4 =>
   if (decide (yb4>0))=true then
    grd (Nat.ble ((sb.1.length + 1) * 16) 140737488355328) <|
    some (.inl ((sb.1++([(eR.mk sb.2.2.1 sb.2.2.2)]:List (eR Int))),sb.2.1,sb.2.2.1,(af .i64 sb.2.2.2 1)))
   else
    some (.inl (sb.1,sb.2.1,sb.2.2.1,(af .i64 sb.2.2.2 1)))
  else
   some (.inr (sb.1,sb.2.1))
 else
  some (.inr (sb.1,sb.2.1))
def kr (n:Nat) (z2:ah) (sa:(List (eR Int))×Int):Option (((List (eR Int))×Int)⊕((List (eR Int)))) :=
 if (decide (sa.2<(z2.all.length:Int)))=true then
  (av z2.all sa.2).bind fun xa2 =>
  (iter (fun s=>kq n z2 xa2 s) n (sa.1,sa.2,sa.2,(af .i64 sa.2 1))).bind fun ta3 =>
  some (.inl (ta3.1,(af .i64 ta3.2 1)))
 else
  some (.inr sa.1)
def kC (n:Nat) (c:ae):Option (List (eR Int)) :=
 (qk n c).bind fun y1 =>
 match y1 with
 | none =>
  some ([]:List (eR Int))
 | some z2 =>
  (iter (fun s=>kr n z2 s) n (([]:List (eR Int)),0)).bind fun t3 =>
  some t3
def gW (n:Nat):Option bc :=
 some (bc.mk true 0 (-1) (-1))
def dE (n:Nat) (oA:(List Cell)) (oB:(List (List Event))) (oC:(List Int)) (oD:(List Int)) (oE:(List (Int×(List Int)))) (oF:(List Event)) (oG:(List Int)) (y1:(List (eR Int))) (sa:Int):Option (Int⊕(Unit⊕(Bool×Int×Int×Int))) :=
 if (decide (sa<(y1.length:Int)))=true then
  (av y1 sa).bind fun xa2 =>
  (av oG xa2.e0).bind fun xa3 =>
  (av oG xa2.e1).bind fun xa4 =>
  if (decide (xa3>xa4))=true then
   (ey n 2 xa2.e0 xa2.e1).bind fun ya6 =>
   some (.inr (.inr (ya6.OK,ya6.Why,ya6.A_,ya6.B)))
  else
   some (.inl (af .i64 sa 1))
 else
  some (.inr (.inl ()))
def dy (n:Nat) (oA:(List Cell)) (oB:(List (List Event))) (oC:(List Int)) (oD:(List Int)) (oE:(List (Int×(List Int)))) (oF:(List Event)) (oG:(List Int)):Option (Bool×Int×Int×Int) :=
 (kC n (ae.mk oA oB oC oD)).bind fun y1 =>
 (iter (fun s=>dE n oA oB oC oD oE oF oG y1 s) n 0).bind fun t2 =>
 match t2 with
 | .inl w3 =>
  (gW n).bind fun y4 =>
  some (y4.OK,y4.Why,y4.A_,y4.B)
 | .inr w3 =>
  some (w3.1,w3.2.1,w3.2.2.1,w3.2.2.2)
def bN (n:Nat) (n_:Int) (oA:(List Cell)) (oB:(List (List Event))) (oC:(List Int)) (oD:(List Int)) (oE:(List (Int×(List Int)))) (oF:(List Event)) (oG:(List Int)) (x1:Event) (sa:(List Int)×Int):Option (((List Int)×Int)⊕(Unit⊕Int)) :=
 if (decide (sa.2≥0))=true then
  (av sa.1 sa.2).bind fun xa2 =>
  (av oF xa2).bind fun xa3 =>
  if (xa2 != n_)=true then
   (av oG xa2).bind fun xa5 =>
   (av oG n_).bind fun xa6 =>
   if (decide (xa5<xa6))=true then
    some (.inr (.inr xa2))
   else
    if (xa3.Hart==x1.Hart)=true then
     if (decide (xa3.At<x1.At))=true then
      some (.inr (.inr xa2))
     else
      some (.inl (sa.1,(cj .i64 sa.2 1)))
    else
     some (.inl (sa.1,(cj .i64 sa.2 1)))
  else
   some (.inl (sa.1,(cj .i64 sa.2 1)))
 else
  some (.inr (.inl ()))
def bQ (n:Nat) (n_:Int) (oA:(List Cell)) (oB:(List (List Event))) (oC:(List Int)) (oD:(List Int)) (oE:(List (Int×(List Int)))) (oF:(List Event)) (oG:(List Int)):Option Int :=
 (av oF n_).bind fun x1 =>
 iu (j6 fc oE x1.Addr) (
  (iter (fun s=>bN n n_ oA oB oC oD oE oF oG x1 s) n (([]:List Int),(-1))).bind fun t3 =>
  match t3 with
  | .inl w4 =>
   some (-1)
  | .inr w4 =>
   some w4) fun z2 =>
  (iter (fun s=>bN n n_ oA oB oC oD oE oF oG x1 s) n (z2,(cj .i64 (z2.length:Int) 1))).bind fun t4 =>
  match t4 with
  | .inl w5 =>
   some (-1)
  | .inr w5 =>
   some w5
def dG (n:Nat) (oA:(List Cell)) (oB:(List (List Event))) (oC:(List Int)) (oD:(List Int)) (oE:(List (Int×(List Int)))) (oF:(List Event)) (oG:(List Int)) (sa:Int):Option (Int⊕(Unit⊕(Bool×Int×Int×Int))) :=
 if (decide (sa<(oF.length:Int)))=true then
  (av oF sa).bind fun xa2 =>
  (bI n xa2).bind fun ya3 =>
  if (!ya3)=true then
   some (.inl (af .i64 sa 1))
  else
   (bQ n sa oA oB oC oD oE oF oG).bind fun ya5 =>
   (av oC sa).bind fun xa6 =>
   if (ya5 != xa6)=true then
    (ey n 3 sa ya5).bind fun ya8 =>
    some (.inr (.inr (ya8.OK,ya8.Why,ya8.A_,ya8.B)))
   else
    some (.inl (af .i64 sa 1))
 else
  some (.inr (.inl ()))
def dz (n:Nat) (oA:(List Cell)) (oB:(List (List Event))) (oC:(List Int)) (oD:(List Int)) (oE:(List (Int×(List Int)))) (oF:(List Event)) (oG:(List Int)):Option (Bool×Int×Int×Int) :=
 (iter (fun s=>dG n oA oB oC oD oE oF oG s) n 0).bind fun t1 =>
 match t1 with
 | .inl w2 =>
  (gW n).bind fun y3 =>
  some (y3.OK,y3.Why,y3.A_,y3.B)
 | .inr w2 =>
  some (w2.1,w2.2.1,w2.2.2.1,w2.2.2.2)
def bj (n:Nat) (oA:(List Cell)) (oB:(List (List Event))) (oC:(List Int)) (oD:(List Int)) (oE:(List (Int×(List Int)))) (oF:(List Event)) (oG:(List Int)) (xa2:Event) (sb:Int×Int×Int×Int×(List Int)×Int×Int):Option ((Int×Int×Int×Int×(List Int)×Int×Int)⊕(Int⊕(Bool×Int×Int×Int))) :=
 if (decide (sb.2.2.2.2.2.2<sb.2.2.2.2.2.1))=true then
  (av sb.2.2.2.2.1 sb.2.2.2.2.2.2).bind fun xb2 =>
  (av oG xb2).bind fun xb3 =>
  if (decide (xb3>sb.2.2.2.1))=true then
   (av oG sb.2.1).bind fun xb5 =>
   if (decide (xb3<xb5))=true then
    (av oF xb2).bind fun xb7 =>
    if (xb7.Hart != xa2.Hart)=true then
     (ey n 4 sb.2.2.1 xb2).bind fun yb9 =>
     some (.inr (.inr (yb9.OK,yb9.Why,yb9.A_,yb9.B)))
    else
     some (.inl (sb.1,sb.2.1,sb.2.2.1,sb.2.2.2.1,sb.2.2.2.2.1,sb.2.2.2.2.2.1,(af .i64 sb.2.2.2.2.2.2 1)))
   else
    some (.inl (sb.1,sb.2.1,sb.2.2.1,sb.2.2.2.1,sb.2.2.2.2.1,sb.2.2.2.2.2.1,(af .i64 sb.2.2.2.2.2.2 1)))
  else
   some (.inl (sb.1,sb.2.1,sb.2.2.1,sb.2.2.2.1,sb.2.2.2.2.1,sb.2.2.2.2.2.1,(af .i64 sb.2.2.2.2.2.2 1)))
 else
  some (.inr (.inl sb.1))
def eg (n:Nat) (oA:(List Cell)) (oB:(List (List Event))) (oC:(List Int)) (oD:(List Int)) (oE:(List (Int×(List Int)))) (oF:(List Event)) (oG:(List Int)) (sa:Int):Option (Int⊕(Unit⊕(Bool×Int×Int×Int))) :=
 if (decide (sa<(oF.length:Int)))=true then
  (av oF sa).bind fun xa2 =>
  if (xa2.Kind != 4)=true then
   some (.inl (af .i64 sa 1))
  else
   (av oC (af .i64 (cj .i64 sa xa2.At) xa2.Pair)).bind fun xa4 =>
   if (decide (xa4≥0))=true then
    (av oG xa4).bind fun xa6 =>
    (av oG sa).bind fun xa7 =>
    if (decide (xa6≥xa7))=true then
     (ey n 4 (af .i64 (cj .i64 sa xa2.At) xa2.Pair) xa4).bind fun ya9 =>
     some (.inr (.inr (ya9.OK,ya9.Why,ya9.A_,ya9.B)))
    else
     iu (j6 fc oE xa2.Addr) (
      (iter (fun s=>bj n oA oB oC oD oE oF oG xa2 s) n (sa,sa,(af .i64 (cj .i64 sa xa2.At) xa2.Pair),xa6,([]:List Int),0,0)).bind fun ta10 =>
      match ta10 with
      | .inl wa11 =>
       some (.inl (af .i64 wa11 1))
      | .inr wa11 =>
       some (.inr (.inr (wa11.1,wa11.2.1,wa11.2.2.1,wa11.2.2.2)))) fun za9 =>
      (iter (fun s=>bj n oA oB oC oD oE oF oG xa2 s) n (sa,sa,(af .i64 (cj .i64 sa xa2.At) xa2.Pair),xa6,za9,(za9.length:Int),0)).bind fun ta11 =>
      match ta11 with
      | .inl wa12 =>
       some (.inl (af .i64 wa12 1))
      | .inr wa12 =>
       some (.inr (.inr (wa12.1,wa12.2.1,wa12.2.2.1,wa12.2.2.2)))
   else
    iu (j6 fc oE xa2.Addr) (
     (iter (fun s=>bj n oA oB oC oD oE oF oG xa2 s) n (sa,sa,(af .i64 (cj .i64 sa xa2.At) xa2.Pair),(-1),([]:List Int),0,0)).bind fun ta7 =>
     match ta7 with
     | .inl wa8 =>
      some (.inl (af .i64 wa8 1))
     | .inr wa8 =>
      some (.inr (.inr (wa8.1,wa8.2.1,wa8.2.2.1,wa8.2.2.2)))) fun za6 =>
     (iter (fun s=>bj n oA oB oC oD oE oF oG xa2 s) n (sa,sa,(af .i64 (cj .i64 sa xa2.At) xa2.Pair),(-1),za6,(za6.length:Int),0)).bind fun ta8 =>
     match ta8 with
     | .inl wa9 =>
      some (.inl (af .i64 wa9 1))
     | .inr wa9 =>
      some (.inr (.inr (wa9.1,wa9.2.1,wa9.2.2.1,wa9.2.2.2)))
 else
  some (.inr (.inl ()))
def ea (n:Nat) (oA:(List Cell)) (oB:(List (List Event))) (oC:(List Int)) (oD:(List Int)) (oE:(List (Int×(List Int)))) (oF:(List Event)) (oG:(List Int)):Option (Bool×Int×Int×Int) :=
 (iter (fun s=>eg n oA oB oC oD oE oF oG s) n 0).bind fun t1 =>
 match t1 with
 | .inl w2 =>
  (gW n).bind fun y3 =>
  some (y3.OK,y3.Why,y3.A_,y3.B)
 | .inr w2 =>
  some (w2.1,w2.2.1,w2.2.2.1,w2.2.2.2)
def fT (n:Nat) (c:ae):Option bc :=
 (fS n c.First c.Harts c.From c.Order).bind fun y1 =>
 match y1 with
 | .inl wa2 =>
  (ey n 1 (-1) (-1)).bind fun y3 =>
  some y3
 | .inr wb2 =>
  (dy n c.First c.Harts c.From c.Order wb2.1 wb2.2.1 wb2.2.2).bind fun y3 =>
  if (!y3.1)=true then
   some (bc.mk y3.1 y3.2.1 y3.2.2.1 y3.2.2.2)
  else
   (dz n c.First c.Harts c.From c.Order wb2.1 wb2.2.1 wb2.2.2).bind fun y5 =>
   if (!y5.1)=true then
    some (bc.mk y5.1 y5.2.1 y5.2.2.1 y5.2.2.2)
   else
    (ea n c.First c.Harts c.From c.Order wb2.1 wb2.2.1 wb2.2.2).bind fun y7 =>
    if (!y7.1)=true then
     some (bc.mk y7.1 y7.2.1 y7.2.2.1 y7.2.2.2)
    else
     (gW n).bind fun y9 =>
     some y9
def ql (n:Nat) (j:bc):Option ByteArray:=if bc.beq j ⟨false,2,0,2⟩=true then some ⟨#[111,114,100,101,114,32,48,32,50]⟩ else none
def mA (n:Nat):Option Bool :=
 (lB n false).bind fun y1 =>
 (fT n y1).bind fun y2 =>
 if (bc.beq y2 (bc.mk true 0 (-1) (-1)))=true then
  (lB n true).bind fun y4 =>
  (fT n y4).bind fun y5 =>
  (ql n y5).bind fun y6 =>
  some (y6.toList==(ByteArray.mk #[111,114,100,101,114,32,48,32,50]).toList)
 else
  some false
def jJ (n:Nat) (d:Deps) (most:Int):Option Bool :=
 if (decide ((d.Addr.length:Int)≤most))=true then
  if (decide ((d.Data.length:Int)≤most))=true then
   some (decide ((d.Way.length:Int)≤most))
  else
   some false
 else
  some false
def fh (n:Nat) (l:(List Event)) (sa:Int):Option (Int⊕(Unit⊕Unit)) :=
 if (decide (sa<(l.length:Int)))=true then
  (av l sa).bind fun xa2 =>
  (jJ n xa2.Deps 60).bind fun ya3 =>
  if (!ya3)=true then
   some (.inr (.inr ()))
  else
   some (.inl (af .i64 sa 1))
 else
  some (.inr (.inl ()))
def fA (n:Nat) (l:(List Event)) (most:Int):Option Bool :=
 if (decide ((l.length:Int)>most))=true then
  some false
 else
  (iter (fun s=>fh n l s) n 0).bind fun t2 =>
  match t2 with
  | .inl w3 =>
   some true
  | .inr w3 =>
   some false
def gn (n:Nat) (c:ae) (most:Int) (sa:Int×Int):Option ((Int×Int)⊕(Int⊕Unit)) :=
 if (decide (sa.2<(c.Harts.length:Int)))=true then
  if (decide (sa.2<10))=true then
   (av c.Harts sa.2).bind fun xa3 =>
   (fA n xa3 most).bind fun ya4 =>
   if (!ya4)=true then
    some (.inr (.inr ()))
   else
    some (.inl ((af .i64 sa.1 (xa3.length:Int)),(af .i64 sa.2 1)))
  else
   some (.inr (.inl sa.1))
 else
  some (.inr (.inl sa.1))
def gL (n:Nat) (c:ae) (most:Int):Option Bool :=
 (iter (fun s=>gn n c most s) n (0,0)).bind fun t1 =>
 match t1 with
 | .inl w2 =>
  if (decide ((c.Harts.length:Int)≤9))=true then
   if (decide (w2≤most))=true then
    if (decide ((c.First.length:Int)≤most))=true then
     if (decide ((c.From.length:Int)≤(mr .i64 2 most)))=true then
      some (decide ((c.Order.length:Int)≤(mr .i64 2 most)))
     else
      some false
    else
     some false
   else
    some false
  else
   some false
 | .inr w2 =>
  some false
def mB (n:Nat) (c:ae):Option Bool :=
 (fT n c).bind fun y1 =>
 some y1.OK
def ku (n:Nat) (l:(List Cell)) (sa:Int):Option (Int⊕(Unit⊕Unit)) :=
 if (decide (sa<(l.length:Int)))=true then
  (av l sa).bind fun xa2 =>
  if ((kI .u64 xa2.Addr 8) != 0)=true then
   some (.inr (.inr ()))
  else
   if (decide (sa>0))=true then
    (av l (cj .i64 sa 1)).bind fun xa5 =>
    if (decide (xa5.Addr≥xa2.Addr))=true then
     some (.inr (.inr ()))
    else
     some (.inl (af .i64 sa 1))
   else
    some (.inl (af .i64 sa 1))
 else
  some (.inr (.inl ()))
def jf (n:Nat) (l:(List Cell)):Option Bool :=
 (iter (fun s=>ku n l s) n 0).bind fun t1 =>
 match t1 with
 | .inl w2 =>
  some true
 | .inr w2 =>
  some false
def jg (n:Nat) (e:Event):Option Bool :=
 if (e.Kind==1)=true then
  some true
 else
  if (e.Kind==3)=true then
   some true
  else
   some (e.Kind==5)
def fj (n:Nat) (e:Event):Option Bool :=
 if (e.Kind==2)=true then
  some true
 else
  if (e.Kind==4)=true then
   some true
  else
   some (e.Kind==5)
def fU (n:Nat) (e:Event):Option Bool :=
 (jg n e).bind fun y1 =>
 if y1=true then
  some true
 else
  (fj n e).bind fun y3 =>
  some y3
def dM (n:Nat) (l:(List Int)) (sa:Int):Option (Int⊕(Unit⊕Unit)) :=
 if (decide (sa<(l.length:Int)))=true then
  (av l sa).bind fun xa2 =>
  if (decide (xa2<0))=true then
   some (.inr (.inr ()))
  else
   if (decide (sa>0))=true then
    (av l (cj .i64 sa 1)).bind fun xa5 =>
    if (decide (xa5≥xa2))=true then
     some (.inr (.inr ()))
    else
     some (.inl (af .i64 sa 1))
   else
    some (.inl (af .i64 sa 1))
 else
  some (.inr (.inl ()))
def kL (n:Nat) (l:(List Int)):Option Bool :=
 (iter (fun s=>dM n l s) n 0).bind fun t1 =>
 match t1 with
 | .inl w2 =>
  some true
 | .inr w2 =>
  some false
def jh (n:Nat) (l:(List Int)) (at_:Int):Option Bool :=
 (kL n l).bind fun y1 =>
 if y1=true then
  if ((l.length:Int)==0)=true then
   some true
  else
   (av l (cj .i64 (l.length:Int) 1)).bind fun x4 =>
   some (decide (x4<at_))
 else
  some false
def aw (n:Nat) (sa:Bool):Option Int :=
 if (!sa)=true then
  some 2
 else
  some 0
def bG (n:Nat) (e:Event) (sd:Bool):Option Bool :=
 if sd=true then
  (jh n e.Deps.Addr e.At).bind fun yd2 =>
  if yd2=true then
   (jh n e.Deps.Data e.At).bind fun yd4 =>
   if yd4=true then
    (jh n e.Deps.Way e.At).bind fun yd6 =>
    if yd6=true then
     (fj n e).bind fun yd8 =>
     if yd8=true then
      some true
     else
      some ((e.Deps.Data.length:Int)==0)
    else
     some false
   else
    some false
  else
   some false
 else
  some false
def ca (n:Nat) (e:Event) (sb:Bool):Option Bool :=
 if sb=true then
  if (e.Kind==4)=true then
   if (decide (e.Pair≥0))=true then
    if (decide (e.Pair<e.At))=true then
     (bG n e true).bind fun tb5 =>
     some tb5
    else
     if (e.Kind != 4)=true then
      (bG n e (e.Pair==0)).bind fun tb6 =>
      some tb6
     else
      (bG n e false).bind fun tb6 =>
      some tb6
   else
    if (e.Kind != 4)=true then
     (bG n e (e.Pair==0)).bind fun tb5 =>
     some tb5
    else
     (bG n e false).bind fun tb5 =>
     some tb5
  else
   if (e.Kind != 4)=true then
    (bG n e (e.Pair==0)).bind fun tb4 =>
    some tb4
   else
    (bG n e false).bind fun tb4 =>
    some tb4
 else
  (bG n e false).bind fun tb2 =>
  some tb2
def aX (n:Nat) (e:Event) (sa:Bool):Option Bool :=
 if sa=true then
  if (e.Kind != 1)=true then
   if (e.Kind != 2)=true then
    (ca n e true).bind fun ta4 =>
    some ta4
   else
    if (!e.Aq)=true then
     (ca n e (!e.Rl)).bind fun ta5 =>
     some ta5
    else
     (ca n e false).bind fun ta5 =>
     some ta5
  else
   if (!e.Aq)=true then
    (ca n e (!e.Rl)).bind fun ta4 =>
    some ta4
   else
    (ca n e false).bind fun ta4 =>
    some ta4
 else
  (ca n e false).bind fun ta2 =>
  some ta2
def eG (n:Nat) (e:Event):Option Int :=
 if (decide (e.Hart≥0))=true then
  if (decide (e.Hart<8))=true then
   if (e.Kind==6)=true then
    if (decide (e.At≥0))=true then
     if (e.Addr==0)=true then
      if (e.Load==0)=true then
       if (e.Store==0)=true then
        if (!e.Aq)=true then
         if (!e.Rl)=true then
          if (e.Pair==0)=true then
           if ((af .i64 (af .i64 (e.Deps.Addr.length:Int) (e.Deps.Data.length:Int)) (e.Deps.Way.length:Int))==0)=true then
            if (decide (e.Pred≥0))=true then
             if (decide (e.Pred≤15))=true then
              if (decide (e.Succ≥0))=true then
               (aw n (decide (e.Succ≤15))).bind fun t15 =>
               some t15
              else
               (aw n false).bind fun t15 =>
               some t15
             else
              (aw n false).bind fun t14 =>
              some t14
            else
             (aw n false).bind fun t13 =>
             some t13
           else
            (aw n false).bind fun t12 =>
            some t12
          else
           (aw n false).bind fun t11 =>
           some t11
         else
          (aw n false).bind fun t10 =>
          some t10
        else
         (aw n false).bind fun t9 =>
         some t9
       else
        (aw n false).bind fun t8 =>
        some t8
      else
       (aw n false).bind fun t7 =>
       some t7
     else
      (aw n false).bind fun t6 =>
      some t6
    else
     (aw n false).bind fun t5 =>
     some t5
   else
    if (decide (e.At≥0))=true then
     (fU n e).bind fun y5 =>
     if y5=true then
      if ((kI .u64 e.Addr 8)==0)=true then
       (jg n e).bind fun y8 =>
       if y8=true then
        (fj n e).bind fun y10 =>
        if y10=true then
         if (e.Pred==0)=true then
          (aX n e (e.Succ==0)).bind fun t13 =>
          (aw n t13).bind fun t14 =>
          some t14
         else
          (aX n e false).bind fun t13 =>
          (aw n t13).bind fun t14 =>
          some t14
        else
         if (e.Store==0)=true then
          if (e.Pred==0)=true then
           (aX n e (e.Succ==0)).bind fun t14 =>
           (aw n t14).bind fun t15 =>
           some t15
          else
           (aX n e false).bind fun t14 =>
           (aw n t14).bind fun t15 =>
           some t15
         else
          (aX n e false).bind fun t13 =>
          (aw n t13).bind fun t14 =>
          some t14
       else
        if (e.Load==0)=true then
         (fj n e).bind fun y11 =>
         if y11=true then
          if (e.Pred==0)=true then
           (aX n e (e.Succ==0)).bind fun t14 =>
           (aw n t14).bind fun t15 =>
           some t15
          else
           (aX n e false).bind fun t14 =>
           (aw n t14).bind fun t15 =>
           some t15
         else
          if (e.Store==0)=true then
           if (e.Pred==0)=true then
            (aX n e (e.Succ==0)).bind fun t15 =>
            (aw n t15).bind fun t16 =>
            some t16
           else
            (aX n e false).bind fun t15 =>
            (aw n t15).bind fun t16 =>
            some t16
          else
           (aX n e false).bind fun t14 =>
           (aw n t14).bind fun t15 =>
           some t15
        else
         (aX n e false).bind fun t11 =>
         (aw n t11).bind fun t12 =>
         some t12
      else
       (aX n e false).bind fun t8 =>
       (aw n t8).bind fun t9 =>
       some t9
     else
      (aX n e false).bind fun t7 =>
      (aw n t7).bind fun t8 =>
      some t8
    else
     (aX n e false).bind fun t5 =>
     (aw n t5).bind fun t6 =>
     some t6
  else
   if (e.Kind==6)=true then
    (aw n false).bind fun t4 =>
    some t4
   else
    (aX n e false).bind fun t4 =>
    (aw n t4).bind fun t5 =>
    some t5
 else
  if (e.Kind==6)=true then
   (aw n false).bind fun t3 =>
   some t3
  else
   (aX n e false).bind fun t3 =>
   (aw n t3).bind fun t4 =>
   some t4
def kM (n:Nat) (hart:Int) (l:(List Event)) (xa2:Event) (xa8:Event) (sb:Int×Bool×Int×Int):Option ((Int×Bool×Int×Int)⊕((Int×Bool×Int)⊕Unit)) :=
 if (decide (sb.2.2.2<sb.2.2.1))=true then
  (av l sb.2.2.2).bind fun xb2 =>
  if (xb2.Kind==3)=true then
   some (.inr (.inr ()))
  else
   if (xb2.Kind==4)=true then
    some (.inr (.inr ()))
   else
    some (.inl (sb.1,sb.2.1,sb.2.2.1,(af .i64 sb.2.2.2 1)))
 else
  some (.inr (.inl (sb.1,sb.2.1,sb.2.2.1)))
def kN (n:Nat) (hart:Int) (l:(List Event)) (sa:Int):Option (Int⊕(Unit⊕Unit)) :=
 if (decide (sa<(l.length:Int)))=true then
  (av l sa).bind fun xa2 =>
  (eG n xa2).bind fun ya3 =>
  if (ya3 != 0)=true then
   some (.inr (.inr ()))
  else
   if (xa2.Hart != hart)=true then
    some (.inr (.inr ()))
   else
    if (xa2.At != sa)=true then
     some (.inr (.inr ()))
    else
     if (xa2.Kind != 4)=true then
      some (.inl (af .i64 sa 1))
     else
      (av l xa2.Pair).bind fun xa8 =>
      if (xa8.Kind != 3)=true then
       some (.inr (.inr ()))
      else
       if (xa8.Addr != xa2.Addr)=true then
        some (.inr (.inr ()))
       else
        (iter (fun s=>kM n hart l xa2 xa8 s) n (sa,(xa2.At != sa),sa,(af .i64 xa2.Pair 1))).bind fun ta11 =>
        match ta11 with
        | .inl wa12 =>
         some (.inl (af .i64 wa12.2.2 1))
        | .inr wa12 =>
         some (.inr (.inr ()))
 else
  some (.inr (.inl ()))
def lG (n:Nat) (hart:Int) (l:(List Event)):Option Int :=
 (iter (fun s=>kN n hart l s) n 0).bind fun t1 =>
 match t1 with
 | .inl w2 =>
  some 0
 | .inr w2 =>
  some 4
def nT (n:Nat) (d:Deps):Option Deps :=
 grd (Nat.ble (d.Addr.length * 8) 140737488355328) <|
 grd (Nat.ble (d.Data.length * 8) 140737488355328) <|
 grd (Nat.ble (d.Way.length * 8) 140737488355328) <|
 some d
def lH (n:Nat) (c:ae) (sb:(List Event)×Int×Int):Option (((List Event)×Int×Int)⊕((List Event)×Int)) :=
 (av c.Harts sb.2.1).bind fun xb1 =>
 if (decide (sb.2.2<(xb1.length:Int)))=true then
  (av xb1 sb.2.2).bind fun xb3 =>
  (nT n xb3.Deps).bind fun yb4 =>
  grd (Nat.ble ((sb.1.length + 1) * 152) 140737488355328) <|
  some (.inl ((sb.1++([(Event.mk xb3.Hart xb3.At xb3.Kind xb3.Addr xb3.Load xb3.Store xb3.Aq xb3.Rl xb3.Pred xb3.Succ xb3.Pair yb4)]:List Event)),sb.2.1,(af .i64 sb.2.2 1)))
 else
  some (.inr (sb.1,sb.2.1))
def lI (n:Nat) (c:ae) (sa:(List Event)×Int):Option (((List Event)×Int)⊕((List Event))) :=
 if (decide (sa.2<(c.Harts.length:Int)))=true then
  (iter (fun s=>lH n c s) n (sa.1,sa.2,0)).bind fun ta2 =>
  some (.inl (ta2.1,(af .i64 ta2.2 1)))
 else
  some (.inr sa.1)
def jS (n:Nat) (c:ae):Option (List Event) :=
 (iter (fun s=>lI n c s) n (([]:List Event),0)).bind fun t1 =>
 some t1
def kw (n:Nat) (l:(List Cell)) (addr:Int) (sa:Int):Option (Int⊕(Unit⊕Int)) :=
 if (decide (sa<(l.length:Int)))=true then
  (av l sa).bind fun xa2 =>
  if (xa2.Addr==addr)=true then
   some (.inr (.inr xa2.Value))
  else
   some (.inl (af .i64 sa 1))
 else
  some (.inr (.inl ()))
def kD (n:Nat) (l:(List Cell)) (addr:Int):Option Int :=
 (iter (fun s=>kw n l addr s) n 0).bind fun t1 =>
 match t1 with
 | .inl w2 =>
  some 0
 | .inr w2 =>
  some w2
def di (n:Nat) (c:ae) (all:(List Event)) (n_:Int):Option Bool :=
 (av all n_).bind fun x1 =>
 (av c.From n_).bind fun x2 =>
 (jg n x1).bind fun y3 =>
 if (!y3)=true then
  some (x2==(-1))
 else
  if (x2==(-1))=true then
   (kD n c.First x1.Addr).bind fun y6 =>
   some (x1.Load==y6)
  else
   if (decide (x2<0))=true then
    some false
   else
    if (decide (x2≥(all.length:Int)))=true then
     some false
    else
     if (x2==n_)=true then
      some false
     else
      (av all x2).bind fun x9 =>
      (fj n x9).bind fun y10 =>
      if y10=true then
       if (x9.Addr==x1.Addr)=true then
        some (x9.Store==x1.Load)
       else
        some false
      else
       some false
def iB (n:Nat) (c:ae) (sa:Int×Int):Option ((Int×Int)⊕(Int⊕Unit)) :=
 if (decide (sa.2<(c.Harts.length:Int)))=true then
  (av c.Harts sa.2).bind fun xa2 =>
  if (decide ((af .i64 sa.1 (xa2.length:Int))>4096))=true then
   some (.inr (.inr ()))
  else
   (lG n sa.2 xa2).bind fun ya4 =>
   if (ya4 != 0)=true then
    some (.inr (.inr ()))
   else
    some (.inl ((af .i64 sa.1 (xa2.length:Int)),(af .i64 sa.2 1)))
 else
  some (.inr (.inl sa.1))
def iC (n:Nat) (c:ae) (w6:Int) (y7:(List Event)) (sa:Int×Int):Option ((Int×Int)⊕(Int⊕Unit)) :=
 if (decide (sa.2<w6))=true then
  (di n c y7 sa.2).bind fun ya2 =>
  if (!ya2)=true then
   some (.inr (.inr ()))
  else
   (av y7 sa.2).bind fun xa4 =>
   (fU n xa4).bind fun ya5 =>
   if ya5=true then
    some (.inl ((af .i64 sa.1 1),(af .i64 sa.2 1)))
   else
    some (.inl (sa.1,(af .i64 sa.2 1)))
 else
  some (.inr (.inl sa.1))
def iD (n:Nat) (c:ae) (w6:Int) (y7:(List Event)) (w10:Int) (sa:(List Bool)×Int):Option (((List Bool)×Int)⊕(Unit⊕Unit)) :=
 if (decide (sa.2<(c.Order.length:Int)))=true then
  (av c.Order sa.2).bind fun xa2 =>
  if (decide (xa2<0))=true then
   some (.inr (.inr ()))
  else
   if (decide (xa2≥w6))=true then
    some (.inr (.inr ()))
   else
    (av sa.1 xa2).bind fun xa5 =>
    if xa5=true then
     some (.inr (.inr ()))
    else
     (av y7 xa2).bind fun xa7 =>
     (fU n xa7).bind fun ya8 =>
     if (!ya8)=true then
      some (.inr (.inr ()))
     else
      some (.inl ((sa.1.set (xa2).toNat true),(af .i64 sa.2 1)))
 else
  some (.inr (.inl ()))
def fG (n:Nat) (c:ae):Option Int :=
 (jf n c.First).bind fun y1 =>
 if (!y1)=true then
  some 2
 else
  if (decide ((c.Harts.length:Int)<1))=true then
   some 2
  else
   if (decide ((c.Harts.length:Int)>8))=true then
    some 2
   else
    (iter (fun s=>iB n c s) n (0,0)).bind fun t5 =>
    match t5 with
    | .inl w6 =>
     (jS n c).bind fun y7 =>
     if ((c.From.length:Int) != w6)=true then
      some 2
     else
      (iter (fun s=>iC n c w6 y7 s) n (0,0)).bind fun t9 =>
      match t9 with
      | .inl w10 =>
       grd (decide ((0:Int)≤w6)&&decide (w6≤w6)&&decide (1 * w6≤140737488355328)&&decide (w6≤140737488355328)&&Nat.blt 0 1) <|
       (iter (fun s=>iD n c w6 y7 w10 s) n ((List.replicate (w6).toNat false),0)).bind fun t12 =>
       match t12 with
       | .inl w13 =>
        if ((c.Order.length:Int) != w10)=true then
         some 2
        else
         some 0
       | .inr w13 =>
        some 2
      | .inr w10 =>
       some 2
    | .inr w6 =>
     some 2
def uZ (n:Nat) (c:ae):Option (List Event) :=
 (fG n c).bind fun y1 =>
 if (y1 != 0)=true then
  some ([]:List Event)
 else
  (jS n c).bind fun y3 =>
  some y3
def c_ (n:Nat) (n_:Int) (oA:(List Cell)) (oB:(List (List Event))) (oC:(List Int)) (oD:(List Int)) (oE:(List (Int×(List Int)))) (oF:(List Event)) (oG:(List Int)) (x1:Event) (sa:(List Int)×Int):Option (((List Int)×Int)⊕(Unit⊕Int)) :=
 if (decide (sa.2≥0))=true then
  (av sa.1 sa.2).bind fun xa2 =>
  (av oF xa2).bind fun xa3 =>
  if (xa2 != n_)=true then
   (av oG xa2).bind fun xa5 =>
   (av oG n_).bind fun xa6 =>
   if (decide (xa5<xa6))=true then
    some (.inr (.inr xa2))
   else
    if (xa3.Hart==x1.Hart)=true then
     if (decide (xa3.At<x1.At))=true then
      some (.inr (.inr xa2))
     else
      some (.inl (sa.1,(cj .i64 sa.2 1)))
    else
     some (.inl (sa.1,(cj .i64 sa.2 1)))
  else
   some (.inl (sa.1,(cj .i64 sa.2 1)))
 else
  some (.inr (.inl ()))
def eh (n:Nat) (n_:Int) (oA:(List Cell)) (oB:(List (List Event))) (oC:(List Int)) (oD:(List Int)) (oE:(List (Int×(List Int)))) (oF:(List Event)) (oG:(List Int)):Option Int :=
 (av oF n_).bind fun x1 =>
 iu (j6 fc oE x1.Addr) (
  (iter (fun s=>c_ n n_ oA oB oC oD oE oF oG x1 s) n (([]:List Int),(-1))).bind fun t3 =>
  match t3 with
  | .inl w4 =>
   some (-1)
  | .inr w4 =>
   some w4) fun z2 =>
  (iter (fun s=>c_ n n_ oA oB oC oD oE oF oG x1 s) n (z2,(cj .i64 (z2.length:Int) 1))).bind fun t4 =>
  match t4 with
  | .inl w5 =>
   some (-1)
  | .inr w5 =>
   some w5
def gp (n:Nat) (c:ae) (n_:Int):Option Int :=
 (fS n c.First c.Harts c.From c.Order).bind fun y1 =>
 match y1 with
 | .inl wa2 =>
  some (-1)
 | .inr wb2 =>
  if (decide (n_<0))=true then
   some (-1)
  else
   if (decide (n_≥(wb2.2.1.length:Int)))=true then
    some (-1)
   else
    (av wb2.2.1 n_).bind fun x5 =>
    (bI n x5).bind fun y6 =>
    if (!y6)=true then
     some (-1)
    else
     (eh n n_ c.First c.Harts c.From c.Order wb2.1 wb2.2.1 wb2.2.2).bind fun y8 =>
     some y8
def mC (n:Nat) (n_:Int) (m:Int):Option Int :=
 if (decide (m<1))=true then
  some 0
 else
  grd (decide (IntKind.i64=IntKind.i64)&&!(m==0)) <|
  if (decide ((kI .i64 n_ m)<0))=true then
   some (af .i64 (kI .i64 n_ m) m)
  else
   some (kI .i64 n_ m)
def iE (n:Nat) (l:(List Cell)):Option (List Cell) :=
 grd (Nat.ble (l.length * 16) 140737488355328) <|
 some l
def fH (n:Nat) (l:(List Int)):Option Unit :=
 grd (Nat.ble (l.length * 8) 140737488355328) <|
 some ()
def eW (n:Nat) (l:(List Int)) (oA:(List Int)):Option Unit :=
 grd (Nat.ble (l.length * 8) 140737488355328) <|
 some ()
def iF (n:Nat) (l:(List Int)) (oA:(List Int)) (oB:(List Int)):Option Unit :=
 grd (Nat.ble (l.length * 8) 140737488355328) <|
 some ()
def jT (n:Nat) (d:Deps):Option Deps :=
 (fH n d.Addr).bind fun y1 =>
 (eW n d.Data d.Addr).bind fun y2 =>
 (iF n d.Way d.Addr d.Data).bind fun y3 =>
 some d
def iG (n:Nat) (e:Event):Option Event :=
 (jT n e.Deps).bind fun y1 =>
 some (Event.mk e.Hart e.At e.Kind e.Addr e.Load e.Store e.Aq e.Rl e.Pred e.Succ e.Pair y1)
def gq (n:Nat) (l:(List Event)) (sa:(List Event)×Int):Option (((List Event)×Int)⊕((List Event))) :=
 if (decide (sa.2<(l.length:Int)))=true then
  (av l sa.2).bind fun xa2 =>
  (iG n xa2).bind fun ya3 =>
  grd (Nat.ble ((sa.1.length + 1) * 152) 140737488355328) <|
  some (.inl ((sa.1++([ya3]:List Event)),(af .i64 sa.2 1)))
 else
  some (.inr sa.1)
def eH (n:Nat) (l:(List Event)):Option (List Event) :=
 (iter (fun s=>gq n l s) n (([]:List Event),0)).bind fun t1 =>
 some t1
def gr (n:Nat) (c:ae) (y1:(List Cell)) (sa:(List (List Event))×Int):Option (((List (List Event))×Int)⊕((List (List Event)))) :=
 if (decide (sa.2<(c.Harts.length:Int)))=true then
  (av c.Harts sa.2).bind fun xa2 =>
  (eH n xa2).bind fun ya3 =>
  grd (Nat.ble ((sa.1.length + 1) * 24) 140737488355328) <|
  some (.inl ((sa.1++([ya3]:List (List Event))),(af .i64 sa.2 1)))
 else
  some (.inr sa.1)
def gM (n:Nat) (c:ae):Option ((List Cell)×(List Int)×(List Int)×(List (List Event))) :=
 (iE n c.First).bind fun y1 =>
 (fH n c.From).bind fun y2 =>
 (eW n c.Order c.From).bind fun y3 =>
 (iter (fun s=>gr n c y1 s) n (([]:List (List Event)),0)).bind fun t4 =>
 some (y1,c.From,c.Order,t4)
def eT (n:Nat) (c:ae) (n_:Int) (from_:Int) (y8:(List Event)) (sa:Int):Option (Int⊕(Unit⊕Unit)) :=
 if (decide (sa<(y8.length:Int)))=true then
  (gp n c sa).bind fun ya2 =>
  (av c.From sa).bind fun xa3 =>
  if (ya2 != xa3)=true then
   some (.inr (.inr ()))
  else
   some (.inl (af .i64 sa 1))
 else
  some (.inr (.inl ()))
def eX (n:Nat) (c:ae) (n_:Int) (from_:Int):Option Bool :=
 (mA n).bind fun y1 =>
 if (!y1)=true then
  some false
 else
  (gL n c 30).bind fun y3 =>
  if (!y3)=true then
   some true
  else
   (mB n c).bind fun y5 =>
   if (!y5)=true then
    some true
   else
    if ((c.From.length:Int)==0)=true then
     some true
    else
     (uZ n c).bind fun y8 =>
     (iter (fun s=>eT n c n_ from_ y8 s) n 0).bind fun t9 =>
     match t9 with
     | .inl w10 =>
      (mC n n_ (c.From.length:Int)).bind fun y11 =>
      (gM n c).bind fun y12 =>
      (mC n from_ (af .i64 (c.From.length:Int) 1)).bind fun y13 =>
      (av y12.2.1 y11).bind fun x14 =>
      (av (y12.2.1.set (y11).toNat (cj .i64 y13 1)) y11).bind fun x15 =>
      (av c.From y11).bind fun x16 =>
      if (x15==x16)=true then
       some true
      else
       (fG n (ae.mk y12.1 y12.2.2.2 (y12.2.1.set (y11).toNat (cj .i64 y13 1)) y12.2.2.1)).bind fun y18 =>
       if (y18 != 0)=true then
        some true
       else
        (mB n (ae.mk y12.1 y12.2.2.2 (y12.2.1.set (y11).toNat (cj .i64 y13 1)) y12.2.2.1)).bind fun y20 =>
        some (!y20)
     | .inr w10 =>
      some false

end Go.Proofs.YtomahedcdcnnhaaGreatDoor
