/- What the functions compute, as functions on lists and numbers. Printed by a program from the code; nothing is claimed here. -/
import Derived.Test.YtcckeabholabcaaM0
namespace Go.Proofs.Ytcckeabholabcaa
open Go A
set_option linter.unusedVariables false

structure Cell where
  mk ::
  Addr:Int
  Value:Int
structure Deps where
  mk ::
  Addr:(List Int)
  Data:(List Int)
  Way:(List Int)
structure Event where
  mk ::
  Hart:Int
  At:Int
  Kind:Int
  Addr:Int
  Load:Int
  Store:Int
  Aq:Bool
  Rl:Bool
  Pred:Int
  Succ:Int
  Pair:Int
  Deps:Deps
structure aS where
  mk ::
  First:(List Cell)
  Harts:(List (List Event))
  From:(List Int)
  Order:(List Int)
structure bo where
  mk ::
  hart:Int
  at_:Int
  kind:Int
  pred:Int
  succ:Int
  pair:Int
  addr:Int
  load:Int
  store:Int
  aq:Bool
  rl:Bool
def Cell.beq (x y:Cell):Bool:=((x.Addr==y.Addr)&&(x.Value==y.Value))
theorem Cell.beq_eq {x y:Cell} (h:Cell.beq x y=true):x=y:=by
  obtain ⟨a1,a2⟩:=x
  obtain ⟨b3,b4⟩:=y
  unfold Cell.beq at h
  simp only [Bool.and_eq_true,beq_iff_eq] at h
  simp_all
theorem Cell.beq_refl (x:Cell):Cell.beq x x=true:=by
  unfold Cell.beq
  simp
def bo.beq (x y:bo):Bool:=((x.hart==y.hart)&&((x.at_==y.at_)&&((x.kind==y.kind)&&((x.pred==y.pred)&&((x.succ==y.succ)&&((x.pair==y.pair)&&((x.addr==y.addr)&&((x.load==y.load)&&((x.store==y.store)&&((x.aq==y.aq)&&(x.rl==y.rl)))))))))))
theorem bo.beq_eq {x y:bo} (h:bo.beq x y=true):x=y:=by
  obtain ⟨a5,a6,a7,a8,a9,a10,a11,a12,a13,a14,a15⟩:=x
  obtain ⟨Ki,b17,b18,b19,b20,b21,b22,b23,b24,b25,b26⟩:=y
  unfold bo.beq at h
  simp only [Bool.and_eq_true,beq_iff_eq] at h
  simp_all
theorem bo.beq_refl (x:bo):bo.beq x x=true:=by
  unfold bo.beq
  simp
def Cell.wf (x:Cell):Prop:=(vw .u64 x.Addr)∧(vw .u64 x.Value)
def Deps.wf (x:Deps):Prop:=(x.Addr.length≤maxLen∧∀ z∈x.Addr,vw .i64 z)∧(x.Data.length≤maxLen∧∀ z∈x.Data,vw .i64 z)∧(x.Way.length≤maxLen∧∀ z∈x.Way,vw .i64 z)
def Event.wf (x:Event):Prop:=(vw .i64 x.Hart)∧(vw .i64 x.At)∧(vw .i64 x.Kind)∧(vw .u64 x.Addr)∧(vw .u64 x.Load)∧(vw .u64 x.Store)∧(True)∧(True)∧(vw .i64 x.Pred)∧(vw .i64 x.Succ)∧(vw .i64 x.Pair)∧(Deps.wf x.Deps)
def aS.wf (x:aS):Prop:=(x.First.length≤maxLen∧∀ z∈x.First,Cell.wf z)∧(x.Harts.length≤maxLen∧∀ z∈x.Harts,z.length≤maxLen∧∀ zz∈z,Event.wf zz)∧(x.From.length≤maxLen∧∀ z∈x.From,vw .i64 z)∧(x.Order.length≤maxLen∧∀ z∈x.Order,vw .i64 z)
def km (n:Nat) (from_:Int):Option aS :=
 some (aS.mk ([]:List Cell) ([([(Event.mk 0 0 2 8 0 1 false false 0 0 0 (Deps.mk ([]:List Int) ([]:List Int) ([]:List Int)))]:List Event),([(Event.mk 1 0 1 8 1 0 false false 0 0 0 (Deps.mk ([]:List Int) ([]:List Int) ([]:List Int)))]:List Event)]:List (List Event)) ([(-1),from_]:List Int) ([0,1]:List Int))
def iM (n:Nat) (l:(List Cell)) (sa:Int):Option (Int⊕(Unit⊕Unit)) :=
 if (decide (sa<(l.length:Int)))=true then
  (aN l sa).bind fun xa2 =>
  if ((ya .u64 xa2.Addr 8) != 0)=true then
   some (.inr (.inr ()))
  else
   if (decide (sa>0))=true then
    (aN l (aj .i64 sa 1)).bind fun xa5 =>
    if (decide (xa5.Addr≥xa2.Addr))=true then
     some (.inr (.inr ()))
    else
     some (.inl (ae .i64 sa 1))
   else
    some (.inl (ae .i64 sa 1))
 else
  some (.inr (.inl ()))
def iB (n:Nat) (l:(List Cell)):Option Bool :=
 (iter (fun s=>iM n l s) n 0).bind fun t1 =>
 match t1 with
 | .inl w2 =>
  some true
 | .inr w2 =>
  some false
def jD (n:Nat) (kind:Int):Option Int :=
 if (decide (kind<1))=true then
  some 0
 else
  if (decide (kind>6))=true then
   some 0
  else
   if (kind==0)=true then
    some 0
   else
    if (kind==1)=true then
     some 1
    else
     if (kind==2)=true then
      some 2
     else
      if (kind==3)=true then
       some 5
      else
       if (kind==4)=true then
        some 14
       else
        if (kind==5)=true then
         some 7
        else
         if (kind==6)=true then
          some 16
         else
          none
def bD (n:Nat) (s1_:(List Int)) (s2_:(List Int)) (sa:Int):Option (Int⊕(Unit⊕Unit)) :=
 if (decide (sa<(s1_.length:Int)))=true then
  (aN s1_ sa).bind fun xa2 =>
  (aN s2_ sa).bind fun xa3 =>
  if (xa2 != xa3)=true then
   some (.inr (.inr ()))
  else
   some (.inl (ae .i64 sa 1))
 else
  some (.inr (.inl ()))
def cJ (n:Nat) (s1_:(List Int)) (s2_:(List Int)):Option Bool :=
 if ((s1_.length:Int) != (s2_.length:Int))=true then
  some false
 else
  (iter (fun s=>bD n s1_ s2_ s) n 0).bind fun t2 =>
  match t2 with
  | .inl w3 =>
   some true
  | .inr w3 =>
   some false
def jt (n:Nat) (e:Event):Option bo :=
 some (bo.mk e.Hart e.At e.Kind e.Pred e.Succ e.Pair e.Addr e.Load e.Store e.Aq e.Rl)
def lj (n:Nat) (a:Event) (b:Event):Option Bool :=
 (cJ n a.Deps.Addr b.Deps.Addr).bind fun y1 =>
 if (!y1)=true then
  some false
 else
  (cJ n a.Deps.Data b.Deps.Data).bind fun y3 =>
  if (!y3)=true then
   some false
  else
   (cJ n a.Deps.Way b.Deps.Way).bind fun y5 =>
   if (!y5)=true then
    some false
   else
    (jt n a).bind fun y7 =>
    (jt n b).bind fun y8 =>
    if (bo.beq y7 y8)=true then
     some true
    else
     some false
def cZ (n:Nat) (l:(List Int)) (sa:Int×Int):Option ((Int×Int)⊕(Unit⊕Unit)) :=
 if (decide (sa.2<(l.length:Int)))=true then
  (aN l sa.2).bind fun xa2 =>
  if (decide (xa2≤sa.1))=true then
   some (.inr (.inr ()))
  else
   some (.inl (xa2,(ae .i64 sa.2 1)))
 else
  some (.inr (.inl ()))
def ju (n:Nat) (l:(List Int)):Option Bool :=
 (iter (fun s=>cZ n l s) n ((-1),0)).bind fun t1 =>
 match t1 with
 | .inl w2 =>
  some true
 | .inr w2 =>
  some false
def ek (n:Nat) (l:(List Int)) (at_:Int):Option Bool :=
 (ju n l).bind fun y1 =>
 if y1=true then
  if ((l.length:Int)==0)=true then
   some true
  else
   (aN l (aj .i64 (l.length:Int) 1)).bind fun x4 =>
   some (decide (x4<at_))
 else
  some false
def cX (n:Nat) (e:Event) (y1:Int) (sf:Int×(List Int)×(List Int)×(List Int)×Int×Int×Int×Bool×Bool×Int×Int):Option Int :=
 if (y1==0)=true then
  some 2
 else
  if (decide (e.Hart<0))=true then
   some 2
  else
   if (decide (e.Hart≥8))=true then
    some 2
   else
    if (decide (e.At<0))=true then
     some 2
    else
     (lj n (Event.mk e.Hart e.At e.Kind sf.2.2.2.2.1 sf.2.2.2.2.2.1 sf.2.2.2.2.2.2.1 sf.2.2.2.2.2.2.2.1 sf.2.2.2.2.2.2.2.2.1 sf.2.2.2.2.2.2.2.2.2.1 sf.2.2.2.2.2.2.2.2.2.2 sf.1 (Deps.mk sf.2.1 sf.2.2.1 sf.2.2.2.1)) e).bind fun yf5 =>
     if (!yf5)=true then
      some 2
     else
      if ((ya .u64 e.Addr 8) != 0)=true then
       some 2
      else
       if (decide (e.Pred<0))=true then
        some 2
       else
        if (decide (e.Pred>15))=true then
         some 2
        else
         if (decide (e.Succ<0))=true then
          some 2
         else
          if (decide (e.Succ>15))=true then
           some 2
          else
           if ((ch .u64 y1 8) != 0)=true then
            if (decide (e.Pair<0))=true then
             some 2
            else
             if (decide (e.Pair≥e.At))=true then
              some 2
             else
              (ek n e.Deps.Addr e.At).bind fun yf15 =>
              if (!yf15)=true then
               some 2
              else
               (ek n e.Deps.Data e.At).bind fun yf17 =>
               if (!yf17)=true then
                some 2
               else
                (ek n e.Deps.Way e.At).bind fun yf19 =>
                if (!yf19)=true then
                 some 2
                else
                 some 0
           else
            (ek n e.Deps.Addr e.At).bind fun yf13 =>
            if (!yf13)=true then
             some 2
            else
             (ek n e.Deps.Data e.At).bind fun yf15 =>
             if (!yf15)=true then
              some 2
             else
              (ek n e.Deps.Way e.At).bind fun yf17 =>
              if (!yf17)=true then
               some 2
              else
               some 0
def dw (n:Nat) (e:Event) (y1:Int) (se:(List Int)×(List Int)×(List Int)×Int×Int×Int×Bool×Bool×Int×Int):Option Int :=
 if ((ch .u64 y1 8) != 0)=true then
  (cX n e y1 (e.Pair,se.1,se.2.1,se.2.2.1,se.2.2.2.1,se.2.2.2.2.1,se.2.2.2.2.2.1,se.2.2.2.2.2.2.1,se.2.2.2.2.2.2.2.1,se.2.2.2.2.2.2.2.2.1,se.2.2.2.2.2.2.2.2.2)).bind fun te2 =>
  some te2
 else
  (cX n e y1 (0,se.1,se.2.1,se.2.2.1,se.2.2.2.1,se.2.2.2.2.1,se.2.2.2.2.2.1,se.2.2.2.2.2.2.1,se.2.2.2.2.2.2.2.1,se.2.2.2.2.2.2.2.2.1,se.2.2.2.2.2.2.2.2.2)).bind fun te2 =>
  some te2
def dx (n:Nat) (e:Event) (y1:Int) (sd:(List Int)×(List Int)×(List Int)×Int×Int×Int×Int×Int):Option Int :=
 if ((ch .u64 y1 4) != 0)=true then
  (dw n e y1 (sd.1,sd.2.1,sd.2.2.1,sd.2.2.2.1,sd.2.2.2.2.1,sd.2.2.2.2.2.1,e.Aq,e.Rl,sd.2.2.2.2.2.2.1,sd.2.2.2.2.2.2.2)).bind fun td2 =>
  some td2
 else
  (dw n e y1 (sd.1,sd.2.1,sd.2.2.1,sd.2.2.2.1,sd.2.2.2.2.1,sd.2.2.2.2.2.1,false,false,sd.2.2.2.2.2.2.1,sd.2.2.2.2.2.2.2)).bind fun td2 =>
  some td2
def dy (n:Nat) (e:Event) (y1:Int) (sb:(List Int)×(List Int)×Int×Int×Int×Int):Option Int :=
 if ((ch .u64 y1 2) != 0)=true then
  (dx n e y1 (sb.1,e.Deps.Data,sb.2.1,sb.2.2.1,sb.2.2.2.1,e.Store,sb.2.2.2.2.1,sb.2.2.2.2.2)).bind fun tb2 =>
  some tb2
 else
  (dx n e y1 (sb.1,([]:List Int),sb.2.1,sb.2.2.1,sb.2.2.2.1,0,sb.2.2.2.2.1,sb.2.2.2.2.2)).bind fun tb2 =>
  some tb2
def dz (n:Nat) (e:Event) (y1:Int) (sa:(List Int)×(List Int)×Int×Int×Int):Option Int :=
 if ((ch .u64 y1 1) != 0)=true then
  (dy n e y1 (sa.1,sa.2.1,sa.2.2.1,e.Load,sa.2.2.2.1,sa.2.2.2.2)).bind fun ta2 =>
  some ta2
 else
  (dy n e y1 (sa.1,sa.2.1,sa.2.2.1,0,sa.2.2.2.1,sa.2.2.2.2)).bind fun ta2 =>
  some ta2
def iV (n:Nat) (e:Event):Option Int :=
 (jD n e.Kind).bind fun y1 =>
 if ((ch .u64 y1 16) != 0)=true then
  (dz n e y1 (([]:List Int),([]:List Int),0,e.Pred,e.Succ)).bind fun t3 =>
  some t3
 else
  (dz n e y1 (e.Deps.Addr,e.Deps.Way,e.Addr,0,0)).bind fun t3 =>
  some t3
def g0 (n:Nat) (hart:Int) (l:(List Event)) (sa:Int×Int):Option ((Int×Int)⊕(Unit⊕Unit)) :=
 if (decide (sa.1<(l.length:Int)))=true then
  (aN l sa.1).bind fun xa2 =>
  (iV n xa2).bind fun ya3 =>
  if (ya3 != 0)=true then
   some (.inr (.inr ()))
  else
   if (xa2.Hart != hart)=true then
    some (.inr (.inr ()))
   else
    if (xa2.At != sa.1)=true then
     some (.inr (.inr ()))
    else
     if (xa2.Kind==3)=true then
      some (.inl ((ae .i64 sa.1 1),sa.1))
     else
      if (xa2.Kind==4)=true then
       if (xa2.Pair != sa.2)=true then
        some (.inr (.inr ()))
       else
        (aN l sa.2).bind fun xa10 =>
        if (xa10.Addr != xa2.Addr)=true then
         some (.inr (.inr ()))
        else
         some (.inl ((ae .i64 sa.1 1),(-1)))
      else
       some (.inl ((ae .i64 sa.1 1),sa.2))
 else
  some (.inr (.inl ()))
def iC (n:Nat) (hart:Int) (l:(List Event)):Option Int :=
 (iter (fun s=>g0 n hart l s) n (0,(-1))).bind fun t1 =>
 match t1 with
 | .inl w2 =>
  some 0
 | .inr w2 =>
  some 4
def b6 (n:Nat) (n_:Int):Option ((Nat×Nat×Nat×(List Event))⊕Unit) :=
 if (decide (n_<0))=true then
  none
 else
  if (decide ((aj .i64 n_ 0)>0))=true then
   grd (Nat.blt 0 14&&Nat.blt 0 152&&decide (0<(aj .i64 n_ 0))&&decide ((aj .i64 n_ 0) * 152≤140737488355328)&&decide ((aj .i64 n_ 0)≤140737488355328)) <|
   grd (decide ((0:Int)≤0)&&decide (0≤(((aj .i64 n_ 0)).toNat:Int))) <|
   some (.inl (0,0,((aj .i64 n_ 0)).toNat,(List.replicate ((aj .i64 n_ 0)).toNat (Event.mk 0 0 0 0 0 0 false false 0 0 0 (Deps.mk ([]:List Int) ([]:List Int) ([]:List Int))))))
  else
   some (.inr ())
def bQ (n:Nat) (slices:(List (List Event))) (sa:Int×Int):Option ((Int×Int)⊕Int) :=
 if (decide (sa.1<(slices.length:Int)))=true then
  (aN slices sa.1).bind fun xa2 =>
  if (decide ((ae .i64 sa.2 (xa2.length:Int))<0))=true then
   none
  else
   some (.inl ((ae .i64 sa.1 1),(ae .i64 sa.2 (xa2.length:Int))))
 else
  some (.inr sa.2)
def bR (n:Nat) (slices:(List (List Event))) (wa3:Nat×Nat×Nat×(List Event)) (sa:Nat×Nat×(List Event)×Int):Option ((Nat×Nat×(List Event)×Int)⊕(Nat×Nat×(List Event))) :=
 if (decide (sa.2.2.2<(slices.length:Int)))=true then
  (aN slices sa.2.2.2).bind fun xa2 =>
  grd (Nat.ble xa2.length sa.2.1) <|
  grd (Nat.ble (wa3.1 + sa.1 + sa.2.1) sa.2.2.1.length) <|
  some (.inl ((sa.1 + xa2.length),(sa.2.1 - xa2.length),(sa.2.2.1.take (wa3.1 + sa.1)++(xa2++sa.2.2.1.drop (wa3.1 + sa.1 + xa2.length))),(ae .i64 sa.2.2.2 1)))
 else
  some (.inr (sa.1,sa.2.1,sa.2.2.1))
def bn (n:Nat) (slices:(List (List Event))) (sa:(List Event)×Int):Option (((List Event)×Int)⊕((List Event))) :=
 if (decide (sa.2<(slices.length:Int)))=true then
  (aN slices sa.2).bind fun xa2 =>
  grd (Nat.ble ((sa.1.length + xa2.length) * 152) 140737488355328) <|
  some (.inl ((sa.1++xa2),(ae .i64 sa.2 1)))
 else
  some (.inr sa.1)
def bG (n:Nat) (slices:(List (List Event))):Option (List Event) :=
 (iter (fun s=>bQ n slices s) n (0,0)).bind fun t1 =>
 (b6 n t1).bind fun y2 =>
 match y2 with
 | .inl wa3 =>
  (iter (fun s=>bR n slices wa3 s) n (wa3.2.1,wa3.2.2.1,wa3.2.2.2,0)).bind fun t4 =>
  some ((t4.2.2.drop wa3.1).take t4.1)
 | .inr wb3 =>
  (iter (fun s=>bn n slices s) n (([]:List Event),0)).bind fun t4 =>
  some t4
def gL (n:Nat) (oA:(List Cell)) (oB:(List (List Event))) (oC:(List Int)) (oD:(List Int)):Option (List Event) :=
 (bG n oB).bind fun y1 =>
 some y1
def iW (n:Nat) (e:Event):Option Bool :=
 (jD n e.Kind).bind fun y1 =>
 some ((ch .u64 y1 1) != 0)
def di (n:Nat) (x:Int):Option Bool :=
 some (x != x)
def eN (n:Nat) (x:Int) (y:Int):Option Int :=
 (di n x).bind fun y1 =>
 (di n y).bind fun y2 =>
 if y1=true then
  if y2=true then
   some 0
  else
   some (-1)
 else
  if y2=true then
   some 1
  else
   if (decide (x<y))=true then
    some (-1)
   else
    if (decide (x>y))=true then
     some 1
    else
     some 0
def g8 (n:Nat) (x:Cell) (a:Int):Option Int :=
 (eN n x.Addr a).bind fun y1 =>
 some y1
def aE (n:Nat) (x:(List Cell)) (target:Int) (sa:Int×Int):Option ((Int×Int)⊕Int) :=
 if (decide (sa.2<sa.1))=true then
  (aN x (IntKind.wrap .i64 (bY .u64 (IntKind.wrap .u64 (ae .i64 sa.2 sa.1)) 1))).bind fun xa2 =>
  (g8 n xa2 target).bind fun ya3 =>
  if (decide (ya3<0))=true then
   some (.inl (sa.1,(ae .i64 (IntKind.wrap .i64 (bY .u64 (IntKind.wrap .u64 (ae .i64 sa.2 sa.1)) 1)) 1)))
  else
   some (.inl ((IntKind.wrap .i64 (bY .u64 (IntKind.wrap .u64 (ae .i64 sa.2 sa.1)) 1)),sa.2))
 else
  some (.inr sa.2)
def bI (n:Nat) (x:(List Cell)) (target:Int):Option (Int×Bool) :=
 (iter (fun s=>aE n x target s) n ((x.length:Int),0)).bind fun t1 =>
 if (decide (t1<(x.length:Int)))=true then
  (aN x t1).bind fun x3 =>
  (g8 n x3 target).bind fun y4 =>
  some (t1,(y4==0))
 else
  some (t1,false)
def jM (n:Nat) (l:(List Cell)) (addr:Int):Option Int :=
 (bI n l addr).bind fun y1 =>
 if (!y1.2)=true then
  some 0
 else
  (aN l y1.1).bind fun x3 =>
  some x3.Value
def eO (n:Nat) (e:Event):Option Bool :=
 (jD n e.Kind).bind fun y1 =>
 some ((ch .u64 y1 2) != 0)
def eJ (n:Nat) (c:aS) (all:(List Event)) (n_:Int):Option Bool :=
 (aN all n_).bind fun x1 =>
 (aN c.From n_).bind fun x2 =>
 (iW n x1).bind fun y3 =>
 if (!y3)=true then
  some (x2==(-1))
 else
  if (x2==(-1))=true then
   (jM n c.First x1.Addr).bind fun y6 =>
   some (x1.Load==y6)
  else
   if (decide (x2<0))=true then
    some false
   else
    if (decide (x2≥(all.length:Int)))=true then
     some false
    else
     if (x2==n_)=true then
      some false
     else
      (aN all x2).bind fun x9 =>
      (eO n x9).bind fun y10 =>
      if y10=true then
       if (x9.Addr==x1.Addr)=true then
        some (x9.Store==x1.Load)
       else
        some false
      else
       some false
def g9 (n:Nat) (e:Event):Option Bool :=
 (iW n e).bind fun y1 =>
 if y1=true then
  some true
 else
  (eO n e).bind fun y3 =>
  some y3
def e6 (n:Nat) (c:aS) (all:(List Event)) (sa:(List Bool)×Int×Int):Option (((List Bool)×Int×Int)⊕((List Bool)×Int)) :=
 if (decide (sa.2.1<(all.length:Int)))=true then
  (aN all sa.2.1).bind fun xa2 =>
  (g9 n xa2).bind fun ya3 =>
  if ya3=true then
   (aN sa.1 sa.2.1).bind fun xa5 =>
   some (.inl ((sa.1.set (sa.2.1).toNat true),(ae .i64 sa.2.1 1),(ae .i64 sa.2.2 1)))
  else
   some (.inl (sa.1,(ae .i64 sa.2.1 1),sa.2.2))
 else
  some (.inr (sa.1,sa.2.2))
def e7 (n:Nat) (c:aS) (sa:(List Bool)×Int×Int):Option (((List Bool)×Int×Int)⊕(Int⊕Unit)) :=
 if (decide (sa.2.1<(c.Order.length:Int)))=true then
  (aN c.Order sa.2.1).bind fun xa2 =>
  if (decide (xa2<0))=true then
   some (.inr (.inr ()))
  else
   if (decide (xa2≥(sa.1.length:Int)))=true then
    some (.inr (.inr ()))
   else
    (aN sa.1 xa2).bind fun xa5 =>
    if (!xa5)=true then
     some (.inr (.inr ()))
    else
     some (.inl ((sa.1.set (xa2).toNat false),(ae .i64 sa.2.1 1),(aj .i64 sa.2.2 1)))
 else
  some (.inr (.inl sa.2.2))
def eo (n:Nat) (c:aS) (all:(List Event)):Option Bool :=
 grd (decide ((0:Int)≤(all.length:Int))&&decide ((all.length:Int)≤(all.length:Int))&&decide (1 * (all.length:Int)≤140737488355328)&&decide ((all.length:Int)≤140737488355328)&&Nat.blt 0 1) <|
 (iter (fun s=>e6 n c all s) n ((List.replicate ((all.length:Int)).toNat false),0,0)).bind fun t2 =>
 (iter (fun s=>e7 n c s) n (t2.1,0,t2.2)).bind fun t3 =>
 match t3 with
 | .inl w4 =>
  some (w4==0)
 | .inr w4 =>
  some false
def fg (n:Nat) (c:aS) (sa:Int×Int):Option ((Int×Int)⊕(Int⊕Unit)) :=
 if (decide (sa.1<(c.Harts.length:Int)))=true then
  (aN c.Harts sa.1).bind fun xa2 =>
  if (decide ((ae .i64 sa.2 (xa2.length:Int))>4096))=true then
   some (.inr (.inr ()))
  else
   (iC n sa.1 xa2).bind fun ya4 =>
   if (ya4 != 0)=true then
    some (.inr (.inr ()))
   else
    some (.inl ((ae .i64 sa.1 1),(ae .i64 sa.2 (xa2.length:Int))))
 else
  some (.inr (.inl sa.2))
def gg (n:Nat) (c:aS) (y7:(List Event)) (sa:Int):Option (Int⊕(Unit⊕Unit)) :=
 if (decide (sa<(y7.length:Int)))=true then
  (eJ n c y7 sa).bind fun ya2 =>
  if (!ya2)=true then
   some (.inr (.inr ()))
  else
   some (.inl (ae .i64 sa 1))
 else
  some (.inr (.inl ()))
def dj (n:Nat) (c:aS):Option Int :=
 (iB n c.First).bind fun y1 =>
 if (!y1)=true then
  some 2
 else
  if (decide ((c.Harts.length:Int)<1))=true then
   some 2
  else
   if (decide ((c.Harts.length:Int)>8))=true then
    some 2
   else
    (iter (fun s=>fg n c s) n (0,0)).bind fun t5 =>
    match t5 with
    | .inl w6 =>
     (gL n c.First c.Harts c.From c.Order).bind fun y7 =>
     if ((c.From.length:Int) != w6)=true then
      some 2
     else
      (iter (fun s=>gg n c y7 s) n 0).bind fun t9 =>
      match t9 with
      | .inl w10 =>
       (eo n c y7).bind fun y11 =>
       if (!y11)=true then
        some 2
       else
        some 0
      | .inr w10 =>
       some 2
    | .inr w6 =>
     some 2
def bX (n:Nat) (oA:(List Cell)) (oB:(List (List Event))) (oC:(List Int)) (oD:(List Int)) (oE:(List (Int×Int))):Option Unit :=
 some ()
def lX (n:Nat) (x:Int):Option Int :=
 if (decide (x≥4294967296))=true then
  if (decide ((bY .u64 x 32)≥65536))=true then
   if (decide ((bY .u64 (bY .u64 x 32) 16)≥256))=true then
    (gK (ByteArray.mk #[0,1,2,2,3,3,3,3,4,4,4,4,4,4,4,4,5,5,5,5,5,5,5,5,5,5,5,5,5,5,5,5,6,6,6,6,6,6,6,6,6,6,6,6,6,6,6,6,6,6,6,6,6,6,6,6,6,6,6,6,6,6,6,6,7,7,7,7,7,7,7,7,7,7,7,7,7,7,7,7,7,7,7,7,7,7,7,7,7,7,7,7,7,7,7,7,7,7,7,7,7,7,7,7,7,7,7,7,7,7,7,7,7,7,7,7,7,7,7,7,7,7,7,7,7,7,7,7,8,8,8,8,8,8,8,8,8,8,8,8,8,8,8,8,8,8,8,8,8,8,8,8,8,8,8,8,8,8,8,8,8,8,8,8,8,8,8,8,8,8,8,8,8,8,8,8,8,8,8,8,8,8,8,8,8,8,8,8,8,8,8,8,8,8,8,8,8,8,8,8,8,8,8,8,8,8,8,8,8,8,8,8,8,8,8,8,8,8,8,8,8,8,8,8,8,8,8,8,8,8,8,8,8,8,8,8,8,8,8,8,8,8,8,8,8,8,8,8,8,8,8,8,8,8,8,8]) (IntKind.wrap .u8 (bY .u64 (bY .u64 (bY .u64 x 32) 16) 8))).bind fun x4 =>
    some (ae .i64 56 (IntKind.wrap .i64 x4))
   else
    (gK (ByteArray.mk #[0,1,2,2,3,3,3,3,4,4,4,4,4,4,4,4,5,5,5,5,5,5,5,5,5,5,5,5,5,5,5,5,6,6,6,6,6,6,6,6,6,6,6,6,6,6,6,6,6,6,6,6,6,6,6,6,6,6,6,6,6,6,6,6,7,7,7,7,7,7,7,7,7,7,7,7,7,7,7,7,7,7,7,7,7,7,7,7,7,7,7,7,7,7,7,7,7,7,7,7,7,7,7,7,7,7,7,7,7,7,7,7,7,7,7,7,7,7,7,7,7,7,7,7,7,7,7,7,8,8,8,8,8,8,8,8,8,8,8,8,8,8,8,8,8,8,8,8,8,8,8,8,8,8,8,8,8,8,8,8,8,8,8,8,8,8,8,8,8,8,8,8,8,8,8,8,8,8,8,8,8,8,8,8,8,8,8,8,8,8,8,8,8,8,8,8,8,8,8,8,8,8,8,8,8,8,8,8,8,8,8,8,8,8,8,8,8,8,8,8,8,8,8,8,8,8,8,8,8,8,8,8,8,8,8,8,8,8,8,8,8,8,8,8,8,8,8,8,8,8,8,8,8,8,8,8]) (IntKind.wrap .u8 (bY .u64 (bY .u64 x 32) 16))).bind fun x4 =>
    some (ae .i64 48 (IntKind.wrap .i64 x4))
  else
   if (decide ((bY .u64 x 32)≥256))=true then
    (gK (ByteArray.mk #[0,1,2,2,3,3,3,3,4,4,4,4,4,4,4,4,5,5,5,5,5,5,5,5,5,5,5,5,5,5,5,5,6,6,6,6,6,6,6,6,6,6,6,6,6,6,6,6,6,6,6,6,6,6,6,6,6,6,6,6,6,6,6,6,7,7,7,7,7,7,7,7,7,7,7,7,7,7,7,7,7,7,7,7,7,7,7,7,7,7,7,7,7,7,7,7,7,7,7,7,7,7,7,7,7,7,7,7,7,7,7,7,7,7,7,7,7,7,7,7,7,7,7,7,7,7,7,7,8,8,8,8,8,8,8,8,8,8,8,8,8,8,8,8,8,8,8,8,8,8,8,8,8,8,8,8,8,8,8,8,8,8,8,8,8,8,8,8,8,8,8,8,8,8,8,8,8,8,8,8,8,8,8,8,8,8,8,8,8,8,8,8,8,8,8,8,8,8,8,8,8,8,8,8,8,8,8,8,8,8,8,8,8,8,8,8,8,8,8,8,8,8,8,8,8,8,8,8,8,8,8,8,8,8,8,8,8,8,8,8,8,8,8,8,8,8,8,8,8,8,8,8,8,8,8,8]) (IntKind.wrap .u8 (bY .u64 (bY .u64 x 32) 8))).bind fun x4 =>
    some (ae .i64 40 (IntKind.wrap .i64 x4))
   else
    (gK (ByteArray.mk #[0,1,2,2,3,3,3,3,4,4,4,4,4,4,4,4,5,5,5,5,5,5,5,5,5,5,5,5,5,5,5,5,6,6,6,6,6,6,6,6,6,6,6,6,6,6,6,6,6,6,6,6,6,6,6,6,6,6,6,6,6,6,6,6,7,7,7,7,7,7,7,7,7,7,7,7,7,7,7,7,7,7,7,7,7,7,7,7,7,7,7,7,7,7,7,7,7,7,7,7,7,7,7,7,7,7,7,7,7,7,7,7,7,7,7,7,7,7,7,7,7,7,7,7,7,7,7,7,8,8,8,8,8,8,8,8,8,8,8,8,8,8,8,8,8,8,8,8,8,8,8,8,8,8,8,8,8,8,8,8,8,8,8,8,8,8,8,8,8,8,8,8,8,8,8,8,8,8,8,8,8,8,8,8,8,8,8,8,8,8,8,8,8,8,8,8,8,8,8,8,8,8,8,8,8,8,8,8,8,8,8,8,8,8,8,8,8,8,8,8,8,8,8,8,8,8,8,8,8,8,8,8,8,8,8,8,8,8,8,8,8,8,8,8,8,8,8,8,8,8,8,8,8,8,8,8]) (IntKind.wrap .u8 (bY .u64 x 32))).bind fun x4 =>
    some (ae .i64 32 (IntKind.wrap .i64 x4))
 else
  if (decide (x≥65536))=true then
   if (decide ((bY .u64 x 16)≥256))=true then
    (gK (ByteArray.mk #[0,1,2,2,3,3,3,3,4,4,4,4,4,4,4,4,5,5,5,5,5,5,5,5,5,5,5,5,5,5,5,5,6,6,6,6,6,6,6,6,6,6,6,6,6,6,6,6,6,6,6,6,6,6,6,6,6,6,6,6,6,6,6,6,7,7,7,7,7,7,7,7,7,7,7,7,7,7,7,7,7,7,7,7,7,7,7,7,7,7,7,7,7,7,7,7,7,7,7,7,7,7,7,7,7,7,7,7,7,7,7,7,7,7,7,7,7,7,7,7,7,7,7,7,7,7,7,7,8,8,8,8,8,8,8,8,8,8,8,8,8,8,8,8,8,8,8,8,8,8,8,8,8,8,8,8,8,8,8,8,8,8,8,8,8,8,8,8,8,8,8,8,8,8,8,8,8,8,8,8,8,8,8,8,8,8,8,8,8,8,8,8,8,8,8,8,8,8,8,8,8,8,8,8,8,8,8,8,8,8,8,8,8,8,8,8,8,8,8,8,8,8,8,8,8,8,8,8,8,8,8,8,8,8,8,8,8,8,8,8,8,8,8,8,8,8,8,8,8,8,8,8,8,8,8,8]) (IntKind.wrap .u8 (bY .u64 (bY .u64 x 16) 8))).bind fun x4 =>
    some (ae .i64 24 (IntKind.wrap .i64 x4))
   else
    (gK (ByteArray.mk #[0,1,2,2,3,3,3,3,4,4,4,4,4,4,4,4,5,5,5,5,5,5,5,5,5,5,5,5,5,5,5,5,6,6,6,6,6,6,6,6,6,6,6,6,6,6,6,6,6,6,6,6,6,6,6,6,6,6,6,6,6,6,6,6,7,7,7,7,7,7,7,7,7,7,7,7,7,7,7,7,7,7,7,7,7,7,7,7,7,7,7,7,7,7,7,7,7,7,7,7,7,7,7,7,7,7,7,7,7,7,7,7,7,7,7,7,7,7,7,7,7,7,7,7,7,7,7,7,8,8,8,8,8,8,8,8,8,8,8,8,8,8,8,8,8,8,8,8,8,8,8,8,8,8,8,8,8,8,8,8,8,8,8,8,8,8,8,8,8,8,8,8,8,8,8,8,8,8,8,8,8,8,8,8,8,8,8,8,8,8,8,8,8,8,8,8,8,8,8,8,8,8,8,8,8,8,8,8,8,8,8,8,8,8,8,8,8,8,8,8,8,8,8,8,8,8,8,8,8,8,8,8,8,8,8,8,8,8,8,8,8,8,8,8,8,8,8,8,8,8,8,8,8,8,8,8]) (IntKind.wrap .u8 (bY .u64 x 16))).bind fun x4 =>
    some (ae .i64 16 (IntKind.wrap .i64 x4))
  else
   if (decide (x≥256))=true then
    (gK (ByteArray.mk #[0,1,2,2,3,3,3,3,4,4,4,4,4,4,4,4,5,5,5,5,5,5,5,5,5,5,5,5,5,5,5,5,6,6,6,6,6,6,6,6,6,6,6,6,6,6,6,6,6,6,6,6,6,6,6,6,6,6,6,6,6,6,6,6,7,7,7,7,7,7,7,7,7,7,7,7,7,7,7,7,7,7,7,7,7,7,7,7,7,7,7,7,7,7,7,7,7,7,7,7,7,7,7,7,7,7,7,7,7,7,7,7,7,7,7,7,7,7,7,7,7,7,7,7,7,7,7,7,8,8,8,8,8,8,8,8,8,8,8,8,8,8,8,8,8,8,8,8,8,8,8,8,8,8,8,8,8,8,8,8,8,8,8,8,8,8,8,8,8,8,8,8,8,8,8,8,8,8,8,8,8,8,8,8,8,8,8,8,8,8,8,8,8,8,8,8,8,8,8,8,8,8,8,8,8,8,8,8,8,8,8,8,8,8,8,8,8,8,8,8,8,8,8,8,8,8,8,8,8,8,8,8,8,8,8,8,8,8,8,8,8,8,8,8,8,8,8,8,8,8,8,8,8,8,8,8]) (IntKind.wrap .u8 (bY .u64 x 8))).bind fun x4 =>
    some (ae .i64 8 (IntKind.wrap .i64 x4))
   else
    (gK (ByteArray.mk #[0,1,2,2,3,3,3,3,4,4,4,4,4,4,4,4,5,5,5,5,5,5,5,5,5,5,5,5,5,5,5,5,6,6,6,6,6,6,6,6,6,6,6,6,6,6,6,6,6,6,6,6,6,6,6,6,6,6,6,6,6,6,6,6,7,7,7,7,7,7,7,7,7,7,7,7,7,7,7,7,7,7,7,7,7,7,7,7,7,7,7,7,7,7,7,7,7,7,7,7,7,7,7,7,7,7,7,7,7,7,7,7,7,7,7,7,7,7,7,7,7,7,7,7,7,7,7,7,8,8,8,8,8,8,8,8,8,8,8,8,8,8,8,8,8,8,8,8,8,8,8,8,8,8,8,8,8,8,8,8,8,8,8,8,8,8,8,8,8,8,8,8,8,8,8,8,8,8,8,8,8,8,8,8,8,8,8,8,8,8,8,8,8,8,8,8,8,8,8,8,8,8,8,8,8,8,8,8,8,8,8,8,8,8,8,8,8,8,8,8,8,8,8,8,8,8,8,8,8,8,8,8,8,8,8,8,8,8,8,8,8,8,8,8,8,8,8,8,8,8,8,8,8,8,8,8]) (IntKind.wrap .u8 x)).bind fun x4 =>
    some (ae .i64 0 (IntKind.wrap .i64 x4))
def du (n:Nat) (x:Int):Option Int :=
 (lX n x).bind fun y1 =>
 some y1
def aJ (n:Nat) (x:Int) (y:Int):Option Bool :=
 (di n x).bind fun y1 =>
 if y1=true then
  (di n y).bind fun y3 =>
  if (!y3)=true then
   some true
  else
   some (decide (x<y))
 else
  some (decide (x<y))
def aP (n:Nat) (a:Int) (b:Int) (sb:(List Int)×Int×Int):Option (((List Int)×Int×Int)⊕((List Int)×Int)) :=
 if (decide (sb.2.2>a))=true then
  (aN sb.1 sb.2.2).bind fun xb2 =>
  (aN sb.1 (aj .i64 sb.2.2 1)).bind fun xb3 =>
  (aJ n xb2 xb3).bind fun yb4 =>
  if yb4=true then
   (aN (sb.1.set (sb.2.2).toNat xb3) (aj .i64 sb.2.2 1)).bind fun xb6 =>
   some (.inl (((sb.1.set (sb.2.2).toNat xb3).set ((aj .i64 sb.2.2 1)).toNat xb2),sb.2.1,(aj .i64 sb.2.2 1)))
  else
   some (.inr (sb.1,sb.2.1))
 else
  some (.inr (sb.1,sb.2.1))
def bi (n:Nat) (a:Int) (b:Int) (sa:(List Int)×Int):Option (((List Int)×Int)⊕((List Int))) :=
 if (decide (sa.2<b))=true then
  (iter (fun s=>aP n a b s) n (sa.1,sa.2,sa.2)).bind fun ta2 =>
  some (.inl (ta2.1,(ae .i64 ta2.2 1)))
 else
  some (.inr sa.1)
def bS (n:Nat) (a:Int) (b:Int) (oA:(List Int)):Option (List Int) :=
 (iter (fun s=>bi n a b s) n (oA,(ae .i64 a 1))).bind fun t1 =>
 some t1
def aF (n:Nat) (hi:Int) (first:Int) (sa:(List Int)×Int):Option (((List Int)×Int)⊕(((List Int))⊕((List Int)))) :=
 if (decide ((ae .i64 (cp .i64 2 sa.2) 1)≥hi))=true then
  some (.inr (.inl sa.1))
 else
  if (decide ((ae .i64 (ae .i64 (cp .i64 2 sa.2) 1) 1)<hi))=true then
   (aN sa.1 (ae .i64 first (ae .i64 (cp .i64 2 sa.2) 1))).bind fun xa3 =>
   (aN sa.1 (ae .i64 (ae .i64 first (ae .i64 (cp .i64 2 sa.2) 1)) 1)).bind fun xa4 =>
   (aJ n xa3 xa4).bind fun ya5 =>
   if ya5=true then
    (aN sa.1 (ae .i64 first sa.2)).bind fun xa7 =>
    (aN sa.1 (ae .i64 first (ae .i64 (ae .i64 (cp .i64 2 sa.2) 1) 1))).bind fun xa8 =>
    (aJ n xa7 xa8).bind fun ya9 =>
    if (!ya9)=true then
     some (.inr (.inr sa.1))
    else
     (aN (sa.1.set ((ae .i64 first sa.2)).toNat xa8) (ae .i64 first (ae .i64 (ae .i64 (cp .i64 2 sa.2) 1) 1))).bind fun xa11 =>
     some (.inl (((sa.1.set ((ae .i64 first sa.2)).toNat xa8).set ((ae .i64 first (ae .i64 (ae .i64 (cp .i64 2 sa.2) 1) 1))).toNat xa7),(ae .i64 (ae .i64 (cp .i64 2 sa.2) 1) 1)))
   else
    (aN sa.1 (ae .i64 first sa.2)).bind fun xa7 =>
    (aJ n xa7 xa3).bind fun ya8 =>
    if (!ya8)=true then
     some (.inr (.inr sa.1))
    else
     (aN (sa.1.set ((ae .i64 first sa.2)).toNat xa3) (ae .i64 first (ae .i64 (cp .i64 2 sa.2) 1))).bind fun xa10 =>
     some (.inl (((sa.1.set ((ae .i64 first sa.2)).toNat xa3).set ((ae .i64 first (ae .i64 (cp .i64 2 sa.2) 1))).toNat xa7),(ae .i64 (cp .i64 2 sa.2) 1)))
  else
   (aN sa.1 (ae .i64 first sa.2)).bind fun xa3 =>
   (aN sa.1 (ae .i64 first (ae .i64 (cp .i64 2 sa.2) 1))).bind fun xa4 =>
   (aJ n xa3 xa4).bind fun ya5 =>
   if (!ya5)=true then
    some (.inr (.inr sa.1))
   else
    (aN (sa.1.set ((ae .i64 first sa.2)).toNat xa4) (ae .i64 first (ae .i64 (cp .i64 2 sa.2) 1))).bind fun xa7 =>
    some (.inl (((sa.1.set ((ae .i64 first sa.2)).toNat xa4).set ((ae .i64 first (ae .i64 (cp .i64 2 sa.2) 1))).toNat xa3),(ae .i64 (cp .i64 2 sa.2) 1)))
def bM (n:Nat) (lo:Int) (hi:Int) (first:Int) (oA:(List Int)):Option (List Int) :=
 (iter (fun s=>aF n hi first s) n (oA,lo)).bind fun t1 =>
 match t1 with
 | .inl w2 =>
  some w2
 | .inr w2 =>
  some w2
def aQ (n:Nat) (a:Int) (b:Int) (sa:(List Int)×Int):Option (((List Int)×Int)⊕((List Int))) :=
 if (decide (sa.2≥0))=true then
  (bM n sa.2 (aj .i64 b a) a sa.1).bind fun ya2 =>
  some (.inl (ya2,(aj .i64 sa.2 1)))
 else
  some (.inr sa.1)
def aR (n:Nat) (a:Int) (sa:(List Int)×Int):Option (((List Int)×Int)⊕((List Int))) :=
 if (decide (sa.2≥0))=true then
  (aN sa.1 (ae .i64 a sa.2)).bind fun xa2 =>
  (aN sa.1 a).bind fun xa3 =>
  (aN (sa.1.set (a).toNat xa2) (ae .i64 a sa.2)).bind fun xa4 =>
  (bM n 0 sa.2 a ((sa.1.set (a).toNat xa2).set ((ae .i64 a sa.2)).toNat xa3)).bind fun ya5 =>
  some (.inl (ya5,(aj .i64 sa.2 1)))
 else
  some (.inr sa.1)
def ci (n:Nat) (a:Int) (b:Int) (oA:(List Int)):Option (List Int) :=
 (iter (fun s=>aQ n a b s) n (oA,(fC .i64 (aj .i64 (aj .i64 b a) 1) 2))).bind fun t1 =>
 (iter (fun s=>aR n a s) n (t1,(aj .i64 (aj .i64 b a) 1))).bind fun t2 =>
 some t2
def bE (n:Nat) (a:Int) (b:Int) (oA:(List Int)) (oB:Int):Option (Int×Int×Int) :=
 (aN oA b).bind fun x1 =>
 (aN oA a).bind fun x2 =>
 (aJ n x1 x2).bind fun y3 =>
 if y3=true then
  some (b,a,(ae .i64 oB 1))
 else
  some (a,b,oB)
def bF (n:Nat) (a:Int) (b:Int) (c:Int) (oA:(List Int)) (oB:Int):Option (Int×Int) :=
 (bE n a b oA oB).bind fun y1 =>
 (bE n y1.2.1 c oA y1.2.2).bind fun y2 =>
 (bE n y1.1 y2.1 oA y2.2.2).bind fun y3 =>
 some (y3.2.1,y3.2.2)
def a_ (n:Nat) (a:Int) (oA:(List Int)) (oB:Int):Option (Int×Int) :=
 (bF n (aj .i64 a 1) a (ae .i64 a 1) oA oB).bind fun y1 =>
 some (y1.1,y1.2)
def bC (n:Nat) (a:Int) (b:Int) (oA:(List Int)):Option (Int×Int×Int) :=
 if (decide ((aj .i64 b a)≥8))=true then
  if (decide ((aj .i64 b a)≥50))=true then
   (a_ n (ae .i64 a (cp .i64 (fC .i64 (aj .i64 b a) 4) 1)) oA 0).bind fun y3 =>
   (a_ n (ae .i64 a (cp .i64 (fC .i64 (aj .i64 b a) 4) 2)) oA y3.2).bind fun y4 =>
   (a_ n (ae .i64 a (cp .i64 (fC .i64 (aj .i64 b a) 4) 3)) oA y4.2).bind fun y5 =>
   (bF n y3.1 y4.1 y5.1 oA y5.2).bind fun y6 =>
   if (y6.2==0)=true then
    some (y6.1,1,y6.2)
   else
    if (y6.2==12)=true then
     some (y6.1,2,y6.2)
    else
     some (y6.1,0,y6.2)
  else
   (bF n (ae .i64 a (cp .i64 (fC .i64 (aj .i64 b a) 4) 1)) (ae .i64 a (cp .i64 (fC .i64 (aj .i64 b a) 4) 2)) (ae .i64 a (cp .i64 (fC .i64 (aj .i64 b a) 4) 3)) oA 0).bind fun y3 =>
   if (y3.2==0)=true then
    some (y3.1,1,y3.2)
   else
    if (y3.2==12)=true then
     some (y3.1,2,y3.2)
    else
     some (y3.1,0,y3.2)
 else
  some ((ae .i64 a (cp .i64 (fC .i64 (aj .i64 b a) 4) 2)),1,0)
def bj (n:Nat) (sa:(List Int)×Int×Int):Option (((List Int)×Int×Int)⊕((List Int))) :=
 if (decide (sa.2.1<sa.2.2))=true then
  (aN sa.1 sa.2.2).bind fun xa2 =>
  (aN sa.1 sa.2.1).bind fun xa3 =>
  (aN (sa.1.set (sa.2.1).toNat xa2) sa.2.2).bind fun xa4 =>
  some (.inl (((sa.1.set (sa.2.1).toNat xa2).set (sa.2.2).toNat xa3),(ae .i64 sa.2.1 1),(aj .i64 sa.2.2 1)))
 else
  some (.inr sa.1)
def bW (n:Nat) (a:Int) (b:Int) (oA:(List Int)):Option (List Int) :=
 (iter (fun s=>bj n s) n (oA,a,(aj .i64 b 1))).bind fun t1 =>
 some t1
def aB (n:Nat) (a:Int) (b:Int) (sb:(List Int)×Int×Int):Option (((List Int)×Int×Int)⊕((List Int)×Int×Int)) :=
 if (decide (sb.2.1<b))=true then
  (aN sb.1 sb.2.1).bind fun xb2 =>
  (aN sb.1 (aj .i64 sb.2.1 1)).bind fun xb3 =>
  (aJ n xb2 xb3).bind fun yb4 =>
  if (!yb4)=true then
   some (.inl (sb.1,(ae .i64 sb.2.1 1),sb.2.2))
  else
   some (.inr (sb.1,sb.2.1,sb.2.2))
 else
  some (.inr (sb.1,sb.2.1,sb.2.2))
def au (n:Nat) (a:Int) (b:Int) (sb:(List Int)×Int×Int×Int):Option (((List Int)×Int×Int×Int)⊕((List Int)×Int×Int)) :=
 if (decide (sb.2.2.2≥1))=true then
  (aN sb.1 sb.2.2.2).bind fun xb2 =>
  (aN sb.1 (aj .i64 sb.2.2.2 1)).bind fun xb3 =>
  (aJ n xb2 xb3).bind fun yb4 =>
  if (!yb4)=true then
   some (.inr (sb.1,sb.2.1,sb.2.2.1))
  else
   (aN (sb.1.set (sb.2.2.2).toNat xb3) (aj .i64 sb.2.2.2 1)).bind fun xb6 =>
   some (.inl (((sb.1.set (sb.2.2.2).toNat xb3).set ((aj .i64 sb.2.2.2 1)).toNat xb2),sb.2.1,sb.2.2.1,(aj .i64 sb.2.2.2 1)))
 else
  some (.inr (sb.1,sb.2.1,sb.2.2.1))
def ao (n:Nat) (a:Int) (b:Int) (sb:(List Int)×Int×Int×Int):Option (((List Int)×Int×Int×Int)⊕((List Int)×Int×Int)) :=
 if (decide (sb.2.1<b))=true then
  (aN sb.1 sb.2.1).bind fun xb2 =>
  (aN sb.1 (aj .i64 sb.2.1 1)).bind fun xb3 =>
  (aJ n xb2 xb3).bind fun yb4 =>
  if (!yb4)=true then
   some (.inr (sb.1,sb.2.2.1,sb.2.2.2))
  else
   (aN (sb.1.set (sb.2.1).toNat xb3) (aj .i64 sb.2.1 1)).bind fun xb6 =>
   some (.inl (((sb.1.set (sb.2.1).toNat xb3).set ((aj .i64 sb.2.1 1)).toNat xb2),(ae .i64 sb.2.1 1),sb.2.2.1,sb.2.2.2))
 else
  some (.inr (sb.1,sb.2.2.1,sb.2.2.2))
def av (n:Nat) (a:Int) (b:Int) (sa:(List Int)×Int×Int):Option (((List Int)×Int×Int)⊕(((List Int))⊕((List Int)×Bool))) :=
 if (decide (sa.2.2<5))=true then
  (iter (fun s=>aB n a b s) n (sa.1,sa.2.1,sa.2.2)).bind fun ta2 =>
  if (ta2.2.1==b)=true then
   some (.inr (.inr (ta2.1,true)))
  else
   if (decide ((aj .i64 b a)<50))=true then
    some (.inr (.inr (ta2.1,false)))
   else
    (aN ta2.1 (aj .i64 ta2.2.1 1)).bind fun xa5 =>
    (aN ta2.1 ta2.2.1).bind fun xa6 =>
    (aN (ta2.1.set (ta2.2.1).toNat xa5) (aj .i64 ta2.2.1 1)).bind fun xa7 =>
    if (decide ((aj .i64 ta2.2.1 a)≥2))=true then
     (iter (fun s=>au n a b s) n (((ta2.1.set (ta2.2.1).toNat xa5).set ((aj .i64 ta2.2.1 1)).toNat xa6),ta2.2.1,ta2.2.2,(aj .i64 ta2.2.1 1))).bind fun ta9 =>
     if (decide ((aj .i64 b ta9.2.1)≥2))=true then
      (iter (fun s=>ao n a b s) n (ta9.1,(ae .i64 ta9.2.1 1),ta9.2.1,ta9.2.2)).bind fun ta11 =>
      some (.inl (ta11.1,ta11.2.1,(ae .i64 ta11.2.2 1)))
     else
      some (.inl (ta9.1,ta9.2.1,(ae .i64 ta9.2.2 1)))
    else
     if (decide ((aj .i64 b ta2.2.1)≥2))=true then
      (iter (fun s=>ao n a b s) n (((ta2.1.set (ta2.2.1).toNat xa5).set ((aj .i64 ta2.2.1 1)).toNat xa6),(ae .i64 ta2.2.1 1),ta2.2.1,ta2.2.2)).bind fun ta10 =>
      some (.inl (ta10.1,ta10.2.1,(ae .i64 ta10.2.2 1)))
     else
      some (.inl (((ta2.1.set (ta2.2.1).toNat xa5).set ((aj .i64 ta2.2.1 1)).toNat xa6),ta2.2.1,(ae .i64 ta2.2.2 1)))
 else
  some (.inr (.inl sa.1))
def aY (n:Nat) (a:Int) (b:Int) (oA:(List Int)):Option (Bool×(List Int)) :=
 (iter (fun s=>av n a b s) n (oA,(ae .i64 a 1),0)).bind fun t1 =>
 match t1 with
 | .inl w2 =>
  some (false,w2)
 | .inr w2 =>
  some (w2.2,w2.1)
def bg (n:Nat) (a:Int) (sb:(List Int)×Int×Int):Option (((List Int)×Int×Int)⊕((List Int)×Int×Int)) :=
 if (decide (sb.2.2≤sb.2.1))=true then
  (aN sb.1 a).bind fun xb2 =>
  (aN sb.1 sb.2.2).bind fun xb3 =>
  (aJ n xb2 xb3).bind fun yb4 =>
  if (!yb4)=true then
   some (.inl (sb.1,sb.2.1,(ae .i64 sb.2.2 1)))
  else
   some (.inr (sb.1,sb.2.1,sb.2.2))
 else
  some (.inr (sb.1,sb.2.1,sb.2.2))
def bh (n:Nat) (a:Int) (sb:(List Int)×Int×Int):Option (((List Int)×Int×Int)⊕((List Int)×Int×Int)) :=
 if (decide (sb.2.2≤sb.2.1))=true then
  (aN sb.1 a).bind fun xb2 =>
  (aN sb.1 sb.2.1).bind fun xb3 =>
  (aJ n xb2 xb3).bind fun yb4 =>
  if yb4=true then
   some (.inl (sb.1,(aj .i64 sb.2.1 1),sb.2.2))
  else
   some (.inr (sb.1,sb.2.1,sb.2.2))
 else
  some (.inr (sb.1,sb.2.1,sb.2.2))
def aM (n:Nat) (a:Int) (sa:(List Int)×Int×Int):Option (((List Int)×Int×Int)⊕((List Int)×Int)) :=
 (iter (fun s=>bg n a s) n (sa.1,sa.2.1,sa.2.2)).bind fun ta1 =>
 (iter (fun s=>bh n a s) n (ta1.1,ta1.2.1,ta1.2.2)).bind fun ta2 =>
 if (decide (ta2.2.2>ta2.2.1))=true then
  some (.inr (ta2.1,ta2.2.2))
 else
  (aN ta2.1 ta2.2.1).bind fun xa4 =>
  (aN ta2.1 ta2.2.2).bind fun xa5 =>
  (aN (ta2.1.set (ta2.2.2).toNat xa4) ta2.2.1).bind fun xa6 =>
  some (.inl (((ta2.1.set (ta2.2.2).toNat xa4).set (ta2.2.1).toNat xa5),(aj .i64 ta2.2.1 1),(ae .i64 ta2.2.2 1)))
def bL (n:Nat) (a:Int) (b:Int) (pivot:Int) (oA:(List Int)):Option (Int×(List Int)) :=
 (aN oA pivot).bind fun x1 =>
 (aN oA a).bind fun x2 =>
 (aN (oA.set (a).toNat x1) pivot).bind fun x3 =>
 (iter (fun s=>aM n a s) n (((oA.set (a).toNat x1).set (pivot).toNat x2),(aj .i64 b 1),(ae .i64 a 1))).bind fun t4 =>
 some (t4.2,t4.1)
def bq (n:Nat) (a:Int) (b:Int) (pivot:Int) (oA:(List Int)) (x1:Int) (x2:Int) (sa:Int):Option (Int⊕Int) :=
 if (decide (sa≤(aj .i64 b 1)))=true then
  (aN ((oA.set (a).toNat x1).set (pivot).toNat x2) sa).bind fun xa2 =>
  (aN ((oA.set (a).toNat x1).set (pivot).toNat x2) a).bind fun xa3 =>
  (aJ n xa2 xa3).bind fun ya4 =>
  if ya4=true then
   some (.inl (ae .i64 sa 1))
  else
   some (.inr sa)
 else
  some (.inr sa)
def br (n:Nat) (a:Int) (pivot:Int) (oA:(List Int)) (x1:Int) (x2:Int) (t4:Int) (sa:Int):Option (Int⊕Int) :=
 if (decide (t4≤sa))=true then
  (aN ((oA.set (a).toNat x1).set (pivot).toNat x2) sa).bind fun xa2 =>
  (aN ((oA.set (a).toNat x1).set (pivot).toNat x2) a).bind fun xa3 =>
  (aJ n xa2 xa3).bind fun ya4 =>
  if (!ya4)=true then
   some (.inl (aj .i64 sa 1))
  else
   some (.inr sa)
 else
  some (.inr sa)
def bu (n:Nat) (a:Int) (sb:(List Int)×Int×Int):Option (((List Int)×Int×Int)⊕((List Int)×Int×Int)) :=
 if (decide (sb.2.1≤sb.2.2))=true then
  (aN sb.1 sb.2.1).bind fun xb2 =>
  (aN sb.1 a).bind fun xb3 =>
  (aJ n xb2 xb3).bind fun yb4 =>
  if yb4=true then
   some (.inl (sb.1,(ae .i64 sb.2.1 1),sb.2.2))
  else
   some (.inr (sb.1,sb.2.1,sb.2.2))
 else
  some (.inr (sb.1,sb.2.1,sb.2.2))
def bv (n:Nat) (a:Int) (sb:(List Int)×Int×Int):Option (((List Int)×Int×Int)⊕((List Int)×Int×Int)) :=
 if (decide (sb.2.1≤sb.2.2))=true then
  (aN sb.1 sb.2.2).bind fun xb2 =>
  (aN sb.1 a).bind fun xb3 =>
  (aJ n xb2 xb3).bind fun yb4 =>
  if (!yb4)=true then
   some (.inl (sb.1,sb.2.1,(aj .i64 sb.2.2 1)))
  else
   some (.inr (sb.1,sb.2.1,sb.2.2))
 else
  some (.inr (sb.1,sb.2.1,sb.2.2))
def ba (n:Nat) (a:Int) (sa:(List Int)×Int×Int):Option (((List Int)×Int×Int)⊕((List Int)×Int)) :=
 (iter (fun s=>bu n a s) n (sa.1,sa.2.1,sa.2.2)).bind fun ta1 =>
 (iter (fun s=>bv n a s) n (ta1.1,ta1.2.1,ta1.2.2)).bind fun ta2 =>
 if (decide (ta2.2.1>ta2.2.2))=true then
  some (.inr (ta2.1,ta2.2.2))
 else
  (aN ta2.1 ta2.2.2).bind fun xa4 =>
  (aN ta2.1 ta2.2.1).bind fun xa5 =>
  (aN (ta2.1.set (ta2.2.1).toNat xa4) ta2.2.2).bind fun xa6 =>
  some (.inl (((ta2.1.set (ta2.2.1).toNat xa4).set (ta2.2.2).toNat xa5),(ae .i64 ta2.2.1 1),(aj .i64 ta2.2.2 1)))
def ce (n:Nat) (a:Int) (b:Int) (pivot:Int) (oA:(List Int)):Option (Int×Bool×(List Int)) :=
 (aN oA pivot).bind fun x1 =>
 (aN oA a).bind fun x2 =>
 (aN (oA.set (a).toNat x1) pivot).bind fun x3 =>
 (iter (fun s=>bq n a b pivot oA x1 x2 s) n (ae .i64 a 1)).bind fun t4 =>
 (iter (fun s=>br n a pivot oA x1 x2 t4 s) n (aj .i64 b 1)).bind fun t5 =>
 if (decide (t4>t5))=true then
  (aN ((oA.set (a).toNat x1).set (pivot).toNat x2) a).bind fun x7 =>
  (aN ((oA.set (a).toNat x1).set (pivot).toNat x2) t5).bind fun x8 =>
  (aN (((oA.set (a).toNat x1).set (pivot).toNat x2).set (t5).toNat x7) a).bind fun x9 =>
  some (t5,true,((((oA.set (a).toNat x1).set (pivot).toNat x2).set (t5).toNat x7).set (a).toNat x8))
 else
  (aN ((oA.set (a).toNat x1).set (pivot).toNat x2) t5).bind fun x7 =>
  (aN ((oA.set (a).toNat x1).set (pivot).toNat x2) t4).bind fun x8 =>
  (aN (((oA.set (a).toNat x1).set (pivot).toNat x2).set (t4).toNat x7) t5).bind fun x9 =>
  (iter (fun s=>ba n a s) n (((((oA.set (a).toNat x1).set (pivot).toNat x2).set (t4).toNat x7).set (t5).toNat x8),(ae .i64 t4 1),(aj .i64 t5 1))).bind fun t10 =>
  (aN t10.1 a).bind fun x11 =>
  (aN t10.1 t10.2).bind fun x12 =>
  (aN (t10.1.set (t10.2).toNat x11) a).bind fun x13 =>
  some (t10.2,false,((t10.1.set (t10.2).toNat x11).set (a).toNat x12))
def ca (n:Nat) (length:Int):Option Int :=
 (du n (IntKind.wrap .u64 length)).bind fun y1 =>
 if (y1==0)=true then
  some 1
 else
  if (y1==1)=true then
   some 2
  else
   if (y1==2)=true then
    some 4
   else
    if (y1==3)=true then
     some 8
    else
     if (y1==4)=true then
      some 16
     else
      if (y1==5)=true then
       some 32
      else
       if (y1==6)=true then
        some 64
       else
        if (y1==7)=true then
         some 128
        else
         if (y1==8)=true then
          some 256
         else
          if (y1==9)=true then
           some 512
          else
           if (y1==10)=true then
            some 1024
           else
            if (y1==11)=true then
             some 2048
            else
             none
def eP (n:Nat) (oA:(List Int)) (oB:Int):Option (Int×Int) :=
 some ((fD .u64 (fD .u64 (fD .u64 oB (jh .u64 oB 13)) (bY .u64 (fD .u64 oB (jh .u64 oB 13)) 7)) (jh .u64 (fD .u64 (fD .u64 oB (jh .u64 oB 13)) (bY .u64 (fD .u64 oB (jh .u64 oB 13)) 7)) 17)),(fD .u64 (fD .u64 (fD .u64 oB (jh .u64 oB 13)) (bY .u64 (fD .u64 oB (jh .u64 oB 13)) 7)) (jh .u64 (fD .u64 (fD .u64 oB (jh .u64 oB 13)) (bY .u64 (fD .u64 oB (jh .u64 oB 13)) 7)) 17)))
def ay (n:Nat) (a:Int) (b:Int) (y2:Int) (sa:(List Int)×Int×Int):Option (((List Int)×Int×Int)⊕((List Int))) :=
 if (decide (sa.2.2≤(ae .i64 (ae .i64 a (cp .i64 (fC .i64 (aj .i64 b a) 4) 2)) 1)))=true then
  (eP n sa.1 sa.2.1).bind fun ya2 =>
  if (decide ((IntKind.wrap .i64 (ch .u64 ya2.1 (aj .u64 y2 1)))≥(aj .i64 b a)))=true then
   (aN sa.1 (ae .i64 a (aj .i64 (IntKind.wrap .i64 (ch .u64 ya2.1 (aj .u64 y2 1))) (aj .i64 b a)))).bind fun xa4 =>
   (aN sa.1 sa.2.2).bind fun xa5 =>
   (aN (sa.1.set (sa.2.2).toNat xa4) (ae .i64 a (aj .i64 (IntKind.wrap .i64 (ch .u64 ya2.1 (aj .u64 y2 1))) (aj .i64 b a)))).bind fun xa6 =>
   some (.inl (((sa.1.set (sa.2.2).toNat xa4).set ((ae .i64 a (aj .i64 (IntKind.wrap .i64 (ch .u64 ya2.1 (aj .u64 y2 1))) (aj .i64 b a)))).toNat xa5),ya2.2,(ae .i64 sa.2.2 1)))
  else
   (aN sa.1 (ae .i64 a (IntKind.wrap .i64 (ch .u64 ya2.1 (aj .u64 y2 1))))).bind fun xa4 =>
   (aN sa.1 sa.2.2).bind fun xa5 =>
   (aN (sa.1.set (sa.2.2).toNat xa4) (ae .i64 a (IntKind.wrap .i64 (ch .u64 ya2.1 (aj .u64 y2 1))))).bind fun xa6 =>
   some (.inl (((sa.1.set (sa.2.2).toNat xa4).set ((ae .i64 a (IntKind.wrap .i64 (ch .u64 ya2.1 (aj .u64 y2 1))))).toNat xa5),ya2.2,(ae .i64 sa.2.2 1)))
 else
  some (.inr sa.1)
def bT (n:Nat) (a:Int) (b:Int) (oA:(List Int)):Option (List Int) :=
 if (decide ((aj .i64 b a)≥8))=true then
  (ca n (aj .i64 b a)).bind fun y2 =>
  (iter (fun s=>ay n a b y2 s) n (oA,(IntKind.wrap .u64 (aj .i64 b a)),(aj .i64 (ae .i64 a (cp .i64 (fC .i64 (aj .i64 b a) 4) 2)) 1))).bind fun t3 =>
  some t3
 else
  some oA
def b8 (n:Nat) (rc_:Int→Int→Int→(List Int)→Option (List Int)) (yg1:(Int×Bool×(List Int))) (sh:Int×Int×Int×Int):Option ((List Int)×Int×Int×Int×Bool) :=
 if (decide ((aj .i64 yg1.1 sh.1)<(aj .i64 sh.2.2.1 yg1.1)))=true then
  (rc_ sh.1 yg1.1 sh.2.2.2 yg1.2.2).bind fun yh2 =>
  some (yh2,(ae .i64 yg1.1 1),sh.2.2.1,sh.2.2.2,(decide ((aj .i64 yg1.1 sh.1)≥(fC .i64 sh.2.1 8))))
 else
  (rc_ (ae .i64 yg1.1 1) sh.2.2.1 sh.2.2.2 yg1.2.2).bind fun yh2 =>
  some (yh2,sh.1,yg1.1,sh.2.2.2,(decide ((aj .i64 sh.2.2.1 yg1.1)≥(fC .i64 sh.2.1 8))))
def aU (n:Nat) (rc_:Int→Int→Int→(List Int)→Option (List Int)) (sg:(List Int)×Int×Int×Int×Int×Int):Option ((List Int)×Int×Int×Int×Bool×Bool) :=
 (ce n sg.2.1 sg.2.2.2.2.1 sg.2.2.2.1 sg.1).bind fun yg1 =>
 (b8 n rc_ yg1 (sg.2.1,sg.2.2.1,sg.2.2.2.2.1,sg.2.2.2.2.2)).bind fun tg2 =>
 some (tg2.1,tg2.2.1,tg2.2.2.1,tg2.2.2.2.1,tg2.2.2.2.2,yg1.2.1)
def ak (n:Nat) (rc_:Int→Int→Int→(List Int)→Option (List Int)) (sf:(List Int)×Int×Int×Int×Int×Int×Bool×Bool):Option (((List Int)×Int×Int×Int×Int×Int×Bool×Int×Int×Int×Bool×Bool×Bool)⊕((List Int)×Int×Int×Int×Bool×Bool)) :=
 if (decide (sf.2.1>0))=true then
  (aN sf.1 (aj .i64 sf.2.1 1)).bind fun xf2 =>
  (aN sf.1 sf.2.2.2.1).bind fun xf3 =>
  (aJ n xf2 xf3).bind fun yf4 =>
  if (!yf4)=true then
   (bL n sf.2.1 sf.2.2.2.2.1 sf.2.2.2.1 sf.1).bind fun yf6 =>
   some (.inl (yf6.2,yf6.1,sf.2.2.2.2.1,sf.2.2.2.2.2.1,sf.2.1,(aj .i64 sf.2.1 1),sf.2.2.2.2.2.2.1,xf2,sf.2.2.2.1,xf3,yf4,!yf4,sf.2.2.2.2.2.2.2))
  else
   (aU n rc_ (sf.1,sf.2.1,sf.2.2.1,sf.2.2.2.1,sf.2.2.2.2.1,sf.2.2.2.2.2.1)).bind fun tf6 =>
   some (.inr (tf6.1,tf6.2.1,tf6.2.2.1,tf6.2.2.2.1,tf6.2.2.2.2.1,tf6.2.2.2.2.2))
 else
  (aU n rc_ (sf.1,sf.2.1,sf.2.2.1,sf.2.2.2.1,sf.2.2.2.2.1,sf.2.2.2.2.2.1)).bind fun tf2 =>
  some (.inr (tf2.1,tf2.2.1,tf2.2.2.1,tf2.2.2.2.1,tf2.2.2.2.2.1,tf2.2.2.2.2.2))
def aV (n:Nat) (rc_:Int→Int→Int→(List Int)→Option (List Int)) (se:(List Int)×Int×Int×Int×Int×Int×Int×Bool×Bool):Option (((List Int)×Int×Int×Int×Int×Int×Bool×Int×Int×Int×Bool×Bool×Bool)⊕(((List Int)×Int×Int×Int×Bool×Bool)⊕((List Int)))) :=
 if se.2.2.2.2.2.2.2.1=true then
  if se.2.2.2.2.2.2.2.2=true then
   if (se.2.2.2.2.1==1)=true then
    (aY n se.2.1 se.2.2.2.2.2.1 se.1).bind fun ye4 =>
    if ye4.1=true then
     some (.inr (.inr ye4.2))
    else
     (ak n rc_ (ye4.2,se.2.1,se.2.2.1,se.2.2.2.1,se.2.2.2.2.2.1,se.2.2.2.2.2.2.1,se.2.2.2.2.2.2.2.1,se.2.2.2.2.2.2.2.2)).bind fun te6 =>
     match te6 with
     | .inl we7 =>
      some (.inl (we7.1,we7.2.1,we7.2.2.1,we7.2.2.2.1,we7.2.2.2.2.1,we7.2.2.2.2.2.1,we7.2.2.2.2.2.2.1,we7.2.2.2.2.2.2.2.1,we7.2.2.2.2.2.2.2.2.1,we7.2.2.2.2.2.2.2.2.2.1,we7.2.2.2.2.2.2.2.2.2.2.1,we7.2.2.2.2.2.2.2.2.2.2.2.1,we7.2.2.2.2.2.2.2.2.2.2.2.2))
     | .inr we7 =>
      some (.inr (.inl (we7.1,we7.2.1,we7.2.2.1,we7.2.2.2.1,we7.2.2.2.2.1,we7.2.2.2.2.2)))
   else
    (ak n rc_ (se.1,se.2.1,se.2.2.1,se.2.2.2.1,se.2.2.2.2.2.1,se.2.2.2.2.2.2.1,se.2.2.2.2.2.2.2.1,se.2.2.2.2.2.2.2.2)).bind fun te4 =>
    match te4 with
    | .inl we5 =>
     some (.inl (we5.1,we5.2.1,we5.2.2.1,we5.2.2.2.1,we5.2.2.2.2.1,we5.2.2.2.2.2.1,we5.2.2.2.2.2.2.1,we5.2.2.2.2.2.2.2.1,we5.2.2.2.2.2.2.2.2.1,we5.2.2.2.2.2.2.2.2.2.1,we5.2.2.2.2.2.2.2.2.2.2.1,we5.2.2.2.2.2.2.2.2.2.2.2.1,we5.2.2.2.2.2.2.2.2.2.2.2.2))
    | .inr we5 =>
     some (.inr (.inl (we5.1,we5.2.1,we5.2.2.1,we5.2.2.2.1,we5.2.2.2.2.1,we5.2.2.2.2.2)))
  else
   (ak n rc_ (se.1,se.2.1,se.2.2.1,se.2.2.2.1,se.2.2.2.2.2.1,se.2.2.2.2.2.2.1,se.2.2.2.2.2.2.2.1,se.2.2.2.2.2.2.2.2)).bind fun te3 =>
   match te3 with
   | .inl we4 =>
    some (.inl (we4.1,we4.2.1,we4.2.2.1,we4.2.2.2.1,we4.2.2.2.2.1,we4.2.2.2.2.2.1,we4.2.2.2.2.2.2.1,we4.2.2.2.2.2.2.2.1,we4.2.2.2.2.2.2.2.2.1,we4.2.2.2.2.2.2.2.2.2.1,we4.2.2.2.2.2.2.2.2.2.2.1,we4.2.2.2.2.2.2.2.2.2.2.2.1,we4.2.2.2.2.2.2.2.2.2.2.2.2))
   | .inr we4 =>
    some (.inr (.inl (we4.1,we4.2.1,we4.2.2.1,we4.2.2.2.1,we4.2.2.2.2.1,we4.2.2.2.2.2)))
 else
  (ak n rc_ (se.1,se.2.1,se.2.2.1,se.2.2.2.1,se.2.2.2.2.2.1,se.2.2.2.2.2.2.1,se.2.2.2.2.2.2.2.1,se.2.2.2.2.2.2.2.2)).bind fun te2 =>
  match te2 with
  | .inl we3 =>
   some (.inl (we3.1,we3.2.1,we3.2.2.1,we3.2.2.2.1,we3.2.2.2.2.1,we3.2.2.2.2.2.1,we3.2.2.2.2.2.2.1,we3.2.2.2.2.2.2.2.1,we3.2.2.2.2.2.2.2.2.1,we3.2.2.2.2.2.2.2.2.2.1,we3.2.2.2.2.2.2.2.2.2.2.1,we3.2.2.2.2.2.2.2.2.2.2.2.1,we3.2.2.2.2.2.2.2.2.2.2.2.2))
  | .inr we3 =>
   some (.inr (.inl (we3.1,we3.2.1,we3.2.2.1,we3.2.2.2.1,we3.2.2.2.2.1,we3.2.2.2.2.2)))
def aW (n:Nat) (rc_:Int→Int→Int→(List Int)→Option (List Int)) (sd:(List Int)×Int×Int×Int×Int×Int×Int×Bool×Bool):Option (((List Int)×Int×Int×Int×Int×Int×Bool×Int×Int×Int×Bool×Bool×Bool)⊕(((List Int)×Int×Int×Int×Bool×Bool)⊕((List Int)))) :=
 if (sd.2.2.2.2.1==2)=true then
  (bW n sd.2.1 sd.2.2.2.2.2.1 sd.1).bind fun yd2 =>
  (aV n rc_ (yd2,sd.2.1,sd.2.2.1,(aj .i64 (aj .i64 sd.2.2.2.2.2.1 1) (aj .i64 sd.2.2.2.1 sd.2.1)),1,sd.2.2.2.2.2.1,sd.2.2.2.2.2.2.1,sd.2.2.2.2.2.2.2.1,sd.2.2.2.2.2.2.2.2)).bind fun td3 =>
  match td3 with
  | .inl wd4 =>
   some (.inl (wd4.1,wd4.2.1,wd4.2.2.1,wd4.2.2.2.1,wd4.2.2.2.2.1,wd4.2.2.2.2.2.1,wd4.2.2.2.2.2.2.1,wd4.2.2.2.2.2.2.2.1,wd4.2.2.2.2.2.2.2.2.1,wd4.2.2.2.2.2.2.2.2.2.1,wd4.2.2.2.2.2.2.2.2.2.2.1,wd4.2.2.2.2.2.2.2.2.2.2.2.1,wd4.2.2.2.2.2.2.2.2.2.2.2.2))
  | .inr (.inl wd4) =>
   some (.inr (.inl (wd4.1,wd4.2.1,wd4.2.2.1,wd4.2.2.2.1,wd4.2.2.2.2.1,wd4.2.2.2.2.2)))
  | .inr (.inr wd4) =>
   some (.inr (.inr wd4))
 else
  (aV n rc_ (sd.1,sd.2.1,sd.2.2.1,sd.2.2.2.1,sd.2.2.2.2.1,sd.2.2.2.2.2.1,sd.2.2.2.2.2.2.1,sd.2.2.2.2.2.2.2.1,sd.2.2.2.2.2.2.2.2)).bind fun td2 =>
  match td2 with
  | .inl wd3 =>
   some (.inl (wd3.1,wd3.2.1,wd3.2.2.1,wd3.2.2.2.1,wd3.2.2.2.2.1,wd3.2.2.2.2.2.1,wd3.2.2.2.2.2.2.1,wd3.2.2.2.2.2.2.2.1,wd3.2.2.2.2.2.2.2.2.1,wd3.2.2.2.2.2.2.2.2.2.1,wd3.2.2.2.2.2.2.2.2.2.2.1,wd3.2.2.2.2.2.2.2.2.2.2.2.1,wd3.2.2.2.2.2.2.2.2.2.2.2.2))
  | .inr (.inl wd3) =>
   some (.inr (.inl (wd3.1,wd3.2.1,wd3.2.2.1,wd3.2.2.2.1,wd3.2.2.2.2.1,wd3.2.2.2.2.2)))
  | .inr (.inr wd3) =>
   some (.inr (.inr wd3))
def bH (n:Nat) (rc_:Int→Int→Int→(List Int)→Option (List Int)) (sb:(List Int)×Int×Int×Int×Int×Bool×Bool):Option (((List Int)×Int×Int×Int×Int×Int×Bool×Int×Int×Int×Bool×Bool×Bool)⊕(((List Int)×Int×Int×Int×Bool×Bool)⊕((List Int)))) :=
 if (!sb.2.2.2.2.2.1)=true then
  (bT n sb.2.1 sb.2.2.2.1 sb.1).bind fun yb2 =>
  (bC n sb.2.1 sb.2.2.2.1 yb2).bind fun yb3 =>
  (aW n rc_ (yb2,sb.2.1,sb.2.2.1,yb3.1,yb3.2.1,sb.2.2.2.1,(aj .i64 sb.2.2.2.2.1 1),sb.2.2.2.2.2.1,sb.2.2.2.2.2.2)).bind fun tb4 =>
  match tb4 with
  | .inl wb5 =>
   some (.inl (wb5.1,wb5.2.1,wb5.2.2.1,wb5.2.2.2.1,wb5.2.2.2.2.1,wb5.2.2.2.2.2.1,wb5.2.2.2.2.2.2.1,wb5.2.2.2.2.2.2.2.1,wb5.2.2.2.2.2.2.2.2.1,wb5.2.2.2.2.2.2.2.2.2.1,wb5.2.2.2.2.2.2.2.2.2.2.1,wb5.2.2.2.2.2.2.2.2.2.2.2.1,wb5.2.2.2.2.2.2.2.2.2.2.2.2))
  | .inr (.inl wb5) =>
   some (.inr (.inl (wb5.1,wb5.2.1,wb5.2.2.1,wb5.2.2.2.1,wb5.2.2.2.2.1,wb5.2.2.2.2.2)))
  | .inr (.inr wb5) =>
   some (.inr (.inr wb5))
 else
  (bC n sb.2.1 sb.2.2.2.1 sb.1).bind fun yb2 =>
  (aW n rc_ (sb.1,sb.2.1,sb.2.2.1,yb2.1,yb2.2.1,sb.2.2.2.1,sb.2.2.2.2.1,sb.2.2.2.2.2.1,sb.2.2.2.2.2.2)).bind fun tb3 =>
  match tb3 with
  | .inl wb4 =>
   some (.inl (wb4.1,wb4.2.1,wb4.2.2.1,wb4.2.2.2.1,wb4.2.2.2.2.1,wb4.2.2.2.2.2.1,wb4.2.2.2.2.2.2.1,wb4.2.2.2.2.2.2.2.1,wb4.2.2.2.2.2.2.2.2.1,wb4.2.2.2.2.2.2.2.2.2.1,wb4.2.2.2.2.2.2.2.2.2.2.1,wb4.2.2.2.2.2.2.2.2.2.2.2.1,wb4.2.2.2.2.2.2.2.2.2.2.2.2))
  | .inr (.inl wb4) =>
   some (.inr (.inl (wb4.1,wb4.2.1,wb4.2.2.1,wb4.2.2.2.1,wb4.2.2.2.2.1,wb4.2.2.2.2.2)))
  | .inr (.inr wb4) =>
   some (.inr (.inr wb4))
def aX (n:Nat) (rc_:Int→Int→Int→(List Int)→Option (List Int)) (sa:(List Int)×Int×Int×Int×Bool×Bool):Option (((List Int)×Int×Int×Int×Bool×Bool)⊕((List Int))) :=
 if (decide ((aj .i64 sa.2.2.1 sa.2.1)≤12))=true then
  (bS n sa.2.1 sa.2.2.1 sa.1).bind fun ya2 =>
  some (.inr ya2)
 else
  if (sa.2.2.2.1==0)=true then
   (ci n sa.2.1 sa.2.2.1 sa.1).bind fun ya3 =>
   some (.inr ya3)
  else
   (bH n rc_ (sa.1,sa.2.1,(aj .i64 sa.2.2.1 sa.2.1),sa.2.2.1,sa.2.2.2.1,sa.2.2.2.2.1,sa.2.2.2.2.2)).bind fun ta3 =>
   match ta3 with
   | .inl wa4 =>
    some (.inl (wa4.1,wa4.2.1,wa4.2.2.1,wa4.2.2.2.1,wa4.2.2.2.2.2.2.1,wa4.2.2.2.2.2.2.2.2.2.2.2.2))
   | .inr (.inl wa4) =>
    some (.inl (wa4.1,wa4.2.1,wa4.2.2.1,wa4.2.2.2.1,wa4.2.2.2.2.1,wa4.2.2.2.2.2))
   | .inr (.inr wa4) =>
    some (.inr wa4)
def aH:Nat→Int→Int→Int→(List Int)→Option (List Int)
| 0,_,_,_,_=>none
| n + 1,a,b,limit,oA =>
 (iter (fun s=>aX n (aH n) s) n (oA,a,b,limit,true,true)).bind fun t1 =>
 some t1
def cN (n:Nat) (oA:(List Int)):Option (List Int) :=
 (du n (IntKind.wrap .u64 (oA.length:Int))).bind fun y1 =>
 (aH n 0 (oA.length:Int) y1 oA).bind fun y2 =>
 some y2
def z3 (x:Int):List Int→List Int
| []=>[x]
| y::l=>if decide (x≤y)=true then x::y::l else y::z3 x l
def ji:List Int→List Int
| []=>[]
| x::l=>z3 x (ji l)
def p0:List Int→Bool
| []=>true
| x::l=>!(l.any fun y=>y==x)&&p0 l
def rI (ks:List Int):Option (Unit⊕List Int):=if ks.length=0 then some (.inl ()) else grd (p0 ks&&ks.all (fun x=>decide (0≤x)&&decide (x≤18446744073709551615))&&Nat.ble ks.length 1000) (some (.inr (ji ks)))
def dW (n:Nat) (oA:(List Cell)) (oB:(List (List Event))) (oC:(List Int)) (oD:(List Int)) (oE:(List (Int×Int))):Option ((Unit⊕(List Int))):=rI (oE.map (·.1))
def fM (n:Nat) (c:aS) (y3:(List Event)) (sa:(List (Int×Int))×Int):Option (((List (Int×Int))×Int)⊕((List (Int×Int)))) :=
 if (decide (sa.2<(c.First.length:Int)))=true then
  (aN c.First sa.2).bind fun xa2 =>
  some (.inl ((eb bB sa.1 xa2.Addr xa2.Value),(ae .i64 sa.2 1)))
 else
  some (.inr sa.1)
def fN (n:Nat) (c:aS) (y3:(List Event)) (sa:(List (Int×Int))×Int):Option (((List (Int×Int))×Int)⊕((List (Int×Int)))) :=
 if (decide (sa.2<(c.Order.length:Int)))=true then
  (aN c.Order sa.2).bind fun xa2 =>
  (aN y3 xa2).bind fun xa3 =>
  (eO n xa3).bind fun ya4 =>
  if ya4=true then
   some (.inl ((eb bB sa.1 xa3.Addr xa3.Store),(ae .i64 sa.2 1)))
  else
   some (.inl (sa.1,(ae .i64 sa.2 1)))
 else
  some (.inr sa.1)
def jw (n:Nat) (c:aS) (t5:((List (Int×Int)))) (sa:Unit):Option (Unit⊕Unit) :=
 some (.inr ())
def fO (n:Nat) (c:aS) (t5:((List (Int×Int)))) (wb8:(List Int)) (sa:(List Cell)×Int):Option (((List Cell)×Int)⊕((List Cell))) :=
 if (decide (sa.2<(wb8.length:Int)))=true then
  (aN wb8 sa.2).bind fun xa2 =>
  if (((dh bB t5 xa2).getD 0) != 0)=true then
   grd (Nat.ble ((sa.1.length + 1) * 16) 140737488355328) <|
   some (.inl ((sa.1++([(Cell.mk xa2 ((dh bB t5 xa2).getD 0))]:List Cell)),(ae .i64 sa.2 1)))
  else
   some (.inl (sa.1,(ae .i64 sa.2 1)))
 else
  some (.inr sa.1)
def kT (n:Nat) (c:aS):Option (List Cell) :=
 (dj n c).bind fun y1 =>
 if (y1 != 0)=true then
  some ([]:List Cell)
 else
  (gL n c.First c.Harts c.From c.Order).bind fun y3 =>
  (iter (fun s=>fM n c y3 s) n (([]:(List (Int×Int))),0)).bind fun t4 =>
  (iter (fun s=>fN n c y3 s) n (t4,0)).bind fun t5 =>
  (bX n c.First c.Harts c.From c.Order t5).bind fun y6 =>
  (dW n c.First c.Harts c.From c.Order t5).bind fun y7 =>
  match y7 with
  | .inl wa8 =>
   (iter (fun s=>jw n c t5 s) n ()).bind fun t9 =>
   some ([]:List Cell)
  | .inr wb8 =>
   (iter (fun s=>fO n c t5 wb8 s) n (([]:List Cell),0)).bind fun t9 =>
   some t9
def eK (n:Nat) (a:(List Cell)) (b:(List Cell)) (sa:Int):Option (Int⊕(Unit⊕Unit)) :=
 if (decide (sa<(a.length:Int)))=true then
  (aN a sa).bind fun xa2 =>
  (aN b sa).bind fun xa3 =>
  if (!(Cell.beq xa2 xa3))=true then
   some (.inr (.inr ()))
  else
   some (.inl (ae .i64 sa 1))
 else
  some (.inr (.inl ()))
def iN (n:Nat) (a:(List Cell)) (b:(List Cell)):Option Bool :=
 if ((a.length:Int) != (b.length:Int))=true then
  some false
 else
  (iter (fun s=>eK n a b s) n 0).bind fun t2 =>
  match t2 with
  | .inl w3 =>
   some true
  | .inr w3 =>
   some false
def m9 (n:Nat):Option Bool :=
 (km n 0).bind fun y1 =>
 (kT n y1).bind fun y2 =>
 (km n 0).bind fun y3 =>
 (dj n y3).bind fun y4 =>
 if (y4==0)=true then
  (km n (-1)).bind fun y6 =>
  (dj n y6).bind fun y7 =>
  if (y7==2)=true then
   (iN n y2 ([(Cell.mk 8 1)]:List Cell)).bind fun y9 =>
   some y9
  else
   some false
 else
  some false
def kE (n:Nat) (d:Deps) (most:Int):Option Bool :=
 if (decide ((d.Addr.length:Int)≤most))=true then
  if (decide ((d.Data.length:Int)≤most))=true then
   some (decide ((d.Way.length:Int)≤most))
  else
   some false
 else
  some false
def eQ (n:Nat) (l:(List Event)) (sa:Int):Option (Int⊕(Unit⊕Unit)) :=
 if (decide (sa<(l.length:Int)))=true then
  (aN l sa).bind fun xa2 =>
  (kE n xa2.Deps 60).bind fun ya3 =>
  if (!ya3)=true then
   some (.inr (.inr ()))
  else
   some (.inl (ae .i64 sa 1))
 else
  some (.inr (.inl ()))
def gv (n:Nat) (l:(List Event)) (most:Int):Option Bool :=
 if (decide ((l.length:Int)>most))=true then
  some false
 else
  (iter (fun s=>eQ n l s) n 0).bind fun t2 =>
  match t2 with
  | .inl w3 =>
   some true
  | .inr w3 =>
   some false
def fP (n:Nat) (c:aS) (most:Int) (sa:Int×Int):Option ((Int×Int)⊕(Int⊕Unit)) :=
 if (decide (sa.2<(c.Harts.length:Int)))=true then
  if (decide (sa.2<10))=true then
   (aN c.Harts sa.2).bind fun xa3 =>
   (gv n xa3 most).bind fun ya4 =>
   if (!ya4)=true then
    some (.inr (.inr ()))
   else
    some (.inl ((ae .i64 sa.1 (xa3.length:Int)),(ae .i64 sa.2 1)))
  else
   some (.inr (.inl sa.1))
 else
  some (.inr (.inl sa.1))
def iO (n:Nat) (c:aS) (most:Int):Option Bool :=
 (iter (fun s=>fP n c most s) n (0,0)).bind fun t1 =>
 match t1 with
 | .inl w2 =>
  if (decide ((c.Harts.length:Int)≤9))=true then
   if (decide (w2≤most))=true then
    if (decide ((c.First.length:Int)≤most))=true then
     if (decide ((c.From.length:Int)≤(cp .i64 2 most)))=true then
      some (decide ((c.Order.length:Int)≤(cp .i64 2 most)))
     else
      some false
    else
     some false
   else
    some false
  else
   some false
 | .inr w2 =>
  some false
def lk (n:Nat) (c:aS) (addr:Int):Option Int :=
 (dj n c).bind fun y1 =>
 if (y1 != 0)=true then
  some 0
 else
  (jM n c.First addr).bind fun y3 =>
  some y3
def cK (n:Nat) (l:List Int):Option (List Int):=grd (Nat.ble (l.length * 8) 140737488355328) (some l)
def oW (n:Nat) (e:Event):Option Event :=
 (cK n e.Deps.Addr).bind fun y1 =>
 (cK n e.Deps.Data).bind fun y2 =>
 (cK n e.Deps.Way).bind fun y3 =>
 some (Event.mk e.Hart e.At e.Kind e.Addr e.Load e.Store e.Aq e.Rl e.Pred e.Succ e.Pair (Deps.mk y1 y2 y3))
def kn (n:Nat) (y3:(List Event)) (sa:(List Event)×Int):Option (((List Event)×Int)⊕((List Event))) :=
 if (decide (sa.2<(y3.length:Int)))=true then
  (aN y3 sa.2).bind fun xa2 =>
  (oW n xa2).bind fun ya3 =>
  grd (Nat.ble ((sa.1.length + 1) * 152) 140737488355328) <|
  some (.inl ((sa.1++([ya3]:List Event)),(ae .i64 sa.2 1)))
 else
  some (.inr sa.1)
def mg (n:Nat) (c:aS):Option (List Event) :=
 (dj n c).bind fun y1 =>
 if (y1 != 0)=true then
  some ([]:List Event)
 else
  (gL n c.First c.Harts c.From c.Order).bind fun y3 =>
  (iter (fun s=>kn n y3 s) n (([]:List Event),0)).bind fun t4 =>
  some t4
def jN (n:Nat) (e:Event):Option Bool :=
 if (e.Kind==2)=true then
  some true
 else
  if (e.Kind==4)=true then
   some true
  else
   some (e.Kind==5)
def EH (m:List (Int×Int)):Bool:=m.all fun e=>e.2==0
def gw (n:Nat) (c:aS) (sa:(List (Int×Int))×Int):Option (((List (Int×Int))×Int)⊕(((List (Int×Int)))⊕Unit)) :=
 if (decide (sa.2<(c.First.length:Int)))=true then
  (aN c.First sa.2).bind fun xa2 =>
  (lk n c xa2.Addr).bind fun ya3 =>
  if (ya3 != xa2.Value)=true then
   some (.inr (.inr ()))
  else
   some (.inl ((eb bB sa.1 xa2.Addr xa2.Value),(ae .i64 sa.2 1)))
 else
  some (.inr (.inl sa.1))
def gx (n:Nat) (c:aS) (y9:(List Event)) (sa:(List (Int×Int))×Int):Option (((List (Int×Int))×Int)⊕(((List (Int×Int)))⊕Unit)) :=
 if (decide (sa.2<(c.Order.length:Int)))=true then
  (aN c.Order sa.2).bind fun xa2 =>
  if (decide (xa2<0))=true then
   some (.inr (.inr ()))
  else
   if (decide (xa2≥(y9.length:Int)))=true then
    some (.inr (.inr ()))
   else
    (aN y9 xa2).bind fun xa5 =>
    (jN n xa5).bind fun ya6 =>
    if ya6=true then
     some (.inl ((eb bB sa.1 xa5.Addr xa5.Store),(ae .i64 sa.2 1)))
    else
     some (.inl (sa.1,(ae .i64 sa.2 1)))
 else
  some (.inr (.inl sa.1))
def e8 (n:Nat) (y12:(List Cell)) (sa:(List (Int×Int))×Int):Option (((List (Int×Int))×Int)⊕(((List (Int×Int)))⊕Unit)) :=
 if (decide (sa.2<(y12.length:Int)))=true then
  (aN y12 sa.2).bind fun xa2 =>
  if (xa2.Value==0)=true then
   some (.inr (.inr ()))
  else
   if (decide (sa.2>0))=true then
    (aN y12 (aj .i64 sa.2 1)).bind fun xa5 =>
    if (decide (xa5.Addr≥xa2.Addr))=true then
     some (.inr (.inr ()))
    else
     if (((dh bB sa.1 xa2.Addr).getD 0) != xa2.Value)=true then
      some (.inr (.inr ()))
     else
      some (.inl ((eb bB sa.1 xa2.Addr 0),(ae .i64 sa.2 1)))
   else
    if (((dh bB sa.1 xa2.Addr).getD 0) != xa2.Value)=true then
     some (.inr (.inr ()))
    else
     some (.inl ((eb bB sa.1 xa2.Addr 0),(ae .i64 sa.2 1)))
 else
  some (.inr (.inl sa.1))
def e9 (n:Nat) (w14:(List (Int×Int))) (sa:Unit):Option Bool :=
 if (EH w14)=true then
  some true
 else
  some false
def jx (n:Nat) (c:aS):Option Bool :=
 (m9 n).bind fun y1 =>
 if (!y1)=true then
  some false
 else
  (iO n c 60).bind fun y3 =>
  if (!y3)=true then
   some true
  else
   (dj n c).bind fun y5 =>
   if (y5 != 0)=true then
    some true
   else
    (iter (fun s=>gw n c s) n (([]:(List (Int×Int))),0)).bind fun t7 =>
    match t7 with
    | .inl w8 =>
     (mg n c).bind fun y9 =>
     (iter (fun s=>gx n c y9 s) n (w8,0)).bind fun t10 =>
     match t10 with
     | .inl w11 =>
      (kT n c).bind fun y12 =>
      (iter (fun s=>e8 n y12 s) n (w11,0)).bind fun t13 =>
      match t13 with
      | .inl w14 =>
       (e9 n w14 ()).bind fun t15 =>
       some t15
      | .inr w14 =>
       some false
     | .inr w11 =>
      some false
    | .inr w8 =>
     some false

end Go.Proofs.Ytcckeabholabcaa
