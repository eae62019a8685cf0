/- What the functions compute, as functions on lists and numbers. Printed by a program from the code; nothing is claimed here. -/
import Derived.Test.YtcckeabholabcaaGreatM0
namespace Go.Proofs.YtcckeabholabcaaGreat
open Go A
set_option linter.unusedVariables false

structure Cell where
  mk ::
  Addr:Int
  Value:Int
structure Deps where
  mk ::
  Addr:(List Int)
  Data:(List Int)
  Way:(List Int)
structure Event where
  mk ::
  Hart:Int
  At:Int
  Kind:Int
  Addr:Int
  Load:Int
  Store:Int
  Aq:Bool
  Rl:Bool
  Pred:Int
  Succ:Int
  Pair:Int
  Deps:Deps
structure ai where
  mk ::
  First:(List Cell)
  Harts:(List (List Event))
  From:(List Int)
  Order:(List Int)
structure aL where
  mk ::
  hart:Int
  at_:Int
  kind:Int
  pred:Int
  succ:Int
  pair:Int
  addr:Int
  load:Int
  store:Int
  aq:Bool
  rl:Bool
def Cell.beq (x y:Cell):Bool:=((x.Addr==y.Addr)&&(x.Value==y.Value))
theorem Cell.beq_eq {x y:Cell} (h:Cell.beq x y=true):x=y:=by
  obtain ⟨a1,a2⟩:=x
  obtain ⟨b3,b4⟩:=y
  unfold Cell.beq at h
  simp only [Bool.and_eq_true,beq_iff_eq] at h
  simp_all
theorem Cell.beq_refl (x:Cell):Cell.beq x x=true:=by
  unfold Cell.beq
  simp
def aL.beq (x y:aL):Bool:=((x.hart==y.hart)&&((x.at_==y.at_)&&((x.kind==y.kind)&&((x.pred==y.pred)&&((x.succ==y.succ)&&((x.pair==y.pair)&&((x.addr==y.addr)&&((x.load==y.load)&&((x.store==y.store)&&((x.aq==y.aq)&&(x.rl==y.rl)))))))))))
theorem aL.beq_eq {x y:aL} (h:aL.beq x y=true):x=y:=by
  obtain ⟨a5,a6,a7,a8,a9,a10,a11,a12,a13,a14,a15⟩:=x
  obtain ⟨Ld,b17,b18,b19,b20,b21,b22,b23,b24,b25,b26⟩:=y
  unfold aL.beq at h
  simp only [Bool.and_eq_true,beq_iff_eq] at h
  simp_all
theorem aL.beq_refl (x:aL):aL.beq x x=true:=by
  unfold aL.beq
  simp
def Cell.wf (x:Cell):Prop:=(vB .u64 x.Addr)∧(vB .u64 x.Value)
def Deps.wf (x:Deps):Prop:=(x.Addr.length≤maxLen∧∀ z∈x.Addr,vB .i64 z)∧(x.Data.length≤maxLen∧∀ z∈x.Data,vB .i64 z)∧(x.Way.length≤maxLen∧∀ z∈x.Way,vB .i64 z)
def Event.wf (x:Event):Prop:=(vB .i64 x.Hart)∧(vB .i64 x.At)∧(vB .i64 x.Kind)∧(vB .u64 x.Addr)∧(vB .u64 x.Load)∧(vB .u64 x.Store)∧(True)∧(True)∧(vB .i64 x.Pred)∧(vB .i64 x.Succ)∧(vB .i64 x.Pair)∧(Deps.wf x.Deps)
def ai.wf (x:ai):Prop:=(x.First.length≤maxLen∧∀ z∈x.First,Cell.wf z)∧(x.Harts.length≤maxLen∧∀ z∈x.Harts,z.length≤maxLen∧∀ zz∈z,Event.wf zz)∧(x.From.length≤maxLen∧∀ z∈x.From,vB .i64 z)∧(x.Order.length≤maxLen∧∀ z∈x.Order,vB .i64 z)
def mc (n:Nat) (from_:Int):Option ai :=
 some (ai.mk ([]:List Cell) ([([(Event.mk 0 0 2 8 0 1 false false 0 0 0 (Deps.mk ([]:List Int) ([]:List Int) ([]:List Int)))]:List Event),([(Event.mk 1 0 1 8 1 0 false false 0 0 0 (Deps.mk ([]:List Int) ([]:List Int) ([]:List Int)))]:List Event)]:List (List Event)) ([(-1),from_]:List Int) ([0,1]:List Int))
def jY (n:Nat) (l:(List Cell)) (sa:Int):Option (Int⊕(Unit⊕Unit)) :=
 if (decide (sa<(l.length:Int)))=true then
  (ax l sa).bind fun xa2 =>
  if ((ri .u64 xa2.Addr 8) != 0)=true then
   some (.inr (.inr ()))
  else
   if (decide (sa>0))=true then
    (ax l (al .i64 sa 1)).bind fun xa5 =>
    if (decide (xa5.Addr≥xa2.Addr))=true then
     some (.inr (.inr ()))
    else
     some (.inl (ae .i64 sa 1))
   else
    some (.inl (ae .i64 sa 1))
 else
  some (.inr (.inl ()))
def jH (n:Nat) (l:(List Cell)):Option Bool :=
 (iter (fun s=>jY n l s) n 0).bind fun t1 =>
 match t1 with
 | .inl w2 =>
  some true
 | .inr w2 =>
  some false
def lf (n:Nat) (kind:Int):Option Int :=
 if (decide (kind<1))=true then
  some 0
 else
  if (decide (kind>6))=true then
   some 0
  else
   if (kind==0)=true then
    some 0
   else
    if (kind==1)=true then
     some 1
    else
     if (kind==2)=true then
      some 2
     else
      if (kind==3)=true then
       some 5
      else
       if (kind==4)=true then
        some 14
       else
        if (kind==5)=true then
         some 7
        else
         if (kind==6)=true then
          some 16
         else
          none
def bi (n:Nat) (s1_:(List Int)) (s2_:(List Int)) (sa:Int):Option (Int⊕(Unit⊕Unit)) :=
 if (decide (sa<(s1_.length:Int)))=true then
  (ax s1_ sa).bind fun xa2 =>
  (ax s2_ sa).bind fun xa3 =>
  if (xa2 != xa3)=true then
   some (.inr (.inr ()))
  else
   some (.inl (ae .i64 sa 1))
 else
  some (.inr (.inl ()))
def bF (n:Nat) (s1_:(List Int)) (s2_:(List Int)):Option Bool :=
 if ((s1_.length:Int) != (s2_.length:Int))=true then
  some false
 else
  (iter (fun s=>bi n s1_ s2_ s) n 0).bind fun t2 =>
  match t2 with
  | .inl w3 =>
   some true
  | .inr w3 =>
   some false
def i5 (n:Nat) (e:Event):Option aL :=
 some (aL.mk e.Hart e.At e.Kind e.Pred e.Succ e.Pair e.Addr e.Load e.Store e.Aq e.Rl)
def iz (n:Nat) (a:Event) (b:Event):Option Bool :=
 (bF n a.Deps.Addr b.Deps.Addr).bind fun y1 =>
 if (!y1)=true then
  some false
 else
  (bF n a.Deps.Data b.Deps.Data).bind fun y3 =>
  if (!y3)=true then
   some false
  else
   (bF n a.Deps.Way b.Deps.Way).bind fun y5 =>
   if (!y5)=true then
    some false
   else
    (i5 n a).bind fun y7 =>
    (i5 n b).bind fun y8 =>
    if (aL.beq y7 y8)=true then
     some true
    else
     some false
def dA (n:Nat) (l:(List Int)) (sa:Int×Int):Option ((Int×Int)⊕(Unit⊕Unit)) :=
 if (decide (sa.2<(l.length:Int)))=true then
  (ax l sa.2).bind fun xa2 =>
  if (decide (xa2≤sa.1))=true then
   some (.inr (.inr ()))
  else
   some (.inl (xa2,(ae .i64 sa.2 1)))
 else
  some (.inr (.inl ()))
def kT (n:Nat) (l:(List Int)):Option Bool :=
 (iter (fun s=>dA n l s) n ((-1),0)).bind fun t1 =>
 match t1 with
 | .inl w2 =>
  some true
 | .inr w2 =>
  some false
def eZ (n:Nat) (l:(List Int)) (at_:Int):Option Bool :=
 (kT n l).bind fun y1 =>
 if y1=true then
  if ((l.length:Int)==0)=true then
   some true
  else
   (ax l (al .i64 (l.length:Int) 1)).bind fun x4 =>
   some (decide (x4<at_))
 else
  some false
def du (n:Nat) (e:Event) (y1:Int) (sf:Int×(List Int)×(List Int)×(List Int)×Int×Int×Int×Bool×Bool×Int×Int):Option Int :=
 if (y1==0)=true then
  some 2
 else
  if (decide (e.Hart<0))=true then
   some 2
  else
   if (decide (e.Hart≥8))=true then
    some 2
   else
    if (decide (e.At<0))=true then
     some 2
    else
     (iz n (Event.mk e.Hart e.At e.Kind sf.2.2.2.2.1 sf.2.2.2.2.2.1 sf.2.2.2.2.2.2.1 sf.2.2.2.2.2.2.2.1 sf.2.2.2.2.2.2.2.2.1 sf.2.2.2.2.2.2.2.2.2.1 sf.2.2.2.2.2.2.2.2.2.2 sf.1 (Deps.mk sf.2.1 sf.2.2.1 sf.2.2.2.1)) e).bind fun yf5 =>
     if (!yf5)=true then
      some 2
     else
      if ((ri .u64 e.Addr 8) != 0)=true then
       some 2
      else
       if (decide (e.Pred<0))=true then
        some 2
       else
        if (decide (e.Pred>15))=true then
         some 2
        else
         if (decide (e.Succ<0))=true then
          some 2
         else
          if (decide (e.Succ>15))=true then
           some 2
          else
           if ((bV .u64 y1 8) != 0)=true then
            if (decide (e.Pair<0))=true then
             some 2
            else
             if (decide (e.Pair≥e.At))=true then
              some 2
             else
              (eZ n e.Deps.Addr e.At).bind fun yf15 =>
              if (!yf15)=true then
               some 2
              else
               (eZ n e.Deps.Data e.At).bind fun yf17 =>
               if (!yf17)=true then
                some 2
               else
                (eZ n e.Deps.Way e.At).bind fun yf19 =>
                if (!yf19)=true then
                 some 2
                else
                 some 0
           else
            (eZ n e.Deps.Addr e.At).bind fun yf13 =>
            if (!yf13)=true then
             some 2
            else
             (eZ n e.Deps.Data e.At).bind fun yf15 =>
             if (!yf15)=true then
              some 2
             else
              (eZ n e.Deps.Way e.At).bind fun yf17 =>
              if (!yf17)=true then
               some 2
              else
               some 0
def dV (n:Nat) (e:Event) (y1:Int) (se:(List Int)×(List Int)×(List Int)×Int×Int×Int×Bool×Bool×Int×Int):Option Int :=
 if ((bV .u64 y1 8) != 0)=true then
  (du n e y1 (e.Pair,se.1,se.2.1,se.2.2.1,se.2.2.2.1,se.2.2.2.2.1,se.2.2.2.2.2.1,se.2.2.2.2.2.2.1,se.2.2.2.2.2.2.2.1,se.2.2.2.2.2.2.2.2.1,se.2.2.2.2.2.2.2.2.2)).bind fun te2 =>
  some te2
 else
  (du n e y1 (0,se.1,se.2.1,se.2.2.1,se.2.2.2.1,se.2.2.2.2.1,se.2.2.2.2.2.1,se.2.2.2.2.2.2.1,se.2.2.2.2.2.2.2.1,se.2.2.2.2.2.2.2.2.1,se.2.2.2.2.2.2.2.2.2)).bind fun te2 =>
  some te2
def dW (n:Nat) (e:Event) (y1:Int) (sd:(List Int)×(List Int)×(List Int)×Int×Int×Int×Int×Int):Option Int :=
 if ((bV .u64 y1 4) != 0)=true then
  (dV n e y1 (sd.1,sd.2.1,sd.2.2.1,sd.2.2.2.1,sd.2.2.2.2.1,sd.2.2.2.2.2.1,e.Aq,e.Rl,sd.2.2.2.2.2.2.1,sd.2.2.2.2.2.2.2)).bind fun td2 =>
  some td2
 else
  (dV n e y1 (sd.1,sd.2.1,sd.2.2.1,sd.2.2.2.1,sd.2.2.2.2.1,sd.2.2.2.2.2.1,false,false,sd.2.2.2.2.2.2.1,sd.2.2.2.2.2.2.2)).bind fun td2 =>
  some td2
def dX (n:Nat) (e:Event) (y1:Int) (sb:(List Int)×(List Int)×Int×Int×Int×Int):Option Int :=
 if ((bV .u64 y1 2) != 0)=true then
  (dW n e y1 (sb.1,e.Deps.Data,sb.2.1,sb.2.2.1,sb.2.2.2.1,e.Store,sb.2.2.2.2.1,sb.2.2.2.2.2)).bind fun tb2 =>
  some tb2
 else
  (dW n e y1 (sb.1,([]:List Int),sb.2.1,sb.2.2.1,sb.2.2.2.1,0,sb.2.2.2.2.1,sb.2.2.2.2.2)).bind fun tb2 =>
  some tb2
def dY (n:Nat) (e:Event) (y1:Int) (sa:(List Int)×(List Int)×Int×Int×Int):Option Int :=
 if ((bV .u64 y1 1) != 0)=true then
  (dX n e y1 (sa.1,sa.2.1,sa.2.2.1,e.Load,sa.2.2.2.1,sa.2.2.2.2)).bind fun ta2 =>
  some ta2
 else
  (dX n e y1 (sa.1,sa.2.1,sa.2.2.1,0,sa.2.2.2.1,sa.2.2.2.2)).bind fun ta2 =>
  some ta2
def kh (n:Nat) (e:Event):Option Int :=
 (lf n e.Kind).bind fun y1 =>
 if ((bV .u64 y1 16) != 0)=true then
  (dY n e y1 (([]:List Int),([]:List Int),0,e.Pred,e.Succ)).bind fun t3 =>
  some t3
 else
  (dY n e y1 (e.Deps.Addr,e.Deps.Way,e.Addr,0,0)).bind fun t3 =>
  some t3
def i6 (n:Nat) (hart:Int) (l:(List Event)) (sa:Int×Int):Option ((Int×Int)⊕(Unit⊕Unit)) :=
 if (decide (sa.1<(l.length:Int)))=true then
  (ax l sa.1).bind fun xa2 =>
  (kh n xa2).bind fun ya3 =>
  if (ya3 != 0)=true then
   some (.inr (.inr ()))
  else
   if (xa2.Hart != hart)=true then
    some (.inr (.inr ()))
   else
    if (xa2.At != sa.1)=true then
     some (.inr (.inr ()))
    else
     if (xa2.Kind==3)=true then
      some (.inl ((ae .i64 sa.1 1),sa.1))
     else
      if (xa2.Kind==4)=true then
       if (xa2.Pair != sa.2)=true then
        some (.inr (.inr ()))
       else
        (ax l sa.2).bind fun xa10 =>
        if (xa10.Addr != xa2.Addr)=true then
         some (.inr (.inr ()))
        else
         some (.inl ((ae .i64 sa.1 1),(-1)))
      else
       some (.inl ((ae .i64 sa.1 1),sa.2))
 else
  some (.inr (.inl ()))
def jI (n:Nat) (hart:Int) (l:(List Event)):Option Int :=
 (iter (fun s=>i6 n hart l s) n (0,(-1))).bind fun t1 =>
 match t1 with
 | .inl w2 =>
  some 0
 | .inr w2 =>
  some 4
def cq (n:Nat) (n_:Int):Option ((Nat×Nat×Nat×(List Event))⊕Unit) :=
 if (decide (n_<0))=true then
  none
 else
  if (decide ((al .i64 n_ 0)>0))=true then
   grd (Nat.blt 0 14&&Nat.blt 0 152&&decide (0<(al .i64 n_ 0))&&decide ((al .i64 n_ 0) * 152≤140737488355328)&&decide ((al .i64 n_ 0)≤140737488355328)) <|
   grd (decide ((0:Int)≤0)&&decide (0≤(((al .i64 n_ 0)).toNat:Int))) <|
   some (.inl (0,0,((al .i64 n_ 0)).toNat,(List.replicate ((al .i64 n_ 0)).toNat (Event.mk 0 0 0 0 0 0 false false 0 0 0 (Deps.mk ([]:List Int) ([]:List Int) ([]:List Int))))))
  else
   some (.inr ())
def cg (n:Nat) (slices:(List (List Event))) (sa:Int×Int):Option ((Int×Int)⊕Int) :=
 if (decide (sa.1<(slices.length:Int)))=true then
  (ax slices sa.1).bind fun xa2 =>
  if (decide ((ae .i64 sa.2 (xa2.length:Int))<0))=true then
   none
  else
   some (.inl ((ae .i64 sa.1 1),(ae .i64 sa.2 (xa2.length:Int))))
 else
  some (.inr sa.2)
def ch (n:Nat) (slices:(List (List Event))) (wa3:Nat×Nat×Nat×(List Event)) (sa:Nat×Nat×(List Event)×Int):Option ((Nat×Nat×(List Event)×Int)⊕(Nat×Nat×(List Event))) :=
 if (decide (sa.2.2.2<(slices.length:Int)))=true then
  (ax slices sa.2.2.2).bind fun xa2 =>
  grd (Nat.ble xa2.length sa.2.1) <|
  grd (Nat.ble (wa3.1 + sa.1 + sa.2.1) sa.2.2.1.length) <|
  some (.inl ((sa.1 + xa2.length),(sa.2.1 - xa2.length),(sa.2.2.1.take (wa3.1 + sa.1)++(xa2++sa.2.2.1.drop (wa3.1 + sa.1 + xa2.length))),(ae .i64 sa.2.2.2 1)))
 else
  some (.inr (sa.1,sa.2.1,sa.2.2.1))
def bD (n:Nat) (slices:(List (List Event))) (sa:(List Event)×Int):Option (((List Event)×Int)⊕((List Event))) :=
 if (decide (sa.2<(slices.length:Int)))=true then
  (ax slices sa.2).bind fun xa2 =>
  grd (Nat.ble ((sa.1.length + xa2.length) * 152) 140737488355328) <|
  some (.inl ((sa.1++xa2),(ae .i64 sa.2 1)))
 else
  some (.inr sa.1)
def bQ (n:Nat) (slices:(List (List Event))):Option (List Event) :=
 (iter (fun s=>cg n slices s) n (0,0)).bind fun t1 =>
 (cq n t1).bind fun y2 =>
 match y2 with
 | .inl wa3 =>
  (iter (fun s=>ch n slices wa3 s) n (wa3.2.1,wa3.2.2.1,wa3.2.2.2,0)).bind fun t4 =>
  some ((t4.2.2.drop wa3.1).take t4.1)
 | .inr wb3 =>
  (iter (fun s=>bD n slices s) n (([]:List Event),0)).bind fun t4 =>
  some t4
def iK (n:Nat) (oA:(List Cell)) (oB:(List (List Event))) (oC:(List Int)) (oD:(List Int)):Option (List Event) :=
 (bQ n oB).bind fun y1 =>
 some y1
def ki (n:Nat) (e:Event):Option Bool :=
 (lf n e.Kind).bind fun y1 =>
 some ((bV .u64 y1 1) != 0)
def dJ (n:Nat) (x:Int):Option Bool :=
 some (x != x)
def fF (n:Nat) (x:Int) (y:Int):Option Int :=
 (dJ n x).bind fun y1 =>
 (dJ n y).bind fun y2 =>
 if y1=true then
  if y2=true then
   some 0
  else
   some (-1)
 else
  if y2=true then
   some 1
  else
   if (decide (x<y))=true then
    some (-1)
   else
    if (decide (x>y))=true then
     some 1
    else
     some 0
def i7 (n:Nat) (x:Cell) (a:Int):Option Int :=
 (fF n x.Addr a).bind fun y1 =>
 some y1
def aK (n:Nat) (x:(List Cell)) (target:Int) (sa:Int×Int):Option ((Int×Int)⊕Int) :=
 if (decide (sa.2<sa.1))=true then
  (ax x (IntKind.wrap .i64 (bL .u64 (IntKind.wrap .u64 (ae .i64 sa.2 sa.1)) 1))).bind fun xa2 =>
  (i7 n xa2 target).bind fun ya3 =>
  if (decide (ya3<0))=true then
   some (.inl (sa.1,(ae .i64 (IntKind.wrap .i64 (bL .u64 (IntKind.wrap .u64 (ae .i64 sa.2 sa.1)) 1)) 1)))
  else
   some (.inl ((IntKind.wrap .i64 (bL .u64 (IntKind.wrap .u64 (ae .i64 sa.2 sa.1)) 1)),sa.2))
 else
  some (.inr sa.2)
def bT (n:Nat) (x:(List Cell)) (target:Int):Option (Int×Bool) :=
 (iter (fun s=>aK n x target s) n ((x.length:Int),0)).bind fun t1 =>
 if (decide (t1<(x.length:Int)))=true then
  (ax x t1).bind fun x3 =>
  (i7 n x3 target).bind fun y4 =>
  some (t1,(y4==0))
 else
  some (t1,false)
def jJ (n:Nat) (l:(List Cell)) (addr:Int):Option Int :=
 (bT n l addr).bind fun y1 =>
 if (!y1.2)=true then
  some 0
 else
  (ax l y1.1).bind fun x3 =>
  some x3.Value
def fG (n:Nat) (e:Event):Option Bool :=
 (lf n e.Kind).bind fun y1 =>
 some ((bV .u64 y1 2) != 0)
def fy (n:Nat) (c:ai) (all:(List Event)) (n_:Int):Option Bool :=
 (ax all n_).bind fun x1 =>
 (ax c.From n_).bind fun x2 =>
 (ki n x1).bind fun y3 =>
 if (!y3)=true then
  some (x2==(-1))
 else
  if (x2==(-1))=true then
   (jJ n c.First x1.Addr).bind fun y6 =>
   some (x1.Load==y6)
  else
   if (decide (x2<0))=true then
    some false
   else
    if (decide (x2≥(all.length:Int)))=true then
     some false
    else
     if (x2==n_)=true then
      some false
     else
      (ax all x2).bind fun x9 =>
      (fG n x9).bind fun y10 =>
      if y10=true then
       if (x9.Addr==x1.Addr)=true then
        some (x9.Store==x1.Load)
       else
        some false
      else
       some false
def i8 (n:Nat) (e:Event):Option Bool :=
 (ki n e).bind fun y1 =>
 if y1=true then
  some true
 else
  (fG n e).bind fun y3 =>
  some y3
def fU (n:Nat) (c:ai) (all:(List Event)) (sa:(List Bool)×Int×Int):Option (((List Bool)×Int×Int)⊕((List Bool)×Int)) :=
 if (decide (sa.2.1<(all.length:Int)))=true then
  (ax all sa.2.1).bind fun xa2 =>
  (i8 n xa2).bind fun ya3 =>
  if ya3=true then
   (ax sa.1 sa.2.1).bind fun xa5 =>
   some (.inl ((sa.1.set (sa.2.1).toNat true),(ae .i64 sa.2.1 1),(ae .i64 sa.2.2 1)))
  else
   some (.inl (sa.1,(ae .i64 sa.2.1 1),sa.2.2))
 else
  some (.inr (sa.1,sa.2.2))
def fV (n:Nat) (c:ai) (sa:(List Bool)×Int×Int):Option (((List Bool)×Int×Int)⊕(Int⊕Unit)) :=
 if (decide (sa.2.1<(c.Order.length:Int)))=true then
  (ax c.Order sa.2.1).bind fun xa2 =>
  if (decide (xa2<0))=true then
   some (.inr (.inr ()))
  else
   if (decide (xa2≥(sa.1.length:Int)))=true then
    some (.inr (.inr ()))
   else
    (ax sa.1 xa2).bind fun xa5 =>
    if (!xa5)=true then
     some (.inr (.inr ()))
    else
     some (.inl ((sa.1.set (xa2).toNat false),(ae .i64 sa.2.1 1),(al .i64 sa.2.2 1)))
 else
  some (.inr (.inl sa.2.2))
def e_ (n:Nat) (c:ai) (all:(List Event)):Option Bool :=
 grd (decide ((0:Int)≤(all.length:Int))&&decide ((all.length:Int)≤(all.length:Int))&&decide (1 * (all.length:Int)≤140737488355328)&&decide ((all.length:Int)≤140737488355328)&&Nat.blt 0 1) <|
 (iter (fun s=>fU n c all s) n ((List.replicate ((all.length:Int)).toNat false),0,0)).bind fun t2 =>
 (iter (fun s=>fV n c s) n (t2.1,0,t2.2)).bind fun t3 =>
 match t3 with
 | .inl w4 =>
  some (w4==0)
 | .inr w4 =>
  some false
def eJ (n:Nat) (c:ai) (sa:Int×Int):Option ((Int×Int)⊕(Int⊕Unit)) :=
 if (decide (sa.1<(c.Harts.length:Int)))=true then
  (ax c.Harts sa.1).bind fun xa2 =>
  if (decide ((ae .i64 sa.2 (xa2.length:Int))>4096))=true then
   some (.inr (.inr ()))
  else
   (jI n sa.1 xa2).bind fun ya4 =>
   if (ya4 != 0)=true then
    some (.inr (.inr ()))
   else
    some (.inl ((ae .i64 sa.1 1),(ae .i64 sa.2 (xa2.length:Int))))
 else
  some (.inr (.inl sa.2))
def f9 (n:Nat) (c:ai) (y7:(List Event)) (sa:Int):Option (Int⊕(Unit⊕Unit)) :=
 if (decide (sa<(y7.length:Int)))=true then
  (fy n c y7 sa).bind fun ya2 =>
  if (!ya2)=true then
   some (.inr (.inr ()))
  else
   some (.inl (ae .i64 sa 1))
 else
  some (.inr (.inl ()))
def bW (n:Nat) (c:ai):Option Int :=
 (jH n c.First).bind fun y1 =>
 if (!y1)=true then
  some 2
 else
  if (decide ((c.Harts.length:Int)<1))=true then
   some 2
  else
   if (decide ((c.Harts.length:Int)>8))=true then
    some 2
   else
    (iter (fun s=>eJ n c s) n (0,0)).bind fun t5 =>
    match t5 with
    | .inl w6 =>
     (iK n c.First c.Harts c.From c.Order).bind fun y7 =>
     if ((c.From.length:Int) != w6)=true then
      some 2
     else
      (iter (fun s=>f9 n c y7 s) n 0).bind fun t9 =>
      match t9 with
      | .inl w10 =>
       (e_ n c y7).bind fun y11 =>
       if (!y11)=true then
        some 2
       else
        some 0
      | .inr w10 =>
       some 2
    | .inr w6 =>
     some 2
def co (n:Nat) (oA:(List Cell)) (oB:(List (List Event))) (oC:(List Int)) (oD:(List Int)) (oE:(List (Int×Int))):Option Unit :=
 some ()
def nX (n:Nat) (x:Int):Option Int :=
 if (decide (x≥4294967296))=true then
  if (decide ((bL .u64 x 32)≥65536))=true then
   if (decide ((bL .u64 (bL .u64 x 32) 16)≥256))=true then
    (iJ (ByteArray.mk #[0,1,2,2,3,3,3,3,4,4,4,4,4,4,4,4,5,5,5,5,5,5,5,5,5,5,5,5,5,5,5,5,6,6,6,6,6,6,6,6,6,6,6,6,6,6,6,6,6,6,6,6,6,6,6,6,6,6,6,6,6,6,6,6,7,7,7,7,7,7,7,7,7,7,7,7,7,7,7,7,7,7,7,7,7,7,7,7,7,7,7,7,7,7,7,7,7,7,7,7,7,7,7,7,7,7,7,7,7,7,7,7,7,7,7,7,7,7,7,7,7,7,7,7,7,7,7,7,8,8,8,8,8,8,8,8,8,8,8,8,8,8,8,8,8,8,8,8,8,8,8,8,8,8,8,8,8,8,8,8,8,8,8,8,8,8,8,8,8,8,8,8,8,8,8,8,8,8,8,8,8,8,8,8,8,8,8,8,8,8,8,8,8,8,8,8,8,8,8,8,8,8,8,8,8,8,8,8,8,8,8,8,8,8,8,8,8,8,8,8,8,8,8,8,8,8,8,8,8,8,8,8,8,8,8,8,8,8,8,8,8,8,8,8,8,8,8,8,8,8,8,8,8,8,8,8]) (IntKind.wrap .u8 (bL .u64 (bL .u64 (bL .u64 x 32) 16) 8))).bind fun x4 =>
    some (ae .i64 56 (IntKind.wrap .i64 x4))
   else
    (iJ (ByteArray.mk #[0,1,2,2,3,3,3,3,4,4,4,4,4,4,4,4,5,5,5,5,5,5,5,5,5,5,5,5,5,5,5,5,6,6,6,6,6,6,6,6,6,6,6,6,6,6,6,6,6,6,6,6,6,6,6,6,6,6,6,6,6,6,6,6,7,7,7,7,7,7,7,7,7,7,7,7,7,7,7,7,7,7,7,7,7,7,7,7,7,7,7,7,7,7,7,7,7,7,7,7,7,7,7,7,7,7,7,7,7,7,7,7,7,7,7,7,7,7,7,7,7,7,7,7,7,7,7,7,8,8,8,8,8,8,8,8,8,8,8,8,8,8,8,8,8,8,8,8,8,8,8,8,8,8,8,8,8,8,8,8,8,8,8,8,8,8,8,8,8,8,8,8,8,8,8,8,8,8,8,8,8,8,8,8,8,8,8,8,8,8,8,8,8,8,8,8,8,8,8,8,8,8,8,8,8,8,8,8,8,8,8,8,8,8,8,8,8,8,8,8,8,8,8,8,8,8,8,8,8,8,8,8,8,8,8,8,8,8,8,8,8,8,8,8,8,8,8,8,8,8,8,8,8,8,8,8]) (IntKind.wrap .u8 (bL .u64 (bL .u64 x 32) 16))).bind fun x4 =>
    some (ae .i64 48 (IntKind.wrap .i64 x4))
  else
   if (decide ((bL .u64 x 32)≥256))=true then
    (iJ (ByteArray.mk #[0,1,2,2,3,3,3,3,4,4,4,4,4,4,4,4,5,5,5,5,5,5,5,5,5,5,5,5,5,5,5,5,6,6,6,6,6,6,6,6,6,6,6,6,6,6,6,6,6,6,6,6,6,6,6,6,6,6,6,6,6,6,6,6,7,7,7,7,7,7,7,7,7,7,7,7,7,7,7,7,7,7,7,7,7,7,7,7,7,7,7,7,7,7,7,7,7,7,7,7,7,7,7,7,7,7,7,7,7,7,7,7,7,7,7,7,7,7,7,7,7,7,7,7,7,7,7,7,8,8,8,8,8,8,8,8,8,8,8,8,8,8,8,8,8,8,8,8,8,8,8,8,8,8,8,8,8,8,8,8,8,8,8,8,8,8,8,8,8,8,8,8,8,8,8,8,8,8,8,8,8,8,8,8,8,8,8,8,8,8,8,8,8,8,8,8,8,8,8,8,8,8,8,8,8,8,8,8,8,8,8,8,8,8,8,8,8,8,8,8,8,8,8,8,8,8,8,8,8,8,8,8,8,8,8,8,8,8,8,8,8,8,8,8,8,8,8,8,8,8,8,8,8,8,8,8]) (IntKind.wrap .u8 (bL .u64 (bL .u64 x 32) 8))).bind fun x4 =>
    some (ae .i64 40 (IntKind.wrap .i64 x4))
   else
    (iJ (ByteArray.mk #[0,1,2,2,3,3,3,3,4,4,4,4,4,4,4,4,5,5,5,5,5,5,5,5,5,5,5,5,5,5,5,5,6,6,6,6,6,6,6,6,6,6,6,6,6,6,6,6,6,6,6,6,6,6,6,6,6,6,6,6,6,6,6,6,7,7,7,7,7,7,7,7,7,7,7,7,7,7,7,7,7,7,7,7,7,7,7,7,7,7,7,7,7,7,7,7,7,7,7,7,7,7,7,7,7,7,7,7,7,7,7,7,7,7,7,7,7,7,7,7,7,7,7,7,7,7,7,7,8,8,8,8,8,8,8,8,8,8,8,8,8,8,8,8,8,8,8,8,8,8,8,8,8,8,8,8,8,8,8,8,8,8,8,8,8,8,8,8,8,8,8,8,8,8,8,8,8,8,8,8,8,8,8,8,8,8,8,8,8,8,8,8,8,8,8,8,8,8,8,8,8,8,8,8,8,8,8,8,8,8,8,8,8,8,8,8,8,8,8,8,8,8,8,8,8,8,8,8,8,8,8,8,8,8,8,8,8,8,8,8,8,8,8,8,8,8,8,8,8,8,8,8,8,8,8,8]) (IntKind.wrap .u8 (bL .u64 x 32))).bind fun x4 =>
    some (ae .i64 32 (IntKind.wrap .i64 x4))
 else
  if (decide (x≥65536))=true then
   if (decide ((bL .u64 x 16)≥256))=true then
    (iJ (ByteArray.mk #[0,1,2,2,3,3,3,3,4,4,4,4,4,4,4,4,5,5,5,5,5,5,5,5,5,5,5,5,5,5,5,5,6,6,6,6,6,6,6,6,6,6,6,6,6,6,6,6,6,6,6,6,6,6,6,6,6,6,6,6,6,6,6,6,7,7,7,7,7,7,7,7,7,7,7,7,7,7,7,7,7,7,7,7,7,7,7,7,7,7,7,7,7,7,7,7,7,7,7,7,7,7,7,7,7,7,7,7,7,7,7,7,7,7,7,7,7,7,7,7,7,7,7,7,7,7,7,7,8,8,8,8,8,8,8,8,8,8,8,8,8,8,8,8,8,8,8,8,8,8,8,8,8,8,8,8,8,8,8,8,8,8,8,8,8,8,8,8,8,8,8,8,8,8,8,8,8,8,8,8,8,8,8,8,8,8,8,8,8,8,8,8,8,8,8,8,8,8,8,8,8,8,8,8,8,8,8,8,8,8,8,8,8,8,8,8,8,8,8,8,8,8,8,8,8,8,8,8,8,8,8,8,8,8,8,8,8,8,8,8,8,8,8,8,8,8,8,8,8,8,8,8,8,8,8,8]) (IntKind.wrap .u8 (bL .u64 (bL .u64 x 16) 8))).bind fun x4 =>
    some (ae .i64 24 (IntKind.wrap .i64 x4))
   else
    (iJ (ByteArray.mk #[0,1,2,2,3,3,3,3,4,4,4,4,4,4,4,4,5,5,5,5,5,5,5,5,5,5,5,5,5,5,5,5,6,6,6,6,6,6,6,6,6,6,6,6,6,6,6,6,6,6,6,6,6,6,6,6,6,6,6,6,6,6,6,6,7,7,7,7,7,7,7,7,7,7,7,7,7,7,7,7,7,7,7,7,7,7,7,7,7,7,7,7,7,7,7,7,7,7,7,7,7,7,7,7,7,7,7,7,7,7,7,7,7,7,7,7,7,7,7,7,7,7,7,7,7,7,7,7,8,8,8,8,8,8,8,8,8,8,8,8,8,8,8,8,8,8,8,8,8,8,8,8,8,8,8,8,8,8,8,8,8,8,8,8,8,8,8,8,8,8,8,8,8,8,8,8,8,8,8,8,8,8,8,8,8,8,8,8,8,8,8,8,8,8,8,8,8,8,8,8,8,8,8,8,8,8,8,8,8,8,8,8,8,8,8,8,8,8,8,8,8,8,8,8,8,8,8,8,8,8,8,8,8,8,8,8,8,8,8,8,8,8,8,8,8,8,8,8,8,8,8,8,8,8,8,8]) (IntKind.wrap .u8 (bL .u64 x 16))).bind fun x4 =>
    some (ae .i64 16 (IntKind.wrap .i64 x4))
  else
   if (decide (x≥256))=true then
    (iJ (ByteArray.mk #[0,1,2,2,3,3,3,3,4,4,4,4,4,4,4,4,5,5,5,5,5,5,5,5,5,5,5,5,5,5,5,5,6,6,6,6,6,6,6,6,6,6,6,6,6,6,6,6,6,6,6,6,6,6,6,6,6,6,6,6,6,6,6,6,7,7,7,7,7,7,7,7,7,7,7,7,7,7,7,7,7,7,7,7,7,7,7,7,7,7,7,7,7,7,7,7,7,7,7,7,7,7,7,7,7,7,7,7,7,7,7,7,7,7,7,7,7,7,7,7,7,7,7,7,7,7,7,7,8,8,8,8,8,8,8,8,8,8,8,8,8,8,8,8,8,8,8,8,8,8,8,8,8,8,8,8,8,8,8,8,8,8,8,8,8,8,8,8,8,8,8,8,8,8,8,8,8,8,8,8,8,8,8,8,8,8,8,8,8,8,8,8,8,8,8,8,8,8,8,8,8,8,8,8,8,8,8,8,8,8,8,8,8,8,8,8,8,8,8,8,8,8,8,8,8,8,8,8,8,8,8,8,8,8,8,8,8,8,8,8,8,8,8,8,8,8,8,8,8,8,8,8,8,8,8,8]) (IntKind.wrap .u8 (bL .u64 x 8))).bind fun x4 =>
    some (ae .i64 8 (IntKind.wrap .i64 x4))
   else
    (iJ (ByteArray.mk #[0,1,2,2,3,3,3,3,4,4,4,4,4,4,4,4,5,5,5,5,5,5,5,5,5,5,5,5,5,5,5,5,6,6,6,6,6,6,6,6,6,6,6,6,6,6,6,6,6,6,6,6,6,6,6,6,6,6,6,6,6,6,6,6,7,7,7,7,7,7,7,7,7,7,7,7,7,7,7,7,7,7,7,7,7,7,7,7,7,7,7,7,7,7,7,7,7,7,7,7,7,7,7,7,7,7,7,7,7,7,7,7,7,7,7,7,7,7,7,7,7,7,7,7,7,7,7,7,8,8,8,8,8,8,8,8,8,8,8,8,8,8,8,8,8,8,8,8,8,8,8,8,8,8,8,8,8,8,8,8,8,8,8,8,8,8,8,8,8,8,8,8,8,8,8,8,8,8,8,8,8,8,8,8,8,8,8,8,8,8,8,8,8,8,8,8,8,8,8,8,8,8,8,8,8,8,8,8,8,8,8,8,8,8,8,8,8,8,8,8,8,8,8,8,8,8,8,8,8,8,8,8,8,8,8,8,8,8,8,8,8,8,8,8,8,8,8,8,8,8,8,8,8,8,8,8]) (IntKind.wrap .u8 x)).bind fun x4 =>
    some (ae .i64 0 (IntKind.wrap .i64 x4))
def dT (n:Nat) (x:Int):Option Int :=
 (nX n x).bind fun y1 =>
 some y1
def aR (n:Nat) (x:Int) (y:Int):Option Bool :=
 (dJ n x).bind fun y1 =>
 if y1=true then
  (dJ n y).bind fun y3 =>
  if (!y3)=true then
   some true
  else
   some (decide (x<y))
 else
  some (decide (x<y))
def aX (n:Nat) (a:Int) (b:Int) (sb:(List Int)×Int×Int):Option (((List Int)×Int×Int)⊕((List Int)×Int)) :=
 if (decide (sb.2.2>a))=true then
  (ax sb.1 sb.2.2).bind fun xb2 =>
  (ax sb.1 (al .i64 sb.2.2 1)).bind fun xb3 =>
  (aR n xb2 xb3).bind fun yb4 =>
  if yb4=true then
   (ax (sb.1.set (sb.2.2).toNat xb3) (al .i64 sb.2.2 1)).bind fun xb6 =>
   some (.inl (((sb.1.set (sb.2.2).toNat xb3).set ((al .i64 sb.2.2 1)).toNat xb2),sb.2.1,(al .i64 sb.2.2 1)))
  else
   some (.inr (sb.1,sb.2.1))
 else
  some (.inr (sb.1,sb.2.1))
def br (n:Nat) (a:Int) (b:Int) (sa:(List Int)×Int):Option (((List Int)×Int)⊕((List Int))) :=
 if (decide (sa.2<b))=true then
  (iter (fun s=>aX n a b s) n (sa.1,sa.2,sa.2)).bind fun ta2 =>
  some (.inl (ta2.1,(ae .i64 ta2.2 1)))
 else
  some (.inr sa.1)
def ci (n:Nat) (a:Int) (b:Int) (oA:(List Int)):Option (List Int) :=
 (iter (fun s=>br n a b s) n (oA,(ae .i64 a 1))).bind fun t1 =>
 some t1
def aM (n:Nat) (hi:Int) (first:Int) (sa:(List Int)×Int):Option (((List Int)×Int)⊕(((List Int))⊕((List Int)))) :=
 if (decide ((ae .i64 (cf .i64 2 sa.2) 1)≥hi))=true then
  some (.inr (.inl sa.1))
 else
  if (decide ((ae .i64 (ae .i64 (cf .i64 2 sa.2) 1) 1)<hi))=true then
   (ax sa.1 (ae .i64 first (ae .i64 (cf .i64 2 sa.2) 1))).bind fun xa3 =>
   (ax sa.1 (ae .i64 (ae .i64 first (ae .i64 (cf .i64 2 sa.2) 1)) 1)).bind fun xa4 =>
   (aR n xa3 xa4).bind fun ya5 =>
   if ya5=true then
    (ax sa.1 (ae .i64 first sa.2)).bind fun xa7 =>
    (ax sa.1 (ae .i64 first (ae .i64 (ae .i64 (cf .i64 2 sa.2) 1) 1))).bind fun xa8 =>
    (aR n xa7 xa8).bind fun ya9 =>
    if (!ya9)=true then
     some (.inr (.inr sa.1))
    else
     (ax (sa.1.set ((ae .i64 first sa.2)).toNat xa8) (ae .i64 first (ae .i64 (ae .i64 (cf .i64 2 sa.2) 1) 1))).bind fun xa11 =>
     some (.inl (((sa.1.set ((ae .i64 first sa.2)).toNat xa8).set ((ae .i64 first (ae .i64 (ae .i64 (cf .i64 2 sa.2) 1) 1))).toNat xa7),(ae .i64 (ae .i64 (cf .i64 2 sa.2) 1) 1)))
   else
    (ax sa.1 (ae .i64 first sa.2)).bind fun xa7 =>
    (aR n xa7 xa3).bind fun ya8 =>
    if (!ya8)=true then
     some (.inr (.inr sa.1))
    else
     (ax (sa.1.set ((ae .i64 first sa.2)).toNat xa3) (ae .i64 first (ae .i64 (cf .i64 2 sa.2) 1))).bind fun xa10 =>
     some (.inl (((sa.1.set ((ae .i64 first sa.2)).toNat xa3).set ((ae .i64 first (ae .i64 (cf .i64 2 sa.2) 1))).toNat xa7),(ae .i64 (cf .i64 2 sa.2) 1)))
  else
   (ax sa.1 (ae .i64 first sa.2)).bind fun xa3 =>
   (ax sa.1 (ae .i64 first (ae .i64 (cf .i64 2 sa.2) 1))).bind fun xa4 =>
   (aR n xa3 xa4).bind fun ya5 =>
   if (!ya5)=true then
    some (.inr (.inr sa.1))
   else
    (ax (sa.1.set ((ae .i64 first sa.2)).toNat xa4) (ae .i64 first (ae .i64 (cf .i64 2 sa.2) 1))).bind fun xa7 =>
    some (.inl (((sa.1.set ((ae .i64 first sa.2)).toNat xa4).set ((ae .i64 first (ae .i64 (cf .i64 2 sa.2) 1))).toNat xa3),(ae .i64 (cf .i64 2 sa.2) 1)))
def bZ (n:Nat) (lo:Int) (hi:Int) (first:Int) (oA:(List Int)):Option (List Int) :=
 (iter (fun s=>aM n hi first s) n (oA,lo)).bind fun t1 =>
 match t1 with
 | .inl w2 =>
  some w2
 | .inr w2 =>
  some w2
def aY (n:Nat) (a:Int) (b:Int) (sa:(List Int)×Int):Option (((List Int)×Int)⊕((List Int))) :=
 if (decide (sa.2≥0))=true then
  (bZ n sa.2 (al .i64 b a) a sa.1).bind fun ya2 =>
  some (.inl (ya2,(al .i64 sa.2 1)))
 else
  some (.inr sa.1)
def aZ (n:Nat) (a:Int) (sa:(List Int)×Int):Option (((List Int)×Int)⊕((List Int))) :=
 if (decide (sa.2≥0))=true then
  (ax sa.1 (ae .i64 a sa.2)).bind fun xa2 =>
  (ax sa.1 a).bind fun xa3 =>
  (ax (sa.1.set (a).toNat xa2) (ae .i64 a sa.2)).bind fun xa4 =>
  (bZ n 0 sa.2 a ((sa.1.set (a).toNat xa2).set ((ae .i64 a sa.2)).toNat xa3)).bind fun ya5 =>
  some (.inl (ya5,(al .i64 sa.2 1)))
 else
  some (.inr sa.1)
def cz (n:Nat) (a:Int) (b:Int) (oA:(List Int)):Option (List Int) :=
 (iter (fun s=>aY n a b s) n (oA,(gw .i64 (al .i64 (al .i64 b a) 1) 2))).bind fun t1 =>
 (iter (fun s=>aZ n a s) n (t1,(al .i64 (al .i64 b a) 1))).bind fun t2 =>
 some t2
def bN (n:Nat) (a:Int) (b:Int) (oA:(List Int)) (oB:Int):Option (Int×Int×Int) :=
 (ax oA b).bind fun x1 =>
 (ax oA a).bind fun x2 =>
 (aR n x1 x2).bind fun y3 =>
 if y3=true then
  some (b,a,(ae .i64 oB 1))
 else
  some (a,b,oB)
def bO (n:Nat) (a:Int) (b:Int) (c:Int) (oA:(List Int)) (oB:Int):Option (Int×Int) :=
 (bN n a b oA oB).bind fun y1 =>
 (bN n y1.2.1 c oA y1.2.2).bind fun y2 =>
 (bN n y1.1 y2.1 oA y2.2.2).bind fun y3 =>
 some (y3.2.1,y3.2.2)
def bh (n:Nat) (a:Int) (oA:(List Int)) (oB:Int):Option (Int×Int) :=
 (bO n (al .i64 a 1) a (ae .i64 a 1) oA oB).bind fun y1 =>
 some (y1.1,y1.2)
def bM (n:Nat) (a:Int) (b:Int) (oA:(List Int)):Option (Int×Int×Int) :=
 if (decide ((al .i64 b a)≥8))=true then
  if (decide ((al .i64 b a)≥50))=true then
   (bh n (ae .i64 a (cf .i64 (gw .i64 (al .i64 b a) 4) 1)) oA 0).bind fun y3 =>
   (bh n (ae .i64 a (cf .i64 (gw .i64 (al .i64 b a) 4) 2)) oA y3.2).bind fun y4 =>
   (bh n (ae .i64 a (cf .i64 (gw .i64 (al .i64 b a) 4) 3)) oA y4.2).bind fun y5 =>
   (bO n y3.1 y4.1 y5.1 oA y5.2).bind fun y6 =>
   if (y6.2==0)=true then
    some (y6.1,1,y6.2)
   else
    if (y6.2==12)=true then
     some (y6.1,2,y6.2)
    else
     some (y6.1,0,y6.2)
  else
   (bO n (ae .i64 a (cf .i64 (gw .i64 (al .i64 b a) 4) 1)) (ae .i64 a (cf .i64 (gw .i64 (al .i64 b a) 4) 2)) (ae .i64 a (cf .i64 (gw .i64 (al .i64 b a) 4) 3)) oA 0).bind fun y3 =>
   if (y3.2==0)=true then
    some (y3.1,1,y3.2)
   else
    if (y3.2==12)=true then
     some (y3.1,2,y3.2)
    else
     some (y3.1,0,y3.2)
 else
  some ((ae .i64 a (cf .i64 (gw .i64 (al .i64 b a) 4) 2)),1,0)
def bw (n:Nat) (sa:(List Int)×Int×Int):Option (((List Int)×Int×Int)⊕((List Int))) :=
 if (decide (sa.2.1<sa.2.2))=true then
  (ax sa.1 sa.2.2).bind fun xa2 =>
  (ax sa.1 sa.2.1).bind fun xa3 =>
  (ax (sa.1.set (sa.2.1).toNat xa2) sa.2.2).bind fun xa4 =>
  some (.inl (((sa.1.set (sa.2.1).toNat xa2).set (sa.2.2).toNat xa3),(ae .i64 sa.2.1 1),(al .i64 sa.2.2 1)))
 else
  some (.inr sa.1)
def cn (n:Nat) (a:Int) (b:Int) (oA:(List Int)):Option (List Int) :=
 (iter (fun s=>bw n s) n (oA,a,(al .i64 b 1))).bind fun t1 =>
 some t1
def aH (n:Nat) (a:Int) (b:Int) (sb:(List Int)×Int×Int):Option (((List Int)×Int×Int)⊕((List Int)×Int×Int)) :=
 if (decide (sb.2.1<b))=true then
  (ax sb.1 sb.2.1).bind fun xb2 =>
  (ax sb.1 (al .i64 sb.2.1 1)).bind fun xb3 =>
  (aR n xb2 xb3).bind fun yb4 =>
  if (!yb4)=true then
   some (.inl (sb.1,(ae .i64 sb.2.1 1),sb.2.2))
  else
   some (.inr (sb.1,sb.2.1,sb.2.2))
 else
  some (.inr (sb.1,sb.2.1,sb.2.2))
def ay (n:Nat) (a:Int) (b:Int) (sb:(List Int)×Int×Int×Int):Option (((List Int)×Int×Int×Int)⊕((List Int)×Int×Int)) :=
 if (decide (sb.2.2.2≥1))=true then
  (ax sb.1 sb.2.2.2).bind fun xb2 =>
  (ax sb.1 (al .i64 sb.2.2.2 1)).bind fun xb3 =>
  (aR n xb2 xb3).bind fun yb4 =>
  if (!yb4)=true then
   some (.inr (sb.1,sb.2.1,sb.2.2.1))
  else
   (ax (sb.1.set (sb.2.2.2).toNat xb3) (al .i64 sb.2.2.2 1)).bind fun xb6 =>
   some (.inl (((sb.1.set (sb.2.2.2).toNat xb3).set ((al .i64 sb.2.2.2 1)).toNat xb2),sb.2.1,sb.2.2.1,(al .i64 sb.2.2.2 1)))
 else
  some (.inr (sb.1,sb.2.1,sb.2.2.1))
def av (n:Nat) (a:Int) (b:Int) (sb:(List Int)×Int×Int×Int):Option (((List Int)×Int×Int×Int)⊕((List Int)×Int×Int)) :=
 if (decide (sb.2.1<b))=true then
  (ax sb.1 sb.2.1).bind fun xb2 =>
  (ax sb.1 (al .i64 sb.2.1 1)).bind fun xb3 =>
  (aR n xb2 xb3).bind fun yb4 =>
  if (!yb4)=true then
   some (.inr (sb.1,sb.2.2.1,sb.2.2.2))
  else
   (ax (sb.1.set (sb.2.1).toNat xb3) (al .i64 sb.2.1 1)).bind fun xb6 =>
   some (.inl (((sb.1.set (sb.2.1).toNat xb3).set ((al .i64 sb.2.1 1)).toNat xb2),(ae .i64 sb.2.1 1),sb.2.2.1,sb.2.2.2))
 else
  some (.inr (sb.1,sb.2.2.1,sb.2.2.2))
def az (n:Nat) (a:Int) (b:Int) (sa:(List Int)×Int×Int):Option (((List Int)×Int×Int)⊕(((List Int))⊕((List Int)×Bool))) :=
 if (decide (sa.2.2<5))=true then
  (iter (fun s=>aH n a b s) n (sa.1,sa.2.1,sa.2.2)).bind fun ta2 =>
  if (ta2.2.1==b)=true then
   some (.inr (.inr (ta2.1,true)))
  else
   if (decide ((al .i64 b a)<50))=true then
    some (.inr (.inr (ta2.1,false)))
   else
    (ax ta2.1 (al .i64 ta2.2.1 1)).bind fun xa5 =>
    (ax ta2.1 ta2.2.1).bind fun xa6 =>
    (ax (ta2.1.set (ta2.2.1).toNat xa5) (al .i64 ta2.2.1 1)).bind fun xa7 =>
    if (decide ((al .i64 ta2.2.1 a)≥2))=true then
     (iter (fun s=>ay n a b s) n (((ta2.1.set (ta2.2.1).toNat xa5).set ((al .i64 ta2.2.1 1)).toNat xa6),ta2.2.1,ta2.2.2,(al .i64 ta2.2.1 1))).bind fun ta9 =>
     if (decide ((al .i64 b ta9.2.1)≥2))=true then
      (iter (fun s=>av n a b s) n (ta9.1,(ae .i64 ta9.2.1 1),ta9.2.1,ta9.2.2)).bind fun ta11 =>
      some (.inl (ta11.1,ta11.2.1,(ae .i64 ta11.2.2 1)))
     else
      some (.inl (ta9.1,ta9.2.1,(ae .i64 ta9.2.2 1)))
    else
     if (decide ((al .i64 b ta2.2.1)≥2))=true then
      (iter (fun s=>av n a b s) n (((ta2.1.set (ta2.2.1).toNat xa5).set ((al .i64 ta2.2.1 1)).toNat xa6),(ae .i64 ta2.2.1 1),ta2.2.1,ta2.2.2)).bind fun ta10 =>
      some (.inl (ta10.1,ta10.2.1,(ae .i64 ta10.2.2 1)))
     else
      some (.inl (((ta2.1.set (ta2.2.1).toNat xa5).set ((al .i64 ta2.2.1 1)).toNat xa6),ta2.2.1,(ae .i64 ta2.2.2 1)))
 else
  some (.inr (.inl sa.1))
def bg (n:Nat) (a:Int) (b:Int) (oA:(List Int)):Option (Bool×(List Int)) :=
 (iter (fun s=>az n a b s) n (oA,(ae .i64 a 1),0)).bind fun t1 =>
 match t1 with
 | .inl w2 =>
  some (false,w2)
 | .inr w2 =>
  some (w2.2,w2.1)
def bo (n:Nat) (a:Int) (sb:(List Int)×Int×Int):Option (((List Int)×Int×Int)⊕((List Int)×Int×Int)) :=
 if (decide (sb.2.2≤sb.2.1))=true then
  (ax sb.1 a).bind fun xb2 =>
  (ax sb.1 sb.2.2).bind fun xb3 =>
  (aR n xb2 xb3).bind fun yb4 =>
  if (!yb4)=true then
   some (.inl (sb.1,sb.2.1,(ae .i64 sb.2.2 1)))
  else
   some (.inr (sb.1,sb.2.1,sb.2.2))
 else
  some (.inr (sb.1,sb.2.1,sb.2.2))
def bp (n:Nat) (a:Int) (sb:(List Int)×Int×Int):Option (((List Int)×Int×Int)⊕((List Int)×Int×Int)) :=
 if (decide (sb.2.2≤sb.2.1))=true then
  (ax sb.1 a).bind fun xb2 =>
  (ax sb.1 sb.2.1).bind fun xb3 =>
  (aR n xb2 xb3).bind fun yb4 =>
  if yb4=true then
   some (.inl (sb.1,(al .i64 sb.2.1 1),sb.2.2))
  else
   some (.inr (sb.1,sb.2.1,sb.2.2))
 else
  some (.inr (sb.1,sb.2.1,sb.2.2))
def aV (n:Nat) (a:Int) (sa:(List Int)×Int×Int):Option (((List Int)×Int×Int)⊕((List Int)×Int)) :=
 (iter (fun s=>bo n a s) n (sa.1,sa.2.1,sa.2.2)).bind fun ta1 =>
 (iter (fun s=>bp n a s) n (ta1.1,ta1.2.1,ta1.2.2)).bind fun ta2 =>
 if (decide (ta2.2.2>ta2.2.1))=true then
  some (.inr (ta2.1,ta2.2.2))
 else
  (ax ta2.1 ta2.2.1).bind fun xa4 =>
  (ax ta2.1 ta2.2.2).bind fun xa5 =>
  (ax (ta2.1.set (ta2.2.2).toNat xa4) ta2.2.1).bind fun xa6 =>
  some (.inl (((ta2.1.set (ta2.2.2).toNat xa4).set (ta2.2.1).toNat xa5),(al .i64 ta2.2.1 1),(ae .i64 ta2.2.2 1)))
def bY (n:Nat) (a:Int) (b:Int) (pivot:Int) (oA:(List Int)):Option (Int×(List Int)) :=
 (ax oA pivot).bind fun x1 =>
 (ax oA a).bind fun x2 =>
 (ax (oA.set (a).toNat x1) pivot).bind fun x3 =>
 (iter (fun s=>aV n a s) n (((oA.set (a).toNat x1).set (pivot).toNat x2),(al .i64 b 1),(ae .i64 a 1))).bind fun t4 =>
 some (t4.2,t4.1)
def bG (n:Nat) (a:Int) (b:Int) (pivot:Int) (oA:(List Int)) (x1:Int) (x2:Int) (sa:Int):Option (Int⊕Int) :=
 if (decide (sa≤(al .i64 b 1)))=true then
  (ax ((oA.set (a).toNat x1).set (pivot).toNat x2) sa).bind fun xa2 =>
  (ax ((oA.set (a).toNat x1).set (pivot).toNat x2) a).bind fun xa3 =>
  (aR n xa2 xa3).bind fun ya4 =>
  if ya4=true then
   some (.inl (ae .i64 sa 1))
  else
   some (.inr sa)
 else
  some (.inr sa)
def bH (n:Nat) (a:Int) (pivot:Int) (oA:(List Int)) (x1:Int) (x2:Int) (t4:Int) (sa:Int):Option (Int⊕Int) :=
 if (decide (t4≤sa))=true then
  (ax ((oA.set (a).toNat x1).set (pivot).toNat x2) sa).bind fun xa2 =>
  (ax ((oA.set (a).toNat x1).set (pivot).toNat x2) a).bind fun xa3 =>
  (aR n xa2 xa3).bind fun ya4 =>
  if (!ya4)=true then
   some (.inl (al .i64 sa 1))
  else
   some (.inr sa)
 else
  some (.inr sa)
def bI (n:Nat) (a:Int) (sb:(List Int)×Int×Int):Option (((List Int)×Int×Int)⊕((List Int)×Int×Int)) :=
 if (decide (sb.2.1≤sb.2.2))=true then
  (ax sb.1 sb.2.1).bind fun xb2 =>
  (ax sb.1 a).bind fun xb3 =>
  (aR n xb2 xb3).bind fun yb4 =>
  if yb4=true then
   some (.inl (sb.1,(ae .i64 sb.2.1 1),sb.2.2))
  else
   some (.inr (sb.1,sb.2.1,sb.2.2))
 else
  some (.inr (sb.1,sb.2.1,sb.2.2))
def bJ (n:Nat) (a:Int) (sb:(List Int)×Int×Int):Option (((List Int)×Int×Int)⊕((List Int)×Int×Int)) :=
 if (decide (sb.2.1≤sb.2.2))=true then
  (ax sb.1 sb.2.2).bind fun xb2 =>
  (ax sb.1 a).bind fun xb3 =>
  (aR n xb2 xb3).bind fun yb4 =>
  if (!yb4)=true then
   some (.inl (sb.1,sb.2.1,(al .i64 sb.2.2 1)))
  else
   some (.inr (sb.1,sb.2.1,sb.2.2))
 else
  some (.inr (sb.1,sb.2.1,sb.2.2))
def bj (n:Nat) (a:Int) (sa:(List Int)×Int×Int):Option (((List Int)×Int×Int)⊕((List Int)×Int)) :=
 (iter (fun s=>bI n a s) n (sa.1,sa.2.1,sa.2.2)).bind fun ta1 =>
 (iter (fun s=>bJ n a s) n (ta1.1,ta1.2.1,ta1.2.2)).bind fun ta2 =>
 if (decide (ta2.2.1>ta2.2.2))=true then
  some (.inr (ta2.1,ta2.2.2))
 else
  (ax ta2.1 ta2.2.2).bind fun xa4 =>
  (ax ta2.1 ta2.2.1).bind fun xa5 =>
  (ax (ta2.1.set (ta2.2.1).toNat xa4) ta2.2.2).bind fun xa6 =>
  some (.inl (((ta2.1.set (ta2.2.1).toNat xa4).set (ta2.2.2).toNat xa5),(ae .i64 ta2.2.1 1),(al .i64 ta2.2.2 1)))
def cw (n:Nat) (a:Int) (b:Int) (pivot:Int) (oA:(List Int)):Option (Int×Bool×(List Int)) :=
 (ax oA pivot).bind fun x1 =>
 (ax oA a).bind fun x2 =>
 (ax (oA.set (a).toNat x1) pivot).bind fun x3 =>
 (iter (fun s=>bG n a b pivot oA x1 x2 s) n (ae .i64 a 1)).bind fun t4 =>
 (iter (fun s=>bH n a pivot oA x1 x2 t4 s) n (al .i64 b 1)).bind fun t5 =>
 if (decide (t4>t5))=true then
  (ax ((oA.set (a).toNat x1).set (pivot).toNat x2) a).bind fun x7 =>
  (ax ((oA.set (a).toNat x1).set (pivot).toNat x2) t5).bind fun x8 =>
  (ax (((oA.set (a).toNat x1).set (pivot).toNat x2).set (t5).toNat x7) a).bind fun x9 =>
  some (t5,true,((((oA.set (a).toNat x1).set (pivot).toNat x2).set (t5).toNat x7).set (a).toNat x8))
 else
  (ax ((oA.set (a).toNat x1).set (pivot).toNat x2) t5).bind fun x7 =>
  (ax ((oA.set (a).toNat x1).set (pivot).toNat x2) t4).bind fun x8 =>
  (ax (((oA.set (a).toNat x1).set (pivot).toNat x2).set (t4).toNat x7) t5).bind fun x9 =>
  (iter (fun s=>bj n a s) n (((((oA.set (a).toNat x1).set (pivot).toNat x2).set (t4).toNat x7).set (t5).toNat x8),(ae .i64 t4 1),(al .i64 t5 1))).bind fun t10 =>
  (ax t10.1 a).bind fun x11 =>
  (ax t10.1 t10.2).bind fun x12 =>
  (ax (t10.1.set (t10.2).toNat x11) a).bind fun x13 =>
  some (t10.2,false,((t10.1.set (t10.2).toNat x11).set (a).toNat x12))
def cv (n:Nat) (length:Int):Option Int :=
 (dT n (IntKind.wrap .u64 length)).bind fun y1 =>
 if (y1==0)=true then
  some 1
 else
  if (y1==1)=true then
   some 2
  else
   if (y1==2)=true then
    some 4
   else
    if (y1==3)=true then
     some 8
    else
     if (y1==4)=true then
      some 16
     else
      if (y1==5)=true then
       some 32
      else
       if (y1==6)=true then
        some 64
       else
        if (y1==7)=true then
         some 128
        else
         if (y1==8)=true then
          some 256
         else
          if (y1==9)=true then
           some 512
          else
           if (y1==10)=true then
            some 1024
           else
            if (y1==11)=true then
             some 2048
            else
             none
def fH (n:Nat) (oA:(List Int)) (oB:Int):Option (Int×Int) :=
 some ((gx .u64 (gx .u64 (gx .u64 oB (kI .u64 oB 13)) (bL .u64 (gx .u64 oB (kI .u64 oB 13)) 7)) (kI .u64 (gx .u64 (gx .u64 oB (kI .u64 oB 13)) (bL .u64 (gx .u64 oB (kI .u64 oB 13)) 7)) 17)),(gx .u64 (gx .u64 (gx .u64 oB (kI .u64 oB 13)) (bL .u64 (gx .u64 oB (kI .u64 oB 13)) 7)) (kI .u64 (gx .u64 (gx .u64 oB (kI .u64 oB 13)) (bL .u64 (gx .u64 oB (kI .u64 oB 13)) 7)) 17)))
def aE (n:Nat) (a:Int) (b:Int) (y2:Int) (sa:(List Int)×Int×Int):Option (((List Int)×Int×Int)⊕((List Int))) :=
 if (decide (sa.2.2≤(ae .i64 (ae .i64 a (cf .i64 (gw .i64 (al .i64 b a) 4) 2)) 1)))=true then
  (fH n sa.1 sa.2.1).bind fun ya2 =>
  if (decide ((IntKind.wrap .i64 (bV .u64 ya2.1 (al .u64 y2 1)))≥(al .i64 b a)))=true then
   (ax sa.1 (ae .i64 a (al .i64 (IntKind.wrap .i64 (bV .u64 ya2.1 (al .u64 y2 1))) (al .i64 b a)))).bind fun xa4 =>
   (ax sa.1 sa.2.2).bind fun xa5 =>
   (ax (sa.1.set (sa.2.2).toNat xa4) (ae .i64 a (al .i64 (IntKind.wrap .i64 (bV .u64 ya2.1 (al .u64 y2 1))) (al .i64 b a)))).bind fun xa6 =>
   some (.inl (((sa.1.set (sa.2.2).toNat xa4).set ((ae .i64 a (al .i64 (IntKind.wrap .i64 (bV .u64 ya2.1 (al .u64 y2 1))) (al .i64 b a)))).toNat xa5),ya2.2,(ae .i64 sa.2.2 1)))
  else
   (ax sa.1 (ae .i64 a (IntKind.wrap .i64 (bV .u64 ya2.1 (al .u64 y2 1))))).bind fun xa4 =>
   (ax sa.1 sa.2.2).bind fun xa5 =>
   (ax (sa.1.set (sa.2.2).toNat xa4) (ae .i64 a (IntKind.wrap .i64 (bV .u64 ya2.1 (al .u64 y2 1))))).bind fun xa6 =>
   some (.inl (((sa.1.set (sa.2.2).toNat xa4).set ((ae .i64 a (IntKind.wrap .i64 (bV .u64 ya2.1 (al .u64 y2 1))))).toNat xa5),ya2.2,(ae .i64 sa.2.2 1)))
 else
  some (.inr sa.1)
def cj (n:Nat) (a:Int) (b:Int) (oA:(List Int)):Option (List Int) :=
 if (decide ((al .i64 b a)≥8))=true then
  (cv n (al .i64 b a)).bind fun y2 =>
  (iter (fun s=>aE n a b y2 s) n (oA,(IntKind.wrap .u64 (al .i64 b a)),(al .i64 (ae .i64 a (cf .i64 (gw .i64 (al .i64 b a) 4) 2)) 1))).bind fun t3 =>
  some t3
 else
  some oA
def cr (n:Nat) (rc_:Int→Int→Int→(List Int)→Option (List Int)) (yg1:(Int×Bool×(List Int))) (sh:Int×Int×Int×Int):Option ((List Int)×Int×Int×Int×Bool) :=
 if (decide ((al .i64 yg1.1 sh.1)<(al .i64 sh.2.2.1 yg1.1)))=true then
  (rc_ sh.1 yg1.1 sh.2.2.2 yg1.2.2).bind fun yh2 =>
  some (yh2,(ae .i64 yg1.1 1),sh.2.2.1,sh.2.2.2,(decide ((al .i64 yg1.1 sh.1)≥(gw .i64 sh.2.1 8))))
 else
  (rc_ (ae .i64 yg1.1 1) sh.2.2.1 sh.2.2.2 yg1.2.2).bind fun yh2 =>
  some (yh2,sh.1,yg1.1,sh.2.2.2,(decide ((al .i64 sh.2.2.1 yg1.1)≥(gw .i64 sh.2.1 8))))
def ba (n:Nat) (rc_:Int→Int→Int→(List Int)→Option (List Int)) (sg:(List Int)×Int×Int×Int×Int×Int):Option ((List Int)×Int×Int×Int×Bool×Bool) :=
 (cw n sg.2.1 sg.2.2.2.2.1 sg.2.2.2.1 sg.1).bind fun yg1 =>
 (cr n rc_ yg1 (sg.2.1,sg.2.2.1,sg.2.2.2.2.1,sg.2.2.2.2.2)).bind fun tg2 =>
 some (tg2.1,tg2.2.1,tg2.2.2.1,tg2.2.2.2.1,tg2.2.2.2.2,yg1.2.1)
def ao (n:Nat) (rc_:Int→Int→Int→(List Int)→Option (List Int)) (sf:(List Int)×Int×Int×Int×Int×Int×Bool×Bool):Option (((List Int)×Int×Int×Int×Int×Int×Bool×Int×Int×Int×Bool×Bool×Bool)⊕((List Int)×Int×Int×Int×Bool×Bool)) :=
 if (decide (sf.2.1>0))=true then
  (ax sf.1 (al .i64 sf.2.1 1)).bind fun xf2 =>
  (ax sf.1 sf.2.2.2.1).bind fun xf3 =>
  (aR n xf2 xf3).bind fun yf4 =>
  if (!yf4)=true then
   (bY n sf.2.1 sf.2.2.2.2.1 sf.2.2.2.1 sf.1).bind fun yf6 =>
   some (.inl (yf6.2,yf6.1,sf.2.2.2.2.1,sf.2.2.2.2.2.1,sf.2.1,(al .i64 sf.2.1 1),sf.2.2.2.2.2.2.1,xf2,sf.2.2.2.1,xf3,yf4,!yf4,sf.2.2.2.2.2.2.2))
  else
   (ba n rc_ (sf.1,sf.2.1,sf.2.2.1,sf.2.2.2.1,sf.2.2.2.2.1,sf.2.2.2.2.2.1)).bind fun tf6 =>
   some (.inr (tf6.1,tf6.2.1,tf6.2.2.1,tf6.2.2.2.1,tf6.2.2.2.2.1,tf6.2.2.2.2.2))
 else
  (ba n rc_ (sf.1,sf.2.1,sf.2.2.1,sf.2.2.2.1,sf.2.2.2.2.1,sf.2.2.2.2.2.1)).bind fun tf2 =>
  some (.inr (tf2.1,tf2.2.1,tf2.2.2.1,tf2.2.2.2.1,tf2.2.2.2.2.1,tf2.2.2.2.2.2))
def bc (n:Nat) (rc_:Int→Int→Int→(List Int)→Option (List Int)) (se:(List Int)×Int×Int×Int×Int×Int×Int×Bool×Bool):Option (((List Int)×Int×Int×Int×Int×Int×Bool×Int×Int×Int×Bool×Bool×Bool)⊕(((List Int)×Int×Int×Int×Bool×Bool)⊕((List Int)))) :=
 if se.2.2.2.2.2.2.2.1=true then
  if se.2.2.2.2.2.2.2.2=true then
   if (se.2.2.2.2.1==1)=true then
    (bg n se.2.1 se.2.2.2.2.2.1 se.1).bind fun ye4 =>
    if ye4.1=true then
     some (.inr (.inr ye4.2))
    else
     (ao n rc_ (ye4.2,se.2.1,se.2.2.1,se.2.2.2.1,se.2.2.2.2.2.1,se.2.2.2.2.2.2.1,se.2.2.2.2.2.2.2.1,se.2.2.2.2.2.2.2.2)).bind fun te6 =>
     match te6 with
     | .inl we7 =>
      some (.inl (we7.1,we7.2.1,we7.2.2.1,we7.2.2.2.1,we7.2.2.2.2.1,we7.2.2.2.2.2.1,we7.2.2.2.2.2.2.1,we7.2.2.2.2.2.2.2.1,we7.2.2.2.2.2.2.2.2.1,we7.2.2.2.2.2.2.2.2.2.1,we7.2.2.2.2.2.2.2.2.2.2.1,we7.2.2.2.2.2.2.2.2.2.2.2.1,we7.2.2.2.2.2.2.2.2.2.2.2.2))
     | .inr we7 =>
      some (.inr (.inl (we7.1,we7.2.1,we7.2.2.1,we7.2.2.2.1,we7.2.2.2.2.1,we7.2.2.2.2.2)))
   else
    (ao n rc_ (se.1,se.2.1,se.2.2.1,se.2.2.2.1,se.2.2.2.2.2.1,se.2.2.2.2.2.2.1,se.2.2.2.2.2.2.2.1,se.2.2.2.2.2.2.2.2)).bind fun te4 =>
    match te4 with
    | .inl we5 =>
     some (.inl (we5.1,we5.2.1,we5.2.2.1,we5.2.2.2.1,we5.2.2.2.2.1,we5.2.2.2.2.2.1,we5.2.2.2.2.2.2.1,we5.2.2.2.2.2.2.2.1,we5.2.2.2.2.2.2.2.2.1,we5.2.2.2.2.2.2.2.2.2.1,we5.2.2.2.2.2.2.2.2.2.2.1,we5.2.2.2.2.2.2.2.2.2.2.2.1,we5.2.2.2.2.2.2.2.2.2.2.2.2))
    | .inr we5 =>
     some (.inr (.inl (we5.1,we5.2.1,we5.2.2.1,we5.2.2.2.1,we5.2.2.2.2.1,we5.2.2.2.2.2)))
  else
   (ao n rc_ (se.1,se.2.1,se.2.2.1,se.2.2.2.1,se.2.2.2.2.2.1,se.2.2.2.2.2.2.1,se.2.2.2.2.2.2.2.1,se.2.2.2.2.2.2.2.2)).bind fun te3 =>
   match te3 with
   | .inl we4 =>
    some (.inl (we4.1,we4.2.1,we4.2.2.1,we4.2.2.2.1,we4.2.2.2.2.1,we4.2.2.2.2.2.1,we4.2.2.2.2.2.2.1,we4.2.2.2.2.2.2.2.1,we4.2.2.2.2.2.2.2.2.1,we4.2.2.2.2.2.2.2.2.2.1,we4.2.2.2.2.2.2.2.2.2.2.1,we4.2.2.2.2.2.2.2.2.2.2.2.1,we4.2.2.2.2.2.2.2.2.2.2.2.2))
   | .inr we4 =>
    some (.inr (.inl (we4.1,we4.2.1,we4.2.2.1,we4.2.2.2.1,we4.2.2.2.2.1,we4.2.2.2.2.2)))
 else
  (ao n rc_ (se.1,se.2.1,se.2.2.1,se.2.2.2.1,se.2.2.2.2.2.1,se.2.2.2.2.2.2.1,se.2.2.2.2.2.2.2.1,se.2.2.2.2.2.2.2.2)).bind fun te2 =>
  match te2 with
  | .inl we3 =>
   some (.inl (we3.1,we3.2.1,we3.2.2.1,we3.2.2.2.1,we3.2.2.2.2.1,we3.2.2.2.2.2.1,we3.2.2.2.2.2.2.1,we3.2.2.2.2.2.2.2.1,we3.2.2.2.2.2.2.2.2.1,we3.2.2.2.2.2.2.2.2.2.1,we3.2.2.2.2.2.2.2.2.2.2.1,we3.2.2.2.2.2.2.2.2.2.2.2.1,we3.2.2.2.2.2.2.2.2.2.2.2.2))
  | .inr we3 =>
   some (.inr (.inl (we3.1,we3.2.1,we3.2.2.1,we3.2.2.2.1,we3.2.2.2.2.1,we3.2.2.2.2.2)))
def bd (n:Nat) (rc_:Int→Int→Int→(List Int)→Option (List Int)) (sd:(List Int)×Int×Int×Int×Int×Int×Int×Bool×Bool):Option (((List Int)×Int×Int×Int×Int×Int×Bool×Int×Int×Int×Bool×Bool×Bool)⊕(((List Int)×Int×Int×Int×Bool×Bool)⊕((List Int)))) :=
 if (sd.2.2.2.2.1==2)=true then
  (cn n sd.2.1 sd.2.2.2.2.2.1 sd.1).bind fun yd2 =>
  (bc n rc_ (yd2,sd.2.1,sd.2.2.1,(al .i64 (al .i64 sd.2.2.2.2.2.1 1) (al .i64 sd.2.2.2.1 sd.2.1)),1,sd.2.2.2.2.2.1,sd.2.2.2.2.2.2.1,sd.2.2.2.2.2.2.2.1,sd.2.2.2.2.2.2.2.2)).bind fun td3 =>
  match td3 with
  | .inl wd4 =>
   some (.inl (wd4.1,wd4.2.1,wd4.2.2.1,wd4.2.2.2.1,wd4.2.2.2.2.1,wd4.2.2.2.2.2.1,wd4.2.2.2.2.2.2.1,wd4.2.2.2.2.2.2.2.1,wd4.2.2.2.2.2.2.2.2.1,wd4.2.2.2.2.2.2.2.2.2.1,wd4.2.2.2.2.2.2.2.2.2.2.1,wd4.2.2.2.2.2.2.2.2.2.2.2.1,wd4.2.2.2.2.2.2.2.2.2.2.2.2))
  | .inr (.inl wd4) =>
   some (.inr (.inl (wd4.1,wd4.2.1,wd4.2.2.1,wd4.2.2.2.1,wd4.2.2.2.2.1,wd4.2.2.2.2.2)))
  | .inr (.inr wd4) =>
   some (.inr (.inr wd4))
 else
  (bc n rc_ (sd.1,sd.2.1,sd.2.2.1,sd.2.2.2.1,sd.2.2.2.2.1,sd.2.2.2.2.2.1,sd.2.2.2.2.2.2.1,sd.2.2.2.2.2.2.2.1,sd.2.2.2.2.2.2.2.2)).bind fun td2 =>
  match td2 with
  | .inl wd3 =>
   some (.inl (wd3.1,wd3.2.1,wd3.2.2.1,wd3.2.2.2.1,wd3.2.2.2.2.1,wd3.2.2.2.2.2.1,wd3.2.2.2.2.2.2.1,wd3.2.2.2.2.2.2.2.1,wd3.2.2.2.2.2.2.2.2.1,wd3.2.2.2.2.2.2.2.2.2.1,wd3.2.2.2.2.2.2.2.2.2.2.1,wd3.2.2.2.2.2.2.2.2.2.2.2.1,wd3.2.2.2.2.2.2.2.2.2.2.2.2))
  | .inr (.inl wd3) =>
   some (.inr (.inl (wd3.1,wd3.2.1,wd3.2.2.1,wd3.2.2.2.1,wd3.2.2.2.2.1,wd3.2.2.2.2.2)))
  | .inr (.inr wd3) =>
   some (.inr (.inr wd3))
def bR (n:Nat) (rc_:Int→Int→Int→(List Int)→Option (List Int)) (sb:(List Int)×Int×Int×Int×Int×Bool×Bool):Option (((List Int)×Int×Int×Int×Int×Int×Bool×Int×Int×Int×Bool×Bool×Bool)⊕(((List Int)×Int×Int×Int×Bool×Bool)⊕((List Int)))) :=
 if (!sb.2.2.2.2.2.1)=true then
  (cj n sb.2.1 sb.2.2.2.1 sb.1).bind fun yb2 =>
  (bM n sb.2.1 sb.2.2.2.1 yb2).bind fun yb3 =>
  (bd n rc_ (yb2,sb.2.1,sb.2.2.1,yb3.1,yb3.2.1,sb.2.2.2.1,(al .i64 sb.2.2.2.2.1 1),sb.2.2.2.2.2.1,sb.2.2.2.2.2.2)).bind fun tb4 =>
  match tb4 with
  | .inl wb5 =>
   some (.inl (wb5.1,wb5.2.1,wb5.2.2.1,wb5.2.2.2.1,wb5.2.2.2.2.1,wb5.2.2.2.2.2.1,wb5.2.2.2.2.2.2.1,wb5.2.2.2.2.2.2.2.1,wb5.2.2.2.2.2.2.2.2.1,wb5.2.2.2.2.2.2.2.2.2.1,wb5.2.2.2.2.2.2.2.2.2.2.1,wb5.2.2.2.2.2.2.2.2.2.2.2.1,wb5.2.2.2.2.2.2.2.2.2.2.2.2))
  | .inr (.inl wb5) =>
   some (.inr (.inl (wb5.1,wb5.2.1,wb5.2.2.1,wb5.2.2.2.1,wb5.2.2.2.2.1,wb5.2.2.2.2.2)))
  | .inr (.inr wb5) =>
   some (.inr (.inr wb5))
 else
  (bM n sb.2.1 sb.2.2.2.1 sb.1).bind fun yb2 =>
  (bd n rc_ (sb.1,sb.2.1,sb.2.2.1,yb2.1,yb2.2.1,sb.2.2.2.1,sb.2.2.2.2.1,sb.2.2.2.2.2.1,sb.2.2.2.2.2.2)).bind fun tb3 =>
  match tb3 with
  | .inl wb4 =>
   some (.inl (wb4.1,wb4.2.1,wb4.2.2.1,wb4.2.2.2.1,wb4.2.2.2.2.1,wb4.2.2.2.2.2.1,wb4.2.2.2.2.2.2.1,wb4.2.2.2.2.2.2.2.1,wb4.2.2.2.2.2.2.2.2.1,wb4.2.2.2.2.2.2.2.2.2.1,wb4.2.2.2.2.2.2.2.2.2.2.1,wb4.2.2.2.2.2.2.2.2.2.2.2.1,wb4.2.2.2.2.2.2.2.2.2.2.2.2))
  | .inr (.inl wb4) =>
   some (.inr (.inl (wb4.1,wb4.2.1,wb4.2.2.1,wb4.2.2.2.1,wb4.2.2.2.2.1,wb4.2.2.2.2.2)))
  | .inr (.inr wb4) =>
   some (.inr (.inr wb4))
def bf (n:Nat) (rc_:Int→Int→Int→(List Int)→Option (List Int)) (sa:(List Int)×Int×Int×Int×Bool×Bool):Option (((List Int)×Int×Int×Int×Bool×Bool)⊕((List Int))) :=
 if (decide ((al .i64 sa.2.2.1 sa.2.1)≤12))=true then
  (ci n sa.2.1 sa.2.2.1 sa.1).bind fun ya2 =>
  some (.inr ya2)
 else
  if (sa.2.2.2.1==0)=true then
   (cz n sa.2.1 sa.2.2.1 sa.1).bind fun ya3 =>
   some (.inr ya3)
  else
   (bR n rc_ (sa.1,sa.2.1,(al .i64 sa.2.2.1 sa.2.1),sa.2.2.1,sa.2.2.2.1,sa.2.2.2.2.1,sa.2.2.2.2.2)).bind fun ta3 =>
   match ta3 with
   | .inl wa4 =>
    some (.inl (wa4.1,wa4.2.1,wa4.2.2.1,wa4.2.2.2.1,wa4.2.2.2.2.2.2.1,wa4.2.2.2.2.2.2.2.2.2.2.2.2))
   | .inr (.inl wa4) =>
    some (.inl (wa4.1,wa4.2.1,wa4.2.2.1,wa4.2.2.2.1,wa4.2.2.2.2.1,wa4.2.2.2.2.2))
   | .inr (.inr wa4) =>
    some (.inr wa4)
def aO:Nat→Int→Int→Int→(List Int)→Option (List Int)
| 0,_,_,_,_=>none
| n + 1,a,b,limit,oA =>
 (iter (fun s=>bf n (aO n) s) n (oA,a,b,limit,true,true)).bind fun t1 =>
 some t1
def dj (n:Nat) (oA:(List Int)):Option (List Int) :=
 (dT n (IntKind.wrap .u64 (oA.length:Int))).bind fun y1 =>
 (aO n 0 (oA.length:Int) y1 oA).bind fun y2 =>
 some y2
def CG (x:Int):List Int→List Int
| []=>[x]
| y::l=>if decide (x≤y)=true then x::y::l else y::CG x l
def mE:List Int→List Int
| []=>[]
| x::l=>CG x (mE l)
def sL:List Int→Bool
| []=>true
| x::l=>!(l.any fun y=>y==x)&&sL l
def vc (ks:List Int):Option (Unit⊕List Int):=if ks.length=0 then some (.inl ()) else grd (sL ks&&ks.all (fun x=>decide (0≤x)&&decide (x≤18446744073709551615))&&Nat.ble ks.length 1000) (some (.inr (mE ks)))
def eE (n:Nat) (oA:(List Cell)) (oB:(List (List Event))) (oC:(List Int)) (oD:(List Int)) (oE:(List (Int×Int))):Option ((Unit⊕(List Int))):=vc (oE.map (·.1))
def gK (n:Nat) (c:ai) (y3:(List Event)) (sa:(List (Int×Int))×Int):Option (((List (Int×Int))×Int)⊕((List (Int×Int)))) :=
 if (decide (sa.2<(c.First.length:Int)))=true then
  (ax c.First sa.2).bind fun xa2 =>
  some (.inl ((kJ dH sa.1 xa2.Addr xa2.Value),(ae .i64 sa.2 1)))
 else
  some (.inr sa.1)
def gL (n:Nat) (c:ai) (y3:(List Event)) (sa:(List (Int×Int))×Int):Option (((List (Int×Int))×Int)⊕((List (Int×Int)))) :=
 if (decide (sa.2<(c.Order.length:Int)))=true then
  (ax c.Order sa.2).bind fun xa2 =>
  (ax y3 xa2).bind fun xa3 =>
  (fG n xa3).bind fun ya4 =>
  if ya4=true then
   some (.inl ((kJ dH sa.1 xa3.Addr xa3.Store),(ae .i64 sa.2 1)))
  else
   some (.inl (sa.1,(ae .i64 sa.2 1)))
 else
  some (.inr sa.1)
def kU (n:Nat) (c:ai) (t5:((List (Int×Int)))) (sa:Unit):Option (Unit⊕Unit) :=
 some (.inr ())
def gM (n:Nat) (c:ai) (t5:((List (Int×Int)))) (wb8:(List Int)) (sa:(List Cell)×Int):Option (((List Cell)×Int)⊕((List Cell))) :=
 if (decide (sa.2<(wb8.length:Int)))=true then
  (ax wb8 sa.2).bind fun xa2 =>
  if (((fE dH t5 xa2).getD 0) != 0)=true then
   grd (Nat.ble ((sa.1.length + 1) * 16) 140737488355328) <|
   some (.inl ((sa.1++([(Cell.mk xa2 ((fE dH t5 xa2).getD 0))]:List Cell)),(ae .i64 sa.2 1)))
  else
   some (.inl (sa.1,(ae .i64 sa.2 1)))
 else
  some (.inr sa.1)
def jK (n:Nat) (c:ai):Option (List Cell) :=
 (bW n c).bind fun y1 =>
 if (y1 != 0)=true then
  some ([]:List Cell)
 else
  (iK n c.First c.Harts c.From c.Order).bind fun y3 =>
  (iter (fun s=>gK n c y3 s) n (([]:(List (Int×Int))),0)).bind fun t4 =>
  (iter (fun s=>gL n c y3 s) n (t4,0)).bind fun t5 =>
  (co n c.First c.Harts c.From c.Order t5).bind fun y6 =>
  (eE n c.First c.Harts c.From c.Order t5).bind fun y7 =>
  match y7 with
  | .inl wa8 =>
   (iter (fun s=>kU n c t5 s) n ()).bind fun t9 =>
   some ([]:List Cell)
  | .inr wb8 =>
   (iter (fun s=>gM n c t5 wb8 s) n (([]:List Cell),0)).bind fun t9 =>
   some t9
def fA (n:Nat) (a:(List Cell)) (b:(List Cell)) (sa:Int):Option (Int⊕(Unit⊕Unit)) :=
 if (decide (sa<(a.length:Int)))=true then
  (ax a sa).bind fun xa2 =>
  (ax b sa).bind fun xa3 =>
  if (!(Cell.beq xa2 xa3))=true then
   some (.inr (.inr ()))
  else
   some (.inl (ae .i64 sa 1))
 else
  some (.inr (.inl ()))
def f_ (n:Nat) (a:(List Cell)) (b:(List Cell)):Option Bool :=
 if ((a.length:Int) != (b.length:Int))=true then
  some false
 else
  (iter (fun s=>fA n a b s) n 0).bind fun t2 =>
  match t2 with
  | .inl w3 =>
   some true
  | .inr w3 =>
   some false
def pM (n:Nat):Option Bool :=
 (mc n 0).bind fun y1 =>
 (jK n y1).bind fun y2 =>
 (mc n 0).bind fun y3 =>
 (bW n y3).bind fun y4 =>
 if (y4==0)=true then
  (mc n (-1)).bind fun y6 =>
  (bW n y6).bind fun y7 =>
  if (y7==2)=true then
   (f_ n y2 ([(Cell.mk 8 1)]:List Cell)).bind fun y9 =>
   some y9
  else
   some false
 else
  some false
def mF (n:Nat) (d:Deps) (most:Int):Option Bool :=
 if (decide ((d.Addr.length:Int)≤most))=true then
  if (decide ((d.Data.length:Int)≤most))=true then
   some (decide ((d.Way.length:Int)≤most))
  else
   some false
 else
  some false
def fI (n:Nat) (l:(List Event)) (sa:Int):Option (Int⊕(Unit⊕Unit)) :=
 if (decide (sa<(l.length:Int)))=true then
  (ax l sa).bind fun xa2 =>
  (mF n xa2.Deps 60).bind fun ya3 =>
  if (!ya3)=true then
   some (.inr (.inr ()))
  else
   some (.inl (ae .i64 sa 1))
 else
  some (.inr (.inl ()))
def iv (n:Nat) (l:(List Event)) (most:Int):Option Bool :=
 if (decide ((l.length:Int)>most))=true then
  some false
 else
  (iter (fun s=>fI n l s) n 0).bind fun t2 =>
  match t2 with
  | .inl w3 =>
   some true
  | .inr w3 =>
   some false
def gN (n:Nat) (c:ai) (most:Int) (sa:Int×Int):Option ((Int×Int)⊕(Int⊕Unit)) :=
 if (decide (sa.2<(c.Harts.length:Int)))=true then
  if (decide (sa.2<10))=true then
   (ax c.Harts sa.2).bind fun xa3 =>
   (iv n xa3 most).bind fun ya4 =>
   if (!ya4)=true then
    some (.inr (.inr ()))
   else
    some (.inl ((ae .i64 sa.1 (xa3.length:Int)),(ae .i64 sa.2 1)))
  else
   some (.inr (.inl sa.1))
 else
  some (.inr (.inl sa.1))
def ig (n:Nat) (c:ai) (most:Int):Option Bool :=
 (iter (fun s=>gN n c most s) n (0,0)).bind fun t1 =>
 match t1 with
 | .inl w2 =>
  if (decide ((c.Harts.length:Int)≤9))=true then
   if (decide (w2≤most))=true then
    if (decide ((c.First.length:Int)≤most))=true then
     if (decide ((c.From.length:Int)≤(cf .i64 2 most)))=true then
      some (decide ((c.Order.length:Int)≤(cf .i64 2 most)))
     else
      some false
    else
     some false
   else
    some false
  else
   some false
 | .inr w2 =>
  some false
def rj (n:Nat) (oA:(List Cell)) (oB:(List (List Event))) (oC:(List Int)) (oD:(List Int)):Option (Int×Int) :=
 some (0,0)
def gy (n:Nat) (oA:(List Cell)) (oB:(List (List Event))) (oC:(List Int)) (oD:(List Int)) (oE:Int) (oF:Int):Option (Int×Int) :=
 if (decide (oF<(oB.length:Int)))=true then
  (ax oB oF).bind fun x2 =>
  some ((ae .i64 oE (x2.length:Int)),(ae .i64 oF 1))
 else
  some (oE,oF)
def i9 (n:Nat) (c:ai) (hart:Int) (at_:Int) (sa:Int×Int×Int):Option ((Int×Int×Int)⊕(Int×Int)) :=
 if (decide (sa.2.2<hart))=true then
  (gy n c.First c.Harts c.From c.Order sa.1 sa.2.1).bind fun ya2 =>
  some (.inl (ya2.1,ya2.2,(ae .i64 sa.2.2 1)))
 else
  some (.inr (sa.1,sa.2.1))
def dB (n:Nat) (c:ai) (hart:Int) (at_:Int):Option (Int×Int) :=
 (bW n c).bind fun y1 =>
 if (y1 != 0)=true then
  some (0,y1)
 else
  if (decide (hart<0))=true then
   some (0,6)
  else
   if (decide (hart≥(c.Harts.length:Int)))=true then
    some (0,6)
   else
    if (decide (at_<0))=true then
     some (0,6)
    else
     (ax c.Harts hart).bind fun x6 =>
     if (decide (at_≥(x6.length:Int)))=true then
      some (0,6)
     else
      (rj n c.First c.Harts c.From c.Order).bind fun y8 =>
      (iter (fun s=>i9 n c hart at_ s) n (y8.1,y8.2,0)).bind fun t9 =>
      (gy n c.First c.Harts c.From c.Order t9.1 t9.2).bind fun y10 =>
      some ((ae .i64 t9.1 at_),0)
def kV (n:Nat) (l:(List Cell)) (sa:Int):Option (Int⊕(Unit⊕Unit)) :=
 if (decide (sa<(l.length:Int)))=true then
  (ax l sa).bind fun xa2 =>
  if ((ri .u64 xa2.Addr 8) != 0)=true then
   some (.inr (.inr ()))
  else
   if (decide (sa>0))=true then
    (ax l (al .i64 sa 1)).bind fun xa5 =>
    if (decide (xa5.Addr≥xa2.Addr))=true then
     some (.inr (.inr ()))
    else
     some (.inl (ae .i64 sa 1))
   else
    some (.inl (ae .i64 sa 1))
 else
  some (.inr (.inl ()))
def lg (n:Nat) (l:(List Cell)):Option Bool :=
 (iter (fun s=>kV n l s) n 0).bind fun t1 =>
 match t1 with
 | .inl w2 =>
  some true
 | .inr w2 =>
  some false
def lh (n:Nat) (e:Event):Option Bool :=
 if (e.Kind==1)=true then
  some true
 else
  if (e.Kind==3)=true then
   some true
  else
   some (e.Kind==5)
def fj (n:Nat) (e:Event):Option Bool :=
 if (e.Kind==2)=true then
  some true
 else
  if (e.Kind==4)=true then
   some true
  else
   some (e.Kind==5)
def gz (n:Nat) (e:Event):Option Bool :=
 (lh n e).bind fun y1 =>
 if y1=true then
  some true
 else
  (fj n e).bind fun y3 =>
  some y3
def eK (n:Nat) (l:(List Int)) (sa:Int):Option (Int⊕(Unit⊕Unit)) :=
 if (decide (sa<(l.length:Int)))=true then
  (ax l sa).bind fun xa2 =>
  if (decide (xa2<0))=true then
   some (.inr (.inr ()))
  else
   if (decide (sa>0))=true then
    (ax l (al .i64 sa 1)).bind fun xa5 =>
    if (decide (xa5≥xa2))=true then
     some (.inr (.inr ()))
    else
     some (.inl (ae .i64 sa 1))
   else
    some (.inl (ae .i64 sa 1))
 else
  some (.inr (.inl ()))
def nj (n:Nat) (l:(List Int)):Option Bool :=
 (iter (fun s=>eK n l s) n 0).bind fun t1 =>
 match t1 with
 | .inl w2 =>
  some true
 | .inr w2 =>
  some false
def li (n:Nat) (l:(List Int)) (at_:Int):Option Bool :=
 (nj n l).bind fun y1 =>
 if y1=true then
  if ((l.length:Int)==0)=true then
   some true
  else
   (ax l (al .i64 (l.length:Int) 1)).bind fun x4 =>
   some (decide (x4<at_))
 else
  some false
def af (n:Nat) (sa:Bool):Option Int :=
 if (!sa)=true then
  some 2
 else
  some 0
def bk (n:Nat) (e:Event) (sd:Bool):Option Bool :=
 if sd=true then
  (li n e.Deps.Addr e.At).bind fun yd2 =>
  if yd2=true then
   (li n e.Deps.Data e.At).bind fun yd4 =>
   if yd4=true then
    (li n e.Deps.Way e.At).bind fun yd6 =>
    if yd6=true then
     (fj n e).bind fun yd8 =>
     if yd8=true then
      some true
     else
      some ((e.Deps.Data.length:Int)==0)
    else
     some false
   else
    some false
  else
   some false
 else
  some false
def bP (n:Nat) (e:Event) (sb:Bool):Option Bool :=
 if sb=true then
  if (e.Kind==4)=true then
   if (decide (e.Pair≥0))=true then
    if (decide (e.Pair<e.At))=true then
     (bk n e true).bind fun tb5 =>
     some tb5
    else
     if (e.Kind != 4)=true then
      (bk n e (e.Pair==0)).bind fun tb6 =>
      some tb6
     else
      (bk n e false).bind fun tb6 =>
      some tb6
   else
    if (e.Kind != 4)=true then
     (bk n e (e.Pair==0)).bind fun tb5 =>
     some tb5
    else
     (bk n e false).bind fun tb5 =>
     some tb5
  else
   if (e.Kind != 4)=true then
    (bk n e (e.Pair==0)).bind fun tb4 =>
    some tb4
   else
    (bk n e false).bind fun tb4 =>
    some tb4
 else
  (bk n e false).bind fun tb2 =>
  some tb2
def au (n:Nat) (e:Event) (sa:Bool):Option Bool :=
 if sa=true then
  if (e.Kind != 1)=true then
   if (e.Kind != 2)=true then
    (bP n e true).bind fun ta4 =>
    some ta4
   else
    if (!e.Aq)=true then
     (bP n e (!e.Rl)).bind fun ta5 =>
     some ta5
    else
     (bP n e false).bind fun ta5 =>
     some ta5
  else
   if (!e.Aq)=true then
    (bP n e (!e.Rl)).bind fun ta4 =>
    some ta4
   else
    (bP n e false).bind fun ta4 =>
    some ta4
 else
  (bP n e false).bind fun ta2 =>
  some ta2
def fJ (n:Nat) (e:Event):Option Int :=
 if (decide (e.Hart≥0))=true then
  if (decide (e.Hart<8))=true then
   if (e.Kind==6)=true then
    if (decide (e.At≥0))=true then
     if (e.Addr==0)=true then
      if (e.Load==0)=true then
       if (e.Store==0)=true then
        if (!e.Aq)=true then
         if (!e.Rl)=true then
          if (e.Pair==0)=true then
           if ((ae .i64 (ae .i64 (e.Deps.Addr.length:Int) (e.Deps.Data.length:Int)) (e.Deps.Way.length:Int))==0)=true then
            if (decide (e.Pred≥0))=true then
             if (decide (e.Pred≤15))=true then
              if (decide (e.Succ≥0))=true then
               (af n (decide (e.Succ≤15))).bind fun t15 =>
               some t15
              else
               (af n false).bind fun t15 =>
               some t15
             else
              (af n false).bind fun t14 =>
              some t14
            else
             (af n false).bind fun t13 =>
             some t13
           else
            (af n false).bind fun t12 =>
            some t12
          else
           (af n false).bind fun t11 =>
           some t11
         else
          (af n false).bind fun t10 =>
          some t10
        else
         (af n false).bind fun t9 =>
         some t9
       else
        (af n false).bind fun t8 =>
        some t8
      else
       (af n false).bind fun t7 =>
       some t7
     else
      (af n false).bind fun t6 =>
      some t6
    else
     (af n false).bind fun t5 =>
     some t5
   else
    if (decide (e.At≥0))=true then
     (gz n e).bind fun y5 =>
     if y5=true then
      if ((ri .u64 e.Addr 8)==0)=true then
       (lh n e).bind fun y8 =>
       if y8=true then
        (fj n e).bind fun y10 =>
        if y10=true then
         if (e.Pred==0)=true then
          (au n e (e.Succ==0)).bind fun t13 =>
          (af n t13).bind fun t14 =>
          some t14
         else
          (au n e false).bind fun t13 =>
          (af n t13).bind fun t14 =>
          some t14
        else
         if (e.Store==0)=true then
          if (e.Pred==0)=true then
           (au n e (e.Succ==0)).bind fun t14 =>
           (af n t14).bind fun t15 =>
           some t15
          else
           (au n e false).bind fun t14 =>
           (af n t14).bind fun t15 =>
           some t15
         else
          (au n e false).bind fun t13 =>
          (af n t13).bind fun t14 =>
          some t14
       else
        if (e.Load==0)=true then
         (fj n e).bind fun y11 =>
         if y11=true then
          if (e.Pred==0)=true then
           (au n e (e.Succ==0)).bind fun t14 =>
           (af n t14).bind fun t15 =>
           some t15
          else
           (au n e false).bind fun t14 =>
           (af n t14).bind fun t15 =>
           some t15
         else
          if (e.Store==0)=true then
           if (e.Pred==0)=true then
            (au n e (e.Succ==0)).bind fun t15 =>
            (af n t15).bind fun t16 =>
            some t16
           else
            (au n e false).bind fun t15 =>
            (af n t15).bind fun t16 =>
            some t16
          else
           (au n e false).bind fun t14 =>
           (af n t14).bind fun t15 =>
           some t15
        else
         (au n e false).bind fun t11 =>
         (af n t11).bind fun t12 =>
         some t12
      else
       (au n e false).bind fun t8 =>
       (af n t8).bind fun t9 =>
       some t9
     else
      (au n e false).bind fun t7 =>
      (af n t7).bind fun t8 =>
      some t8
    else
     (au n e false).bind fun t5 =>
     (af n t5).bind fun t6 =>
     some t6
  else
   if (e.Kind==6)=true then
    (af n false).bind fun t4 =>
    some t4
   else
    (au n e false).bind fun t4 =>
    (af n t4).bind fun t5 =>
    some t5
 else
  if (e.Kind==6)=true then
   (af n false).bind fun t3 =>
   some t3
  else
   (au n e false).bind fun t3 =>
   (af n t3).bind fun t4 =>
   some t4
def lv (n:Nat) (hart:Int) (l:(List Event)) (xa2:Event) (xa8:Event) (sb:Int×Bool×Int×Int):Option ((Int×Bool×Int×Int)⊕((Int×Bool×Int)⊕Unit)) :=
 if (decide (sb.2.2.2<sb.2.2.1))=true then
  (ax l sb.2.2.2).bind fun xb2 =>
  if (xb2.Kind==3)=true then
   some (.inr (.inr ()))
  else
   if (xb2.Kind==4)=true then
    some (.inr (.inr ()))
   else
    some (.inl (sb.1,sb.2.1,sb.2.2.1,(ae .i64 sb.2.2.2 1)))
 else
  some (.inr (.inl (sb.1,sb.2.1,sb.2.2.1)))
def lw (n:Nat) (hart:Int) (l:(List Event)) (sa:Int):Option (Int⊕(Unit⊕Unit)) :=
 if (decide (sa<(l.length:Int)))=true then
  (ax l sa).bind fun xa2 =>
  (fJ n xa2).bind fun ya3 =>
  if (ya3 != 0)=true then
   some (.inr (.inr ()))
  else
   if (xa2.Hart != hart)=true then
    some (.inr (.inr ()))
   else
    if (xa2.At != sa)=true then
     some (.inr (.inr ()))
    else
     if (xa2.Kind != 4)=true then
      some (.inl (ae .i64 sa 1))
     else
      (ax l xa2.Pair).bind fun xa8 =>
      if (xa8.Kind != 3)=true then
       some (.inr (.inr ()))
      else
       if (xa8.Addr != xa2.Addr)=true then
        some (.inr (.inr ()))
       else
        (iter (fun s=>lv n hart l xa2 xa8 s) n (sa,(xa2.At != sa),sa,(ae .i64 xa2.Pair 1))).bind fun ta11 =>
        match ta11 with
        | .inl wa12 =>
         some (.inl (ae .i64 wa12.2.2 1))
        | .inr wa12 =>
         some (.inr (.inr ()))
 else
  some (.inr (.inl ()))
def nk (n:Nat) (hart:Int) (l:(List Event)):Option Int :=
 (iter (fun s=>lw n hart l s) n 0).bind fun t1 =>
 match t1 with
 | .inl w2 =>
  some 0
 | .inr w2 =>
  some 4
def rm (n:Nat) (d:Deps):Option Deps :=
 grd (Nat.ble (d.Addr.length * 8) 140737488355328) <|
 grd (Nat.ble (d.Data.length * 8) 140737488355328) <|
 grd (Nat.ble (d.Way.length * 8) 140737488355328) <|
 some d
def md (n:Nat) (c:ai) (sb:(List Event)×Int×Int):Option (((List Event)×Int×Int)⊕((List Event)×Int)) :=
 (ax c.Harts sb.2.1).bind fun xb1 =>
 if (decide (sb.2.2<(xb1.length:Int)))=true then
  (ax xb1 sb.2.2).bind fun xb3 =>
  (rm n xb3.Deps).bind fun yb4 =>
  grd (Nat.ble ((sb.1.length + 1) * 152) 140737488355328) <|
  some (.inl ((sb.1++([(Event.mk xb3.Hart xb3.At xb3.Kind xb3.Addr xb3.Load xb3.Store xb3.Aq xb3.Rl xb3.Pred xb3.Succ xb3.Pair yb4)]:List Event)),sb.2.1,(ae .i64 sb.2.2 1)))
 else
  some (.inr (sb.1,sb.2.1))
def mg (n:Nat) (c:ai) (sa:(List Event)×Int):Option (((List Event)×Int)⊕((List Event))) :=
 if (decide (sa.2<(c.Harts.length:Int)))=true then
  (iter (fun s=>md n c s) n (sa.1,sa.2,0)).bind fun ta2 =>
  some (.inl (ta2.1,(ae .i64 ta2.2 1)))
 else
  some (.inr sa.1)
def lx (n:Nat) (c:ai):Option (List Event) :=
 (iter (fun s=>mg n c s) n (([]:List Event),0)).bind fun t1 =>
 some t1
def kW (n:Nat) (l:(List Cell)) (addr:Int) (sa:Int):Option (Int⊕(Unit⊕Int)) :=
 if (decide (sa<(l.length:Int)))=true then
  (ax l sa).bind fun xa2 =>
  if (xa2.Addr==addr)=true then
   some (.inr (.inr xa2.Value))
  else
   some (.inl (ae .i64 sa 1))
 else
  some (.inr (.inl ()))
def lj (n:Nat) (l:(List Cell)) (addr:Int):Option Int :=
 (iter (fun s=>kW n l addr s) n 0).bind fun t1 =>
 match t1 with
 | .inl w2 =>
  some 0
 | .inr w2 =>
  some w2
def eP (n:Nat) (c:ai) (all:(List Event)) (n_:Int):Option Bool :=
 (ax all n_).bind fun x1 =>
 (ax c.From n_).bind fun x2 =>
 (lh n x1).bind fun y3 =>
 if (!y3)=true then
  some (x2==(-1))
 else
  if (x2==(-1))=true then
   (lj n c.First x1.Addr).bind fun y6 =>
   some (x1.Load==y6)
  else
   if (decide (x2<0))=true then
    some false
   else
    if (decide (x2≥(all.length:Int)))=true then
     some false
    else
     if (x2==n_)=true then
      some false
     else
      (ax all x2).bind fun x9 =>
      (fj n x9).bind fun y10 =>
      if y10=true then
       if (x9.Addr==x1.Addr)=true then
        some (x9.Store==x1.Load)
       else
        some false
      else
       some false
def i_ (n:Nat) (c:ai) (sa:Int×Int):Option ((Int×Int)⊕(Int⊕Unit)) :=
 if (decide (sa.2<(c.Harts.length:Int)))=true then
  (ax c.Harts sa.2).bind fun xa2 =>
  if (decide ((ae .i64 sa.1 (xa2.length:Int))>4096))=true then
   some (.inr (.inr ()))
  else
   (nk n sa.2 xa2).bind fun ya4 =>
   if (ya4 != 0)=true then
    some (.inr (.inr ()))
   else
    some (.inl ((ae .i64 sa.1 (xa2.length:Int)),(ae .i64 sa.2 1)))
 else
  some (.inr (.inl sa.1))
def ja (n:Nat) (c:ai) (w6:Int) (y7:(List Event)) (sa:Int×Int):Option ((Int×Int)⊕(Int⊕Unit)) :=
 if (decide (sa.2<w6))=true then
  (eP n c y7 sa.2).bind fun ya2 =>
  if (!ya2)=true then
   some (.inr (.inr ()))
  else
   (ax y7 sa.2).bind fun xa4 =>
   (gz n xa4).bind fun ya5 =>
   if ya5=true then
    some (.inl ((ae .i64 sa.1 1),(ae .i64 sa.2 1)))
   else
    some (.inl (sa.1,(ae .i64 sa.2 1)))
 else
  some (.inr (.inl sa.1))
def jb (n:Nat) (c:ai) (w6:Int) (y7:(List Event)) (w10:Int) (sa:(List Bool)×Int):Option (((List Bool)×Int)⊕(Unit⊕Unit)) :=
 if (decide (sa.2<(c.Order.length:Int)))=true then
  (ax c.Order sa.2).bind fun xa2 =>
  if (decide (xa2<0))=true then
   some (.inr (.inr ()))
  else
   if (decide (xa2≥w6))=true then
    some (.inr (.inr ()))
   else
    (ax sa.1 xa2).bind fun xa5 =>
    if xa5=true then
     some (.inr (.inr ()))
    else
     (ax y7 xa2).bind fun xa7 =>
     (gz n xa7).bind fun ya8 =>
     if (!ya8)=true then
      some (.inr (.inr ()))
     else
      some (.inl ((sa.1.set (xa2).toNat true),(ae .i64 sa.2 1)))
 else
  some (.inr (.inl ()))
def dy (n:Nat) (c:ai):Option Int :=
 (lg n c.First).bind fun y1 =>
 if (!y1)=true then
  some 2
 else
  if (decide ((c.Harts.length:Int)<1))=true then
   some 2
  else
   if (decide ((c.Harts.length:Int)>8))=true then
    some 2
   else
    (iter (fun s=>i_ n c s) n (0,0)).bind fun t5 =>
    match t5 with
    | .inl w6 =>
     (lx n c).bind fun y7 =>
     if ((c.From.length:Int) != w6)=true then
      some 2
     else
      (iter (fun s=>ja n c w6 y7 s) n (0,0)).bind fun t9 =>
      match t9 with
      | .inl w10 =>
       grd (decide ((0:Int)≤w6)&&decide (w6≤w6)&&decide (1 * w6≤140737488355328)&&decide (w6≤140737488355328)&&Nat.blt 0 1) <|
       (iter (fun s=>jb n c w6 y7 w10 s) n ((List.replicate (w6).toNat false),0)).bind fun t12 =>
       match t12 with
       | .inl w13 =>
        if ((c.Order.length:Int) != w10)=true then
         some 2
        else
         some 0
       | .inr w13 =>
        some 2
      | .inr w10 =>
       some 2
    | .inr w6 =>
     some 2
def jZ (n:Nat) (c:ai) (hart:Int) (sa:Int×Int):Option ((Int×Int)⊕Int) :=
 if (decide (sa.2<hart))=true then
  (ax c.Harts sa.2).bind fun xa2 =>
  some (.inl ((ae .i64 sa.1 (xa2.length:Int)),(ae .i64 sa.2 1)))
 else
  some (.inr sa.1)
def ew (n:Nat) (c:ai) (hart:Int) (at_:Int):Option (Int×Int) :=
 (dy n c).bind fun y1 =>
 if (y1 != 0)=true then
  some (0,2)
 else
  if (decide (hart<0))=true then
   some (0,6)
  else
   if (decide (hart≥(c.Harts.length:Int)))=true then
    some (0,6)
   else
    if (decide (at_<0))=true then
     some (0,6)
    else
     (ax c.Harts hart).bind fun x6 =>
     if (decide (at_≥(x6.length:Int)))=true then
      some (0,6)
     else
      (iter (fun s=>jZ n c hart s) n (at_,0)).bind fun t8 =>
      some (t8,0)
def kX (n:Nat) (l:(List Cell)):Option (List Cell) :=
 grd (Nat.ble (l.length * 16) 140737488355328) <|
 some l
def fC (n:Nat) (l:(List Int)):Option (List Int) :=
 grd (Nat.ble (l.length * 8) 140737488355328) <|
 some l
def oH (n:Nat) (d:Deps):Option Deps :=
 (fC n d.Addr).bind fun y1 =>
 (fC n d.Data).bind fun y2 =>
 (fC n d.Way).bind fun y3 =>
 some (Deps.mk y1 y2 y3)
def kY (n:Nat) (e:Event):Option Event :=
 (oH n e.Deps).bind fun y1 =>
 some (Event.mk e.Hart e.At e.Kind e.Addr e.Load e.Store e.Aq e.Rl e.Pred e.Succ e.Pair y1)
def dK (n:Nat) (l:(List Event)) (sa:(List Event)×Int):Option (((List Event)×Int)⊕((List Event))) :=
 if (decide (sa.2<(l.length:Int)))=true then
  (ax l sa.2).bind fun xa2 =>
  (kY n xa2).bind fun ya3 =>
  grd (Nat.ble ((sa.1.length + 1) * 152) 140737488355328) <|
  some (.inl ((sa.1++([ya3]:List Event)),(ae .i64 sa.2 1)))
 else
  some (.inr sa.1)
def j0 (n:Nat) (l:(List Event)):Option (List Event) :=
 (iter (fun s=>dK n l s) n (([]:List Event),0)).bind fun t1 =>
 some t1
def eQ (n:Nat) (c:ai) (y1:(List Cell)) (y2:(List Int)) (y3:(List Int)) (sa:(List (List Event))×Int):Option (((List (List Event))×Int)⊕((List (List Event)))) :=
 if (decide (sa.2<(c.Harts.length:Int)))=true then
  (ax c.Harts sa.2).bind fun xa2 =>
  (j0 n xa2).bind fun ya3 =>
  grd (Nat.ble ((sa.1.length + 1) * 24) 140737488355328) <|
  some (.inl ((sa.1++([ya3]:List (List Event))),(ae .i64 sa.2 1)))
 else
  some (.inr sa.1)
def kj (n:Nat) (c:ai):Option ai :=
 (kX n c.First).bind fun y1 =>
 (fC n c.From).bind fun y2 =>
 (fC n c.Order).bind fun y3 =>
 (iter (fun s=>eQ n c y1 y2 y3 s) n (([]:List (List Event)),0)).bind fun t4 =>
 some (ai.mk y1 t4 y2 y3)
def c_ (n:Nat) (l:List Int):Option (List Int):=grd (Nat.ble (l.length * 8) 140737488355328) (some l)
def rn (n:Nat) (e:Event):Option Event :=
 (c_ n e.Deps.Addr).bind fun y1 =>
 (c_ n e.Deps.Data).bind fun y2 =>
 (c_ n e.Deps.Way).bind fun y3 =>
 some (Event.mk e.Hart e.At e.Kind e.Addr e.Load e.Store e.Aq e.Rl e.Pred e.Succ e.Pair (Deps.mk y1 y2 y3))
def mh (n:Nat) (y3:(List Event)) (sa:(List Event)×Int):Option (((List Event)×Int)⊕((List Event))) :=
 if (decide (sa.2<(y3.length:Int)))=true then
  (ax y3 sa.2).bind fun xa2 =>
  (rn n xa2).bind fun ya3 =>
  grd (Nat.ble ((sa.1.length + 1) * 152) 140737488355328) <|
  some (.inl ((sa.1++([ya3]:List Event)),(ae .i64 sa.2 1)))
 else
  some (.inr sa.1)
def ly (n:Nat) (c:ai):Option (List Event) :=
 (bW n c).bind fun y1 =>
 if (y1 != 0)=true then
  some ([]:List Event)
 else
  (iK n c.First c.Harts c.From c.Order).bind fun y3 =>
  (iter (fun s=>mh n y3 s) n (([]:List Event),0)).bind fun t4 =>
  some t4
def pN (n:Nat) (c:ai):Option (List Event) :=
 (dy n c).bind fun y1 =>
 if (y1 != 0)=true then
  some ([]:List Event)
 else
  (lx n c).bind fun y3 =>
  some y3
def fW (n:Nat) (a:(List Int)) (b:(List Int)) (sa:Int):Option (Int⊕(Unit⊕Unit)) :=
 if (decide (sa<(a.length:Int)))=true then
  (ax a sa).bind fun xa2 =>
  (ax b sa).bind fun xa3 =>
  if (xa2 != xa3)=true then
   some (.inr (.inr ()))
  else
   some (.inl (ae .i64 sa 1))
 else
  some (.inr (.inl ()))
def eF (n:Nat) (a:(List Int)) (b:(List Int)):Option Bool :=
 if ((a.length:Int) != (b.length:Int))=true then
  some false
 else
  (iter (fun s=>fW n a b s) n 0).bind fun t2 =>
  match t2 with
  | .inl w3 =>
   some true
  | .inr w3 =>
   some false
def rt (n:Nat) (a:Deps) (b:Deps):Option Bool :=
 (eF n a.Addr b.Addr).bind fun y1 =>
 if y1=true then
  (eF n a.Data b.Data).bind fun y3 =>
  if y3=true then
   (eF n a.Way b.Way).bind fun y5 =>
   some y5
  else
   some false
 else
  some false
def pO (n:Nat) (a:Event) (b:Event):Option Bool :=
 (rt n a.Deps b.Deps).bind fun y1 =>
 if y1=true then
  if (a.Hart==b.Hart)=true then
   if (a.At==b.At)=true then
    if (a.Kind==b.Kind)=true then
     if (a.Addr==b.Addr)=true then
      if (a.Load==b.Load)=true then
       if (a.Store==b.Store)=true then
        if (a.Aq==b.Aq)=true then
         if (a.Rl==b.Rl)=true then
          if (a.Pred==b.Pred)=true then
           if (a.Succ==b.Succ)=true then
            some (a.Pair==b.Pair)
           else
            some false
          else
           some false
         else
          some false
        else
         some false
       else
        some false
      else
       some false
     else
      some false
    else
     some false
   else
    some false
  else
   some false
 else
  some false
def ij (n:Nat) (a:(List Event)) (b:(List Event)) (sa:Int):Option (Int⊕(Unit⊕Unit)) :=
 if (decide (sa<(a.length:Int)))=true then
  (ax a sa).bind fun xa2 =>
  (ax b sa).bind fun xa3 =>
  (pO n xa2 xa3).bind fun ya4 =>
  if (!ya4)=true then
   some (.inr (.inr ()))
  else
   some (.inl (ae .i64 sa 1))
 else
  some (.inr (.inl ()))
def lz (n:Nat) (a:(List Event)) (b:(List Event)):Option Bool :=
 if ((a.length:Int) != (b.length:Int))=true then
  some false
 else
  (iter (fun s=>ij n a b s) n 0).bind fun t2 =>
  match t2 with
  | .inl w3 =>
   some true
  | .inr w3 =>
   some false
def nY (n:Nat) (x:Int) (y:Int):Option (Int×Int) :=
 some ((ae .u64 (ae .u64 (cf .u64 (bL .u64 x 32) (bL .u64 y 32)) (bL .u64 (ae .u64 (cf .u64 (bL .u64 x 32) (bV .u64 y 4294967295)) (bL .u64 (cf .u64 (bV .u64 x 4294967295) (bV .u64 y 4294967295)) 32)) 32)) (bL .u64 (ae .u64 (bV .u64 (ae .u64 (cf .u64 (bL .u64 x 32) (bV .u64 y 4294967295)) (bL .u64 (cf .u64 (bV .u64 x 4294967295) (bV .u64 y 4294967295)) 32)) 4294967295) (cf .u64 (bV .u64 x 4294967295) (bL .u64 y 32))) 32)),(cf .u64 x y))
def j1 (n:Nat) (x:Int) (y:Int):Option (Int×Int) :=
 (nY n x y).bind fun y1 =>
 some (y1.1,y1.2)
def dv (n:Nat) (sa:(List Int)×Int):Option (((List Int)×Int)⊕((List Int))) :=
 if (decide (sa.2<(sa.1.length:Int)))=true then
  grd (decide ((0:Int)≤sa.2)&&decide (sa.2≤(sa.1.length:Int))) <|
  grd (decide ((0:Int)≤sa.2)&&decide (sa.2≤(sa.1.length:Int))) <|
  grd (Nat.ble ((sa.2).toNat + (sa.1.length - (sa.2).toNat)) sa.1.length) <|
  some (.inl ((sa.1.take ((sa.2).toNat)++(((sa.1.drop 0).take ((sa.2).toNat)).take (sa.1.length - (sa.2).toNat)++sa.1.drop ((sa.2).toNat + min ((sa.1.drop 0).take ((sa.2).toNat)).length (sa.1.length - (sa.2).toNat)))),(ae .i64 sa.2 ((min ((sa.1.drop 0).take ((sa.2).toNat)).length (sa.1.length - (sa.2).toNat):Nat):Int))))
 else
  some (.inr sa.1)
def de (n:Nat) (x:(List Int)) (count:Int):Option (List Int) :=
 if (decide (count<0))=true then
  none
 else
  (j1 n (IntKind.wrap .u64 (x.length:Int)) (IntKind.wrap .u64 count)).bind fun y2 =>
  if (decide (y2.1>0))=true then
   none
  else
   if (decide (y2.2>9223372036854775807))=true then
    none
   else
    grd (decide ((0:Int)≤(IntKind.wrap .i64 y2.2))&&decide ((IntKind.wrap .i64 y2.2)≤(IntKind.wrap .i64 y2.2))&&decide (8 * (IntKind.wrap .i64 y2.2)≤140737488355328)&&decide ((IntKind.wrap .i64 y2.2)≤140737488355328)&&Nat.blt 0 1) <|
    (iter (fun s=>dv n s) n ((x.take (List.replicate ((IntKind.wrap .i64 y2.2)).toNat 0).length++(List.replicate ((IntKind.wrap .i64 y2.2)).toNat 0).drop x.length),((min x.length (List.replicate ((IntKind.wrap .i64 y2.2)).toNat 0).length:Nat):Int))).bind fun t6 =>
    some t6
def jd (n:Nat) (c:ai) (sa:(List Int)×Int):Option (((List Int)×Int)⊕((List Int))) :=
 if (decide (sa.2<(c.Order.length:Int)))=true then
  (ax c.Order sa.2).bind fun xa2 =>
  (ax sa.1 xa2).bind fun xa3 =>
  some (.inl ((sa.1.set (xa2).toNat sa.2),(ae .i64 sa.2 1)))
 else
  some (.inr sa.1)
def iL (n:Nat) (c:ai):Option (List Int) :=
 (bW n c).bind fun y1 =>
 if (y1 != 0)=true then
  some ([]:List Int)
 else
  (de n ([(-1)]:List Int) (c.From.length:Int)).bind fun y3 =>
  (iter (fun s=>jd n c s) n (y3,0)).bind fun t4 =>
  some t4
def j3 (n:Nat) (c:ai) (sa:(List Int)×Int):Option (((List Int)×Int)⊕((List Int))) :=
 if (decide (sa.2<(sa.1.length:Int)))=true then
  (ax sa.1 sa.2).bind fun xa2 =>
  some (.inl ((sa.1.set (sa.2).toNat (-1)),(ae .i64 sa.2 1)))
 else
  some (.inr sa.1)
def j4 (n:Nat) (c:ai) (sa:(List Int)×Int):Option (((List Int)×Int)⊕((List Int))) :=
 if (decide (sa.2<(c.Order.length:Int)))=true then
  (ax c.Order sa.2).bind fun xa2 =>
  (ax sa.1 xa2).bind fun xa3 =>
  some (.inl ((sa.1.set (xa2).toNat sa.2),(ae .i64 sa.2 1)))
 else
  some (.inr sa.1)
def jL (n:Nat) (c:ai):Option (List Int) :=
 (dy n c).bind fun y1 =>
 if (y1 != 0)=true then
  some ([]:List Int)
 else
  grd (decide ((0:Int)≤(c.From.length:Int))&&decide ((c.From.length:Int)≤(c.From.length:Int))&&decide (8 * (c.From.length:Int)≤140737488355328)&&decide ((c.From.length:Int)≤140737488355328)&&Nat.blt 0 1) <|
  (iter (fun s=>j3 n c s) n ((List.replicate ((c.From.length:Int)).toNat 0),0)).bind fun t4 =>
  (iter (fun s=>j4 n c s) n (t4,0)).bind fun t5 =>
  some t5
def jM (n:Nat) (c:ai) (addr:Int):Option Int :=
 (bW n c).bind fun y1 =>
 if (y1 != 0)=true then
  some 0
 else
  (jJ n c.First addr).bind fun y3 =>
  some y3
def lk (n:Nat) (c:ai) (addr:Int):Option Int :=
 (dy n c).bind fun y1 =>
 if (y1 != 0)=true then
  some 0
 else
  (lj n c.First addr).bind fun y3 =>
  some y3
def fK (n:Nat) (l:(List Cell)) (addr:Int) (value:Int) (sa:(List Cell)×Int):Option (((List Cell)×Int)⊕((List Cell))) :=
 if (decide (sa.2<(l.length:Int)))=true then
  (ax l sa.2).bind fun xa2 =>
  if (decide (xa2.Addr<addr))=true then
   grd (Nat.ble ((sa.1.length + 1) * 16) 140737488355328) <|
   some (.inl ((sa.1++([xa2]:List Cell)),(ae .i64 sa.2 1)))
  else
   some (.inr sa.1)
 else
  some (.inr sa.1)
def fL (n:Nat) (l:(List Cell)) (addr:Int) (sa:(List Cell)×Int):Option (((List Cell)×Int)⊕((List Cell))) :=
 if (decide (sa.2<(l.length:Int)))=true then
  (ax l sa.2).bind fun xa2 =>
  if (decide (xa2.Addr>addr))=true then
   grd (Nat.ble ((sa.1.length + 1) * 16) 140737488355328) <|
   some (.inl ((sa.1++([xa2]:List Cell)),(ae .i64 sa.2 1)))
  else
   some (.inl (sa.1,(ae .i64 sa.2 1)))
 else
  some (.inr sa.1)
def ru (n:Nat) (l:(List Cell)) (addr:Int) (value:Int):Option (List Cell) :=
 (iter (fun s=>fK n l addr value s) n (([]:List Cell),0)).bind fun t1 =>
 if (value != 0)=true then
  grd (Nat.ble ((t1.length + 1) * 16) 140737488355328) <|
  (iter (fun s=>fL n l addr s) n ((t1++([(Cell.mk addr value)]:List Cell)),0)).bind fun t4 =>
  some t4
 else
  (iter (fun s=>fL n l addr s) n (t1,0)).bind fun t3 =>
  some t3
def iM (n:Nat) (c:ai) (y3:(List Event)) (sa:(List Cell)×Int):Option (((List Cell)×Int)⊕((List Cell))) :=
 if (decide (sa.2<(c.First.length:Int)))=true then
  (ax c.First sa.2).bind fun xa2 =>
  (ru n sa.1 xa2.Addr xa2.Value).bind fun ya3 =>
  some (.inl (ya3,(ae .i64 sa.2 1)))
 else
  some (.inr sa.1)
def iN (n:Nat) (c:ai) (y3:(List Event)) (sa:(List Cell)×Int):Option (((List Cell)×Int)⊕((List Cell))) :=
 if (decide (sa.2<(c.Order.length:Int)))=true then
  (ax c.Order sa.2).bind fun xa2 =>
  (ax y3 xa2).bind fun xa3 =>
  (fj n xa3).bind fun ya4 =>
  if ya4=true then
   (ru n sa.1 xa3.Addr xa3.Store).bind fun ya6 =>
   some (.inl (ya6,(ae .i64 sa.2 1)))
  else
   some (.inl (sa.1,(ae .i64 sa.2 1)))
 else
  some (.inr sa.1)
def mX (n:Nat) (c:ai):Option (List Cell) :=
 (dy n c).bind fun y1 =>
 if (y1 != 0)=true then
  some ([]:List Cell)
 else
  (lx n c).bind fun y3 =>
  (iter (fun s=>iM n c y3 s) n (([]:List Cell),0)).bind fun t4 =>
  (iter (fun s=>iN n c y3 s) n (t4,0)).bind fun t5 =>
  some t5
def bS (n:Nat) (s1_:(List Cell)) (s2_:(List Cell)) (sa:Int):Option (Int⊕(Unit⊕Unit)) :=
 if (decide (sa<(s1_.length:Int)))=true then
  (ax s1_ sa).bind fun xa2 =>
  (ax s2_ sa).bind fun xa3 =>
  if (!(Cell.beq xa2 xa3))=true then
   some (.inr (.inr ()))
  else
   some (.inl (ae .i64 sa 1))
 else
  some (.inr (.inl ()))
def cH (n:Nat) (s1_:(List Cell)) (s2_:(List Cell)):Option Bool :=
 if ((s1_.length:Int) != (s2_.length:Int))=true then
  some false
 else
  (iter (fun s=>bS n s1_ s2_ s) n 0).bind fun t2 =>
  match t2 with
  | .inl w3 =>
   some true
  | .inr w3 =>
   some false
def aA (n:Nat) (s1_:(List Event)) (s2_:(List Event)) (sa:Int):Option (Int⊕(Unit⊕Unit)) :=
 if (decide (sa<(s1_.length:Int)))=true then
  (ax s1_ sa).bind fun xa2 =>
  (ax s2_ sa).bind fun xa3 =>
  (iz n xa2 xa3).bind fun ya4 =>
  if (!ya4)=true then
   some (.inr (.inr ()))
  else
   some (.inl (ae .i64 sa 1))
 else
  some (.inr (.inl ()))
def bu (n:Nat) (s1_:(List Event)) (s2_:(List Event)):Option Bool :=
 if ((s1_.length:Int) != (s2_.length:Int))=true then
  some false
 else
  (iter (fun s=>aA n s1_ s2_ s) n 0).bind fun t2 =>
  match t2 with
  | .inl w3 =>
   some true
  | .inr w3 =>
   some false
def mi (n:Nat) (x:(List Event)) (y:(List Event)):Option Bool :=
 (bu n x y).bind fun y1 =>
 some y1
def aB (n:Nat) (s1_:(List (List Event))) (s2_:(List (List Event))) (sa:Int):Option (Int⊕(Unit⊕Unit)) :=
 if (decide (sa<(s1_.length:Int)))=true then
  (ax s1_ sa).bind fun xa2 =>
  (ax s2_ sa).bind fun xa3 =>
  (mi n xa2 xa3).bind fun ya4 =>
  if (!ya4)=true then
   some (.inr (.inr ()))
  else
   some (.inl (ae .i64 sa 1))
 else
  some (.inr (.inl ()))
def bz (n:Nat) (s1_:(List (List Event))) (s2_:(List (List Event))):Option Bool :=
 if ((s1_.length:Int) != (s2_.length:Int))=true then
  some false
 else
  (iter (fun s=>aB n s1_ s2_ s) n 0).bind fun t2 =>
  match t2 with
  | .inl w3 =>
   some true
  | .inr w3 =>
   some false
def mY (n:Nat) (a:ai) (b:ai):Option Bool :=
 (cH n a.First b.First).bind fun y1 =>
 if y1=true then
  (bz n a.Harts b.Harts).bind fun y3 =>
  if y3=true then
   (bF n a.From b.From).bind fun y5 =>
   if y5=true then
    (bF n a.Order b.Order).bind fun y7 =>
    some y7
   else
    some false
  else
   some false
 else
  some false
def km (n:Nat) (a:ai) (b:ai) (sa:Int):Option (Int⊕(Unit⊕Unit)) :=
 if (decide (sa<(a.Harts.length:Int)))=true then
  (ax a.Harts sa).bind fun xa2 =>
  (ax b.Harts sa).bind fun xa3 =>
  (lz n xa2 xa3).bind fun ya4 =>
  if (!ya4)=true then
   some (.inr (.inr ()))
  else
   some (.inl (ae .i64 sa 1))
 else
  some (.inr (.inl ()))
def oI (n:Nat) (a:ai) (b:ai):Option Bool :=
 if ((a.Harts.length:Int) != (b.Harts.length:Int))=true then
  some false
 else
  (iter (fun s=>km n a b s) n 0).bind fun t2 =>
  match t2 with
  | .inl w3 =>
   (f_ n a.First b.First).bind fun y4 =>
   if y4=true then
    (eF n a.From b.From).bind fun y6 =>
    if y6=true then
     (eF n a.Order b.Order).bind fun y8 =>
     some y8
    else
     some false
   else
    some false
  | .inr w3 =>
   some false
def j5 (n:Nat) (c:ai) (o:ai) (hart:Int) (at_:Int) (addr:Int):Option Bool :=
 (pM n).bind fun y1 =>
 if (!y1)=true then
  some false
 else
  (ig n c 60).bind fun y3 =>
  if (!y3)=true then
   some true
  else
   (ig n o 60).bind fun y5 =>
   if (!y5)=true then
    some true
   else
    (dB n c hart at_).bind fun y7 =>
    (ew n c hart at_).bind fun y8 =>
    if (y7.1==y8.1)=true then
     if (y7.2==y8.2)=true then
      (bW n c).bind fun y11 =>
      (dy n c).bind fun y12 =>
      if (y11==y12)=true then
       (kj n c).bind fun y14 =>
       (ly n y14).bind fun y15 =>
       (pN n c).bind fun y16 =>
       (lz n y15 y16).bind fun y17 =>
       if y17=true then
        (iL n c).bind fun y19 =>
        (jL n c).bind fun y20 =>
        (eF n y19 y20).bind fun y21 =>
        if y21=true then
         (jM n c addr).bind fun y23 =>
         (lk n c addr).bind fun y24 =>
         if (y23==y24)=true then
          (kj n c).bind fun y26 =>
          (jK n y26).bind fun y27 =>
          (mX n c).bind fun y28 =>
          (f_ n y27 y28).bind fun y29 =>
          if y29=true then
           (mY n c o).bind fun y31 =>
           (oI n c o).bind fun y32 =>
           some (y31==y32)
          else
           some false
         else
          some false
        else
         some false
       else
        some false
      else
       some false
     else
      some false
    else
     some false

end Go.Proofs.YtcckeabholabcaaGreat
