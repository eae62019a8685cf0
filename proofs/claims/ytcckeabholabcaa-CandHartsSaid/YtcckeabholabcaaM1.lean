/- What the functions compute, as functions on lists and numbers. Printed by a program from the code; nothing is claimed here. -/
import Derived.Test.YtcckeabholabcaaM0
namespace Go.Proofs.Ytcckeabholabcaa
open Go A
set_option linter.unusedVariables false

structure Cell where
  mk ::
  Addr:Int
  Value:Int
structure Deps where
  mk ::
  Addr:(List Int)
  Data:(List Int)
  Way:(List Int)
structure Event where
  mk ::
  Hart:Int
  At:Int
  Kind:Int
  Addr:Int
  Load:Int
  Store:Int
  Aq:Bool
  Rl:Bool
  Pred:Int
  Succ:Int
  Pair:Int
  Deps:Deps
structure az where
  mk ::
  First:(List Cell)
  Harts:(List (List Event))
  From:(List Int)
  Order:(List Int)
structure bf where
  mk ::
  hart:Int
  at_:Int
  kind:Int
  pred:Int
  succ:Int
  pair:Int
  addr:Int
  load:Int
  store:Int
  aq:Bool
  rl:Bool
def Cell.beq (x y:Cell):Bool:=((x.Addr==y.Addr)&&(x.Value==y.Value))
theorem Cell.beq_eq {x y:Cell} (h:Cell.beq x y=true):x=y:=by
  obtain ⟨a1,a2⟩:=x
  obtain ⟨b3,b4⟩:=y
  unfold Cell.beq at h
  simp only [Bool.and_eq_true,beq_iff_eq] at h
  simp_all
theorem Cell.beq_refl (x:Cell):Cell.beq x x=true:=by
  unfold Cell.beq
  simp
def bf.beq (x y:bf):Bool:=((x.hart==y.hart)&&((x.at_==y.at_)&&((x.kind==y.kind)&&((x.pred==y.pred)&&((x.succ==y.succ)&&((x.pair==y.pair)&&((x.addr==y.addr)&&((x.load==y.load)&&((x.store==y.store)&&((x.aq==y.aq)&&(x.rl==y.rl)))))))))))
theorem bf.beq_eq {x y:bf} (h:bf.beq x y=true):x=y:=by
  obtain ⟨a5,a6,a7,a8,a9,a10,a11,a12,a13,a14,a15⟩:=x
  obtain ⟨Kz,b17,b18,b19,b20,b21,b22,b23,b24,b25,b26⟩:=y
  unfold bf.beq at h
  simp only [Bool.and_eq_true,beq_iff_eq] at h
  simp_all
theorem bf.beq_refl (x:bf):bf.beq x x=true:=by
  unfold bf.beq
  simp
def Cell.wf (x:Cell):Prop:=(u4 .u64 x.Addr)∧(u4 .u64 x.Value)
def Deps.wf (x:Deps):Prop:=(x.Addr.length≤maxLen∧∀ z∈x.Addr,u4 .i64 z)∧(x.Data.length≤maxLen∧∀ z∈x.Data,u4 .i64 z)∧(x.Way.length≤maxLen∧∀ z∈x.Way,u4 .i64 z)
def Event.wf (x:Event):Prop:=(u4 .i64 x.Hart)∧(u4 .i64 x.At)∧(u4 .i64 x.Kind)∧(u4 .u64 x.Addr)∧(u4 .u64 x.Load)∧(u4 .u64 x.Store)∧(True)∧(True)∧(u4 .i64 x.Pred)∧(u4 .i64 x.Succ)∧(u4 .i64 x.Pair)∧(Deps.wf x.Deps)
def az.wf (x:az):Prop:=(x.First.length≤maxLen∧∀ z∈x.First,Cell.wf z)∧(x.Harts.length≤maxLen∧∀ z∈x.Harts,z.length≤maxLen∧∀ zz∈z,Event.wf zz)∧(x.From.length≤maxLen∧∀ z∈x.From,u4 .i64 z)∧(x.Order.length≤maxLen∧∀ z∈x.Order,u4 .i64 z)
def ky (n:Nat) (from_:Int):Option az :=
 some (az.mk ([]:List Cell) ([([(Event.mk 0 0 2 8 0 1 false false 0 0 0 (Deps.mk ([]:List Int) ([]:List Int) ([]:List Int)))]:List Event),([(Event.mk 1 0 1 8 1 0 false false 0 0 0 (Deps.mk ([]:List Int) ([]:List Int) ([]:List Int)))]:List Event)]:List (List Event)) ([(-1),from_]:List Int) ([0,1]:List Int))
def iU (n:Nat) (l:(List Cell)) (sa:Int):Option (Int⊕(Unit⊕Unit)) :=
 if (decide (sa<(l.length:Int)))=true then
  (aH l sa).bind fun xa2 =>
  if ((kO .u64 xa2.Addr 8) != 0)=true then
   some (.inr (.inr ()))
  else
   if (decide (sa>0))=true then
    (aH l (ai .i64 sa 1)).bind fun xa5 =>
    if (decide (xa5.Addr≥xa2.Addr))=true then
     some (.inr (.inr ()))
    else
     some (.inl (ad .i64 sa 1))
   else
    some (.inl (ad .i64 sa 1))
 else
  some (.inr (.inl ()))
def iG (n:Nat) (l:(List Cell)):Option Bool :=
 (iter (fun s=>iU n l s) n 0).bind fun t1 =>
 match t1 with
 | .inl w2 =>
  some true
 | .inr w2 =>
  some false
def jJ (n:Nat) (kind:Int):Option Int :=
 if (decide (kind<1))=true then
  some 0
 else
  if (decide (kind>6))=true then
   some 0
  else
   if (kind==0)=true then
    some 0
   else
    if (kind==1)=true then
     some 1
    else
     if (kind==2)=true then
      some 2
     else
      if (kind==3)=true then
       some 5
      else
       if (kind==4)=true then
        some 14
       else
        if (kind==5)=true then
         some 7
        else
         if (kind==6)=true then
          some 16
         else
          none
def bz (n:Nat) (s1_:(List Int)) (s2_:(List Int)) (sa:Int):Option (Int⊕(Unit⊕Unit)) :=
 if (decide (sa<(s1_.length:Int)))=true then
  (aH s1_ sa).bind fun xa2 =>
  (aH s2_ sa).bind fun xa3 =>
  if (xa2 != xa3)=true then
   some (.inr (.inr ()))
  else
   some (.inl (ad .i64 sa 1))
 else
  some (.inr (.inl ()))
def cG (n:Nat) (s1_:(List Int)) (s2_:(List Int)):Option Bool :=
 if ((s1_.length:Int) != (s2_.length:Int))=true then
  some false
 else
  (iter (fun s=>bz n s1_ s2_ s) n 0).bind fun t2 =>
  match t2 with
  | .inl w3 =>
   some true
  | .inr w3 =>
   some false
def jA (n:Nat) (e:Event):Option bf :=
 some (bf.mk e.Hart e.At e.Kind e.Pred e.Succ e.Pair e.Addr e.Load e.Store e.Aq e.Rl)
def lA (n:Nat) (a:Event) (b:Event):Option Bool :=
 (cG n a.Deps.Addr b.Deps.Addr).bind fun y1 =>
 if (!y1)=true then
  some false
 else
  (cG n a.Deps.Data b.Deps.Data).bind fun y3 =>
  if (!y3)=true then
   some false
  else
   (cG n a.Deps.Way b.Deps.Way).bind fun y5 =>
   if (!y5)=true then
    some false
   else
    (jA n a).bind fun y7 =>
    (jA n b).bind fun y8 =>
    if (bf.beq y7 y8)=true then
     some true
    else
     some false
def cW (n:Nat) (l:(List Int)) (sa:Int×Int):Option ((Int×Int)⊕(Unit⊕Unit)) :=
 if (decide (sa.2<(l.length:Int)))=true then
  (aH l sa.2).bind fun xa2 =>
  if (decide (xa2≤sa.1))=true then
   some (.inr (.inr ()))
  else
   some (.inl (xa2,(ad .i64 sa.2 1)))
 else
  some (.inr (.inl ()))
def jB (n:Nat) (l:(List Int)):Option Bool :=
 (iter (fun s=>cW n l s) n ((-1),0)).bind fun t1 =>
 match t1 with
 | .inl w2 =>
  some true
 | .inr w2 =>
  some false
def eo (n:Nat) (l:(List Int)) (at_:Int):Option Bool :=
 (jB n l).bind fun y1 =>
 if y1=true then
  if ((l.length:Int)==0)=true then
   some true
  else
   (aH l (ai .i64 (l.length:Int) 1)).bind fun x4 =>
   some (decide (x4<at_))
 else
  some false
def cU (n:Nat) (e:Event) (y1:Int) (sf:Int×(List Int)×(List Int)×(List Int)×Int×Int×Int×Bool×Bool×Int×Int):Option Int :=
 if (y1==0)=true then
  some 2
 else
  if (decide (e.Hart<0))=true then
   some 2
  else
   if (decide (e.Hart≥8))=true then
    some 2
   else
    if (decide (e.At<0))=true then
     some 2
    else
     (lA n (Event.mk e.Hart e.At e.Kind sf.2.2.2.2.1 sf.2.2.2.2.2.1 sf.2.2.2.2.2.2.1 sf.2.2.2.2.2.2.2.1 sf.2.2.2.2.2.2.2.2.1 sf.2.2.2.2.2.2.2.2.2.1 sf.2.2.2.2.2.2.2.2.2.2 sf.1 (Deps.mk sf.2.1 sf.2.2.1 sf.2.2.2.1)) e).bind fun yf5 =>
     if (!yf5)=true then
      some 2
     else
      if ((kO .u64 e.Addr 8) != 0)=true then
       some 2
      else
       if (decide (e.Pred<0))=true then
        some 2
       else
        if (decide (e.Pred>15))=true then
         some 2
        else
         if (decide (e.Succ<0))=true then
          some 2
         else
          if (decide (e.Succ>15))=true then
           some 2
          else
           if ((cf .u64 y1 8) != 0)=true then
            if (decide (e.Pair<0))=true then
             some 2
            else
             if (decide (e.Pair≥e.At))=true then
              some 2
             else
              (eo n e.Deps.Addr e.At).bind fun yf15 =>
              if (!yf15)=true then
               some 2
              else
               (eo n e.Deps.Data e.At).bind fun yf17 =>
               if (!yf17)=true then
                some 2
               else
                (eo n e.Deps.Way e.At).bind fun yf19 =>
                if (!yf19)=true then
                 some 2
                else
                 some 0
           else
            (eo n e.Deps.Addr e.At).bind fun yf13 =>
            if (!yf13)=true then
             some 2
            else
             (eo n e.Deps.Data e.At).bind fun yf15 =>
             if (!yf15)=true then
              some 2
             else
              (eo n e.Deps.Way e.At).bind fun yf17 =>
              if (!yf17)=true then
               some 2
              else
               some 0
def dx (n:Nat) (e:Event) (y1:Int) (se:(List Int)×(List Int)×(List Int)×Int×Int×Int×Bool×Bool×Int×Int):Option Int :=
 if ((cf .u64 y1 8) != 0)=true then
  (cU n e y1 (e.Pair,se.1,se.2.1,se.2.2.1,se.2.2.2.1,se.2.2.2.2.1,se.2.2.2.2.2.1,se.2.2.2.2.2.2.1,se.2.2.2.2.2.2.2.1,se.2.2.2.2.2.2.2.2.1,se.2.2.2.2.2.2.2.2.2)).bind fun te2 =>
  some te2
 else
  (cU n e y1 (0,se.1,se.2.1,se.2.2.1,se.2.2.2.1,se.2.2.2.2.1,se.2.2.2.2.2.1,se.2.2.2.2.2.2.1,se.2.2.2.2.2.2.2.1,se.2.2.2.2.2.2.2.2.1,se.2.2.2.2.2.2.2.2.2)).bind fun te2 =>
  some te2
def dy (n:Nat) (e:Event) (y1:Int) (sd:(List Int)×(List Int)×(List Int)×Int×Int×Int×Int×Int):Option Int :=
 if ((cf .u64 y1 4) != 0)=true then
  (dx n e y1 (sd.1,sd.2.1,sd.2.2.1,sd.2.2.2.1,sd.2.2.2.2.1,sd.2.2.2.2.2.1,e.Aq,e.Rl,sd.2.2.2.2.2.2.1,sd.2.2.2.2.2.2.2)).bind fun td2 =>
  some td2
 else
  (dx n e y1 (sd.1,sd.2.1,sd.2.2.1,sd.2.2.2.1,sd.2.2.2.2.1,sd.2.2.2.2.2.1,false,false,sd.2.2.2.2.2.2.1,sd.2.2.2.2.2.2.2)).bind fun td2 =>
  some td2
def dz (n:Nat) (e:Event) (y1:Int) (sb:(List Int)×(List Int)×Int×Int×Int×Int):Option Int :=
 if ((cf .u64 y1 2) != 0)=true then
  (dy n e y1 (sb.1,e.Deps.Data,sb.2.1,sb.2.2.1,sb.2.2.2.1,e.Store,sb.2.2.2.2.1,sb.2.2.2.2.2)).bind fun tb2 =>
  some tb2
 else
  (dy n e y1 (sb.1,([]:List Int),sb.2.1,sb.2.2.1,sb.2.2.2.1,0,sb.2.2.2.2.1,sb.2.2.2.2.2)).bind fun tb2 =>
  some tb2
def dA (n:Nat) (e:Event) (y1:Int) (sa:(List Int)×(List Int)×Int×Int×Int):Option Int :=
 if ((cf .u64 y1 1) != 0)=true then
  (dz n e y1 (sa.1,sa.2.1,sa.2.2.1,e.Load,sa.2.2.2.1,sa.2.2.2.2)).bind fun ta2 =>
  some ta2
 else
  (dz n e y1 (sa.1,sa.2.1,sa.2.2.1,0,sa.2.2.2.1,sa.2.2.2.2)).bind fun ta2 =>
  some ta2
def i7 (n:Nat) (e:Event):Option Int :=
 (jJ n e.Kind).bind fun y1 =>
 if ((cf .u64 y1 16) != 0)=true then
  (dA n e y1 (([]:List Int),([]:List Int),0,e.Pred,e.Succ)).bind fun t3 =>
  some t3
 else
  (dA n e y1 (e.Deps.Addr,e.Deps.Way,e.Addr,0,0)).bind fun t3 =>
  some t3
def hH (n:Nat) (hart:Int) (l:(List Event)) (sa:Int×Int):Option ((Int×Int)⊕(Unit⊕Unit)) :=
 if (decide (sa.1<(l.length:Int)))=true then
  (aH l sa.1).bind fun xa2 =>
  (i7 n xa2).bind fun ya3 =>
  if (ya3 != 0)=true then
   some (.inr (.inr ()))
  else
   if (xa2.Hart != hart)=true then
    some (.inr (.inr ()))
   else
    if (xa2.At != sa.1)=true then
     some (.inr (.inr ()))
    else
     if (xa2.Kind==3)=true then
      some (.inl ((ad .i64 sa.1 1),sa.1))
     else
      if (xa2.Kind==4)=true then
       if (xa2.Pair != sa.2)=true then
        some (.inr (.inr ()))
       else
        (aH l sa.2).bind fun xa10 =>
        if (xa10.Addr != xa2.Addr)=true then
         some (.inr (.inr ()))
        else
         some (.inl ((ad .i64 sa.1 1),(-1)))
      else
       some (.inl ((ad .i64 sa.1 1),sa.2))
 else
  some (.inr (.inl ()))
def iH (n:Nat) (hart:Int) (l:(List Event)):Option Int :=
 (iter (fun s=>hH n hart l s) n (0,(-1))).bind fun t1 =>
 match t1 with
 | .inl w2 =>
  some 0
 | .inr w2 =>
  some 4
def bW (n:Nat) (n_:Int):Option ((Nat×Nat×Nat×(List Event))⊕Unit) :=
 if (decide (n_<0))=true then
  none
 else
  if (decide ((ai .i64 n_ 0)>0))=true then
   grd (Nat.blt 0 14&&Nat.blt 0 152&&decide (0<(ai .i64 n_ 0))&&decide ((ai .i64 n_ 0) * 152≤140737488355328)&&decide ((ai .i64 n_ 0)≤140737488355328)) <|
   grd (decide ((0:Int)≤0)&&decide (0≤(((ai .i64 n_ 0)).toNat:Int))) <|
   some (.inl (0,0,((ai .i64 n_ 0)).toNat,(List.replicate ((ai .i64 n_ 0)).toNat (Event.mk 0 0 0 0 0 0 false false 0 0 0 (Deps.mk ([]:List Int) ([]:List Int) ([]:List Int))))))
  else
   some (.inr ())
def bM (n:Nat) (slices:(List (List Event))) (sa:Int×Int):Option ((Int×Int)⊕Int) :=
 if (decide (sa.1<(slices.length:Int)))=true then
  (aH slices sa.1).bind fun xa2 =>
  if (decide ((ad .i64 sa.2 (xa2.length:Int))<0))=true then
   none
  else
   some (.inl ((ad .i64 sa.1 1),(ad .i64 sa.2 (xa2.length:Int))))
 else
  some (.inr sa.2)
def bN (n:Nat) (slices:(List (List Event))) (wa3:Nat×Nat×Nat×(List Event)) (sa:Nat×Nat×(List Event)×Int):Option ((Nat×Nat×(List Event)×Int)⊕(Nat×Nat×(List Event))) :=
 if (decide (sa.2.2.2<(slices.length:Int)))=true then
  (aH slices sa.2.2.2).bind fun xa2 =>
  grd (Nat.ble xa2.length sa.2.1) <|
  grd (Nat.ble (wa3.1 + sa.1 + sa.2.1) sa.2.2.1.length) <|
  some (.inl ((sa.1 + xa2.length),(sa.2.1 - xa2.length),(sa.2.2.1.take (wa3.1 + sa.1)++(xa2++sa.2.2.1.drop (wa3.1 + sa.1 + xa2.length))),(ad .i64 sa.2.2.2 1)))
 else
  some (.inr (sa.1,sa.2.1,sa.2.2.1))
def bn (n:Nat) (slices:(List (List Event))) (sa:(List Event)×Int):Option (((List Event)×Int)⊕((List Event))) :=
 if (decide (sa.2<(slices.length:Int)))=true then
  (aH slices sa.2).bind fun xa2 =>
  grd (Nat.ble ((sa.1.length + xa2.length) * 152) 140737488355328) <|
  some (.inl ((sa.1++xa2),(ad .i64 sa.2 1)))
 else
  some (.inr sa.1)
def bC (n:Nat) (slices:(List (List Event))):Option (List Event) :=
 (iter (fun s=>bM n slices s) n (0,0)).bind fun t1 =>
 (bW n t1).bind fun y2 =>
 match y2 with
 | .inl wa3 =>
  (iter (fun s=>bN n slices wa3 s) n (wa3.2.1,wa3.2.2.1,wa3.2.2.2,0)).bind fun t4 =>
  some ((t4.2.2.drop wa3.1).take t4.1)
 | .inr wb3 =>
  (iter (fun s=>bn n slices s) n (([]:List Event),0)).bind fun t4 =>
  some t4
def gO (n:Nat) (oA:(List Cell)) (oB:(List (List Event))) (oC:(List Int)) (oD:(List Int)):Option (List Event) :=
 (bC n oB).bind fun y1 =>
 some y1
def i8 (n:Nat) (e:Event):Option Bool :=
 (jJ n e.Kind).bind fun y1 =>
 some ((cf .u64 y1 1) != 0)
def c_ (n:Nat) (x:Int):Option Bool :=
 some (x != x)
def eP (n:Nat) (x:Int) (y:Int):Option Int :=
 (c_ n x).bind fun y1 =>
 (c_ n y).bind fun y2 =>
 if y1=true then
  if y2=true then
   some 0
  else
   some (-1)
 else
  if y2=true then
   some 1
  else
   if (decide (x<y))=true then
    some (-1)
   else
    if (decide (x>y))=true then
     some 1
    else
     some 0
def hU (n:Nat) (x:Cell) (a:Int):Option Int :=
 (eP n x.Addr a).bind fun y1 =>
 some y1
def aE (n:Nat) (x:(List Cell)) (target:Int) (sa:Int×Int):Option ((Int×Int)⊕Int) :=
 if (decide (sa.2<sa.1))=true then
  (aH x (IntKind.wrap .i64 (bU .u64 (IntKind.wrap .u64 (ad .i64 sa.2 sa.1)) 1))).bind fun xa2 =>
  (hU n xa2 target).bind fun ya3 =>
  if (decide (ya3<0))=true then
   some (.inl (sa.1,(ad .i64 (IntKind.wrap .i64 (bU .u64 (IntKind.wrap .u64 (ad .i64 sa.2 sa.1)) 1)) 1)))
  else
   some (.inl ((IntKind.wrap .i64 (bU .u64 (IntKind.wrap .u64 (ad .i64 sa.2 sa.1)) 1)),sa.2))
 else
  some (.inr sa.2)
def bE (n:Nat) (x:(List Cell)) (target:Int):Option (Int×Bool) :=
 (iter (fun s=>aE n x target s) n ((x.length:Int),0)).bind fun t1 =>
 if (decide (t1<(x.length:Int)))=true then
  (aH x t1).bind fun x3 =>
  (hU n x3 target).bind fun y4 =>
  some (t1,(y4==0))
 else
  some (t1,false)
def jQ (n:Nat) (l:(List Cell)) (addr:Int):Option Int :=
 (bE n l addr).bind fun y1 =>
 if (!y1.2)=true then
  some 0
 else
  (aH l y1.1).bind fun x3 =>
  some x3.Value
def eQ (n:Nat) (e:Event):Option Bool :=
 (jJ n e.Kind).bind fun y1 =>
 some ((cf .u64 y1 2) != 0)
def de (n:Nat) (c:az) (all:(List Event)) (n_:Int):Option Bool :=
 (aH all n_).bind fun x1 =>
 (aH c.From n_).bind fun x2 =>
 (i8 n x1).bind fun y3 =>
 if (!y3)=true then
  some (x2==(-1))
 else
  if (x2==(-1))=true then
   (jQ n c.First x1.Addr).bind fun y6 =>
   some (x1.Load==y6)
  else
   if (decide (x2<0))=true then
    some false
   else
    if (decide (x2≥(all.length:Int)))=true then
     some false
    else
     if (x2==n_)=true then
      some false
     else
      (aH all x2).bind fun x9 =>
      (eQ n x9).bind fun y10 =>
      if y10=true then
       if (x9.Addr==x1.Addr)=true then
        some (x9.Store==x1.Load)
       else
        some false
      else
       some false
def hZ (n:Nat) (e:Event):Option Bool :=
 (i8 n e).bind fun y1 =>
 if y1=true then
  some true
 else
  (eQ n e).bind fun y3 =>
  some y3
def e8 (n:Nat) (c:az) (all:(List Event)) (sa:(List Bool)×Int×Int):Option (((List Bool)×Int×Int)⊕((List Bool)×Int)) :=
 if (decide (sa.2.1<(all.length:Int)))=true then
  (aH all sa.2.1).bind fun xa2 =>
  (hZ n xa2).bind fun ya3 =>
  if ya3=true then
   (aH sa.1 sa.2.1).bind fun xa5 =>
   some (.inl ((sa.1.set (sa.2.1).toNat true),(ad .i64 sa.2.1 1),(ad .i64 sa.2.2 1)))
  else
   some (.inl (sa.1,(ad .i64 sa.2.1 1),sa.2.2))
 else
  some (.inr (sa.1,sa.2.2))
def e9 (n:Nat) (c:az) (sa:(List Bool)×Int×Int):Option (((List Bool)×Int×Int)⊕(Int⊕Unit)) :=
 if (decide (sa.2.1<(c.Order.length:Int)))=true then
  (aH c.Order sa.2.1).bind fun xa2 =>
  if (decide (xa2<0))=true then
   some (.inr (.inr ()))
  else
   if (decide (xa2≥(sa.1.length:Int)))=true then
    some (.inr (.inr ()))
   else
    (aH sa.1 xa2).bind fun xa5 =>
    if (!xa5)=true then
     some (.inr (.inr ()))
    else
     some (.inl ((sa.1.set (xa2).toNat false),(ad .i64 sa.2.1 1),(ai .i64 sa.2.2 1)))
 else
  some (.inr (.inl sa.2.2))
def ep (n:Nat) (c:az) (all:(List Event)):Option Bool :=
 grd (decide ((0:Int)≤(all.length:Int))&&decide ((all.length:Int)≤(all.length:Int))&&decide (1 * (all.length:Int)≤140737488355328)&&decide ((all.length:Int)≤140737488355328)&&Nat.blt 0 1) <|
 (iter (fun s=>e8 n c all s) n ((List.replicate ((all.length:Int)).toNat false),0,0)).bind fun t2 =>
 (iter (fun s=>e9 n c s) n (t2.1,0,t2.2)).bind fun t3 =>
 match t3 with
 | .inl w4 =>
  some (w4==0)
 | .inr w4 =>
  some false
def fg (n:Nat) (c:az) (sa:Int×Int):Option ((Int×Int)⊕(Int⊕Unit)) :=
 if (decide (sa.1<(c.Harts.length:Int)))=true then
  (aH c.Harts sa.1).bind fun xa2 =>
  if (decide ((ad .i64 sa.2 (xa2.length:Int))>4096))=true then
   some (.inr (.inr ()))
  else
   (iH n sa.1 xa2).bind fun ya4 =>
   if (ya4 != 0)=true then
    some (.inr (.inr ()))
   else
    some (.inl ((ad .i64 sa.1 1),(ad .i64 sa.2 (xa2.length:Int))))
 else
  some (.inr (.inl sa.2))
def gl (n:Nat) (c:az) (y7:(List Event)) (sa:Int):Option (Int⊕(Unit⊕Unit)) :=
 if (decide (sa<(y7.length:Int)))=true then
  (de n c y7 sa).bind fun ya2 =>
  if (!ya2)=true then
   some (.inr (.inr ()))
  else
   some (.inl (ad .i64 sa 1))
 else
  some (.inr (.inl ()))
def di (n:Nat) (c:az):Option Int :=
 (iG n c.First).bind fun y1 =>
 if (!y1)=true then
  some 2
 else
  if (decide ((c.Harts.length:Int)<1))=true then
   some 2
  else
   if (decide ((c.Harts.length:Int)>8))=true then
    some 2
   else
    (iter (fun s=>fg n c s) n (0,0)).bind fun t5 =>
    match t5 with
    | .inl w6 =>
     (gO n c.First c.Harts c.From c.Order).bind fun y7 =>
     if ((c.From.length:Int) != w6)=true then
      some 2
     else
      (iter (fun s=>gl n c y7 s) n 0).bind fun t9 =>
      match t9 with
      | .inl w10 =>
       (ep n c y7).bind fun y11 =>
       if (!y11)=true then
        some 2
       else
        some 0
      | .inr w10 =>
       some 2
    | .inr w6 =>
     some 2
def bT (n:Nat) (oA:(List Cell)) (oB:(List (List Event))) (oC:(List Int)) (oD:(List Int)) (oE:(List (Int×Int))):Option Unit :=
 some ()
def md (n:Nat) (x:Int):Option Int :=
 if (decide (x≥4294967296))=true then
  if (decide ((bU .u64 x 32)≥65536))=true then
   if (decide ((bU .u64 (bU .u64 x 32) 16)≥256))=true then
    (gN (ByteArray.mk #[0,1,2,2,3,3,3,3,4,4,4,4,4,4,4,4,5,5,5,5,5,5,5,5,5,5,5,5,5,5,5,5,6,6,6,6,6,6,6,6,6,6,6,6,6,6,6,6,6,6,6,6,6,6,6,6,6,6,6,6,6,6,6,6,7,7,7,7,7,7,7,7,7,7,7,7,7,7,7,7,7,7,7,7,7,7,7,7,7,7,7,7,7,7,7,7,7,7,7,7,7,7,7,7,7,7,7,7,7,7,7,7,7,7,7,7,7,7,7,7,7,7,7,7,7,7,7,7,8,8,8,8,8,8,8,8,8,8,8,8,8,8,8,8,8,8,8,8,8,8,8,8,8,8,8,8,8,8,8,8,8,8,8,8,8,8,8,8,8,8,8,8,8,8,8,8,8,8,8,8,8,8,8,8,8,8,8,8,8,8,8,8,8,8,8,8,8,8,8,8,8,8,8,8,8,8,8,8,8,8,8,8,8,8,8,8,8,8,8,8,8,8,8,8,8,8,8,8,8,8,8,8,8,8,8,8,8,8,8,8,8,8,8,8,8,8,8,8,8,8,8,8,8,8,8,8]) (IntKind.wrap .u8 (bU .u64 (bU .u64 (bU .u64 x 32) 16) 8))).bind fun x4 =>
    some (ad .i64 56 (IntKind.wrap .i64 x4))
   else
    (gN (ByteArray.mk #[0,1,2,2,3,3,3,3,4,4,4,4,4,4,4,4,5,5,5,5,5,5,5,5,5,5,5,5,5,5,5,5,6,6,6,6,6,6,6,6,6,6,6,6,6,6,6,6,6,6,6,6,6,6,6,6,6,6,6,6,6,6,6,6,7,7,7,7,7,7,7,7,7,7,7,7,7,7,7,7,7,7,7,7,7,7,7,7,7,7,7,7,7,7,7,7,7,7,7,7,7,7,7,7,7,7,7,7,7,7,7,7,7,7,7,7,7,7,7,7,7,7,7,7,7,7,7,7,8,8,8,8,8,8,8,8,8,8,8,8,8,8,8,8,8,8,8,8,8,8,8,8,8,8,8,8,8,8,8,8,8,8,8,8,8,8,8,8,8,8,8,8,8,8,8,8,8,8,8,8,8,8,8,8,8,8,8,8,8,8,8,8,8,8,8,8,8,8,8,8,8,8,8,8,8,8,8,8,8,8,8,8,8,8,8,8,8,8,8,8,8,8,8,8,8,8,8,8,8,8,8,8,8,8,8,8,8,8,8,8,8,8,8,8,8,8,8,8,8,8,8,8,8,8,8,8]) (IntKind.wrap .u8 (bU .u64 (bU .u64 x 32) 16))).bind fun x4 =>
    some (ad .i64 48 (IntKind.wrap .i64 x4))
  else
   if (decide ((bU .u64 x 32)≥256))=true then
    (gN (ByteArray.mk #[0,1,2,2,3,3,3,3,4,4,4,4,4,4,4,4,5,5,5,5,5,5,5,5,5,5,5,5,5,5,5,5,6,6,6,6,6,6,6,6,6,6,6,6,6,6,6,6,6,6,6,6,6,6,6,6,6,6,6,6,6,6,6,6,7,7,7,7,7,7,7,7,7,7,7,7,7,7,7,7,7,7,7,7,7,7,7,7,7,7,7,7,7,7,7,7,7,7,7,7,7,7,7,7,7,7,7,7,7,7,7,7,7,7,7,7,7,7,7,7,7,7,7,7,7,7,7,7,8,8,8,8,8,8,8,8,8,8,8,8,8,8,8,8,8,8,8,8,8,8,8,8,8,8,8,8,8,8,8,8,8,8,8,8,8,8,8,8,8,8,8,8,8,8,8,8,8,8,8,8,8,8,8,8,8,8,8,8,8,8,8,8,8,8,8,8,8,8,8,8,8,8,8,8,8,8,8,8,8,8,8,8,8,8,8,8,8,8,8,8,8,8,8,8,8,8,8,8,8,8,8,8,8,8,8,8,8,8,8,8,8,8,8,8,8,8,8,8,8,8,8,8,8,8,8,8]) (IntKind.wrap .u8 (bU .u64 (bU .u64 x 32) 8))).bind fun x4 =>
    some (ad .i64 40 (IntKind.wrap .i64 x4))
   else
    (gN (ByteArray.mk #[0,1,2,2,3,3,3,3,4,4,4,4,4,4,4,4,5,5,5,5,5,5,5,5,5,5,5,5,5,5,5,5,6,6,6,6,6,6,6,6,6,6,6,6,6,6,6,6,6,6,6,6,6,6,6,6,6,6,6,6,6,6,6,6,7,7,7,7,7,7,7,7,7,7,7,7,7,7,7,7,7,7,7,7,7,7,7,7,7,7,7,7,7,7,7,7,7,7,7,7,7,7,7,7,7,7,7,7,7,7,7,7,7,7,7,7,7,7,7,7,7,7,7,7,7,7,7,7,8,8,8,8,8,8,8,8,8,8,8,8,8,8,8,8,8,8,8,8,8,8,8,8,8,8,8,8,8,8,8,8,8,8,8,8,8,8,8,8,8,8,8,8,8,8,8,8,8,8,8,8,8,8,8,8,8,8,8,8,8,8,8,8,8,8,8,8,8,8,8,8,8,8,8,8,8,8,8,8,8,8,8,8,8,8,8,8,8,8,8,8,8,8,8,8,8,8,8,8,8,8,8,8,8,8,8,8,8,8,8,8,8,8,8,8,8,8,8,8,8,8,8,8,8,8,8,8]) (IntKind.wrap .u8 (bU .u64 x 32))).bind fun x4 =>
    some (ad .i64 32 (IntKind.wrap .i64 x4))
 else
  if (decide (x≥65536))=true then
   if (decide ((bU .u64 x 16)≥256))=true then
    (gN (ByteArray.mk #[0,1,2,2,3,3,3,3,4,4,4,4,4,4,4,4,5,5,5,5,5,5,5,5,5,5,5,5,5,5,5,5,6,6,6,6,6,6,6,6,6,6,6,6,6,6,6,6,6,6,6,6,6,6,6,6,6,6,6,6,6,6,6,6,7,7,7,7,7,7,7,7,7,7,7,7,7,7,7,7,7,7,7,7,7,7,7,7,7,7,7,7,7,7,7,7,7,7,7,7,7,7,7,7,7,7,7,7,7,7,7,7,7,7,7,7,7,7,7,7,7,7,7,7,7,7,7,7,8,8,8,8,8,8,8,8,8,8,8,8,8,8,8,8,8,8,8,8,8,8,8,8,8,8,8,8,8,8,8,8,8,8,8,8,8,8,8,8,8,8,8,8,8,8,8,8,8,8,8,8,8,8,8,8,8,8,8,8,8,8,8,8,8,8,8,8,8,8,8,8,8,8,8,8,8,8,8,8,8,8,8,8,8,8,8,8,8,8,8,8,8,8,8,8,8,8,8,8,8,8,8,8,8,8,8,8,8,8,8,8,8,8,8,8,8,8,8,8,8,8,8,8,8,8,8,8]) (IntKind.wrap .u8 (bU .u64 (bU .u64 x 16) 8))).bind fun x4 =>
    some (ad .i64 24 (IntKind.wrap .i64 x4))
   else
    (gN (ByteArray.mk #[0,1,2,2,3,3,3,3,4,4,4,4,4,4,4,4,5,5,5,5,5,5,5,5,5,5,5,5,5,5,5,5,6,6,6,6,6,6,6,6,6,6,6,6,6,6,6,6,6,6,6,6,6,6,6,6,6,6,6,6,6,6,6,6,7,7,7,7,7,7,7,7,7,7,7,7,7,7,7,7,7,7,7,7,7,7,7,7,7,7,7,7,7,7,7,7,7,7,7,7,7,7,7,7,7,7,7,7,7,7,7,7,7,7,7,7,7,7,7,7,7,7,7,7,7,7,7,7,8,8,8,8,8,8,8,8,8,8,8,8,8,8,8,8,8,8,8,8,8,8,8,8,8,8,8,8,8,8,8,8,8,8,8,8,8,8,8,8,8,8,8,8,8,8,8,8,8,8,8,8,8,8,8,8,8,8,8,8,8,8,8,8,8,8,8,8,8,8,8,8,8,8,8,8,8,8,8,8,8,8,8,8,8,8,8,8,8,8,8,8,8,8,8,8,8,8,8,8,8,8,8,8,8,8,8,8,8,8,8,8,8,8,8,8,8,8,8,8,8,8,8,8,8,8,8,8]) (IntKind.wrap .u8 (bU .u64 x 16))).bind fun x4 =>
    some (ad .i64 16 (IntKind.wrap .i64 x4))
  else
   if (decide (x≥256))=true then
    (gN (ByteArray.mk #[0,1,2,2,3,3,3,3,4,4,4,4,4,4,4,4,5,5,5,5,5,5,5,5,5,5,5,5,5,5,5,5,6,6,6,6,6,6,6,6,6,6,6,6,6,6,6,6,6,6,6,6,6,6,6,6,6,6,6,6,6,6,6,6,7,7,7,7,7,7,7,7,7,7,7,7,7,7,7,7,7,7,7,7,7,7,7,7,7,7,7,7,7,7,7,7,7,7,7,7,7,7,7,7,7,7,7,7,7,7,7,7,7,7,7,7,7,7,7,7,7,7,7,7,7,7,7,7,8,8,8,8,8,8,8,8,8,8,8,8,8,8,8,8,8,8,8,8,8,8,8,8,8,8,8,8,8,8,8,8,8,8,8,8,8,8,8,8,8,8,8,8,8,8,8,8,8,8,8,8,8,8,8,8,8,8,8,8,8,8,8,8,8,8,8,8,8,8,8,8,8,8,8,8,8,8,8,8,8,8,8,8,8,8,8,8,8,8,8,8,8,8,8,8,8,8,8,8,8,8,8,8,8,8,8,8,8,8,8,8,8,8,8,8,8,8,8,8,8,8,8,8,8,8,8,8]) (IntKind.wrap .u8 (bU .u64 x 8))).bind fun x4 =>
    some (ad .i64 8 (IntKind.wrap .i64 x4))
   else
    (gN (ByteArray.mk #[0,1,2,2,3,3,3,3,4,4,4,4,4,4,4,4,5,5,5,5,5,5,5,5,5,5,5,5,5,5,5,5,6,6,6,6,6,6,6,6,6,6,6,6,6,6,6,6,6,6,6,6,6,6,6,6,6,6,6,6,6,6,6,6,7,7,7,7,7,7,7,7,7,7,7,7,7,7,7,7,7,7,7,7,7,7,7,7,7,7,7,7,7,7,7,7,7,7,7,7,7,7,7,7,7,7,7,7,7,7,7,7,7,7,7,7,7,7,7,7,7,7,7,7,7,7,7,7,8,8,8,8,8,8,8,8,8,8,8,8,8,8,8,8,8,8,8,8,8,8,8,8,8,8,8,8,8,8,8,8,8,8,8,8,8,8,8,8,8,8,8,8,8,8,8,8,8,8,8,8,8,8,8,8,8,8,8,8,8,8,8,8,8,8,8,8,8,8,8,8,8,8,8,8,8,8,8,8,8,8,8,8,8,8,8,8,8,8,8,8,8,8,8,8,8,8,8,8,8,8,8,8,8,8,8,8,8,8,8,8,8,8,8,8,8,8,8,8,8,8,8,8,8,8,8,8]) (IntKind.wrap .u8 x)).bind fun x4 =>
    some (ad .i64 0 (IntKind.wrap .i64 x4))
def dv (n:Nat) (x:Int):Option Int :=
 (md n x).bind fun y1 =>
 some y1
def aK (n:Nat) (x:Int) (y:Int):Option Bool :=
 (c_ n x).bind fun y1 =>
 if y1=true then
  (c_ n y).bind fun y3 =>
  if (!y3)=true then
   some true
  else
   some (decide (x<y))
 else
  some (decide (x<y))
def aP (n:Nat) (a:Int) (b:Int) (sb:(List Int)×Int×Int):Option (((List Int)×Int×Int)⊕((List Int)×Int)) :=
 if (decide (sb.2.2>a))=true then
  (aH sb.1 sb.2.2).bind fun xb2 =>
  (aH sb.1 (ai .i64 sb.2.2 1)).bind fun xb3 =>
  (aK n xb2 xb3).bind fun yb4 =>
  if yb4=true then
   (aH (sb.1.set (sb.2.2).toNat xb3) (ai .i64 sb.2.2 1)).bind fun xb6 =>
   some (.inl (((sb.1.set (sb.2.2).toNat xb3).set ((ai .i64 sb.2.2 1)).toNat xb2),sb.2.1,(ai .i64 sb.2.2 1)))
  else
   some (.inr (sb.1,sb.2.1))
 else
  some (.inr (sb.1,sb.2.1))
def bg (n:Nat) (a:Int) (b:Int) (sa:(List Int)×Int):Option (((List Int)×Int)⊕((List Int))) :=
 if (decide (sa.2<b))=true then
  (iter (fun s=>aP n a b s) n (sa.1,sa.2,sa.2)).bind fun ta2 =>
  some (.inl (ta2.1,(ad .i64 ta2.2 1)))
 else
  some (.inr sa.1)
def bO (n:Nat) (a:Int) (b:Int) (oA:(List Int)):Option (List Int) :=
 (iter (fun s=>bg n a b s) n (oA,(ad .i64 a 1))).bind fun t1 =>
 some t1
def aF (n:Nat) (hi:Int) (first:Int) (sa:(List Int)×Int):Option (((List Int)×Int)⊕(((List Int))⊕((List Int)))) :=
 if (decide ((ad .i64 (cm .i64 2 sa.2) 1)≥hi))=true then
  some (.inr (.inl sa.1))
 else
  if (decide ((ad .i64 (ad .i64 (cm .i64 2 sa.2) 1) 1)<hi))=true then
   (aH sa.1 (ad .i64 first (ad .i64 (cm .i64 2 sa.2) 1))).bind fun xa3 =>
   (aH sa.1 (ad .i64 (ad .i64 first (ad .i64 (cm .i64 2 sa.2) 1)) 1)).bind fun xa4 =>
   (aK n xa3 xa4).bind fun ya5 =>
   if ya5=true then
    (aH sa.1 (ad .i64 first sa.2)).bind fun xa7 =>
    (aH sa.1 (ad .i64 first (ad .i64 (ad .i64 (cm .i64 2 sa.2) 1) 1))).bind fun xa8 =>
    (aK n xa7 xa8).bind fun ya9 =>
    if (!ya9)=true then
     some (.inr (.inr sa.1))
    else
     (aH (sa.1.set ((ad .i64 first sa.2)).toNat xa8) (ad .i64 first (ad .i64 (ad .i64 (cm .i64 2 sa.2) 1) 1))).bind fun xa11 =>
     some (.inl (((sa.1.set ((ad .i64 first sa.2)).toNat xa8).set ((ad .i64 first (ad .i64 (ad .i64 (cm .i64 2 sa.2) 1) 1))).toNat xa7),(ad .i64 (ad .i64 (cm .i64 2 sa.2) 1) 1)))
   else
    (aH sa.1 (ad .i64 first sa.2)).bind fun xa7 =>
    (aK n xa7 xa3).bind fun ya8 =>
    if (!ya8)=true then
     some (.inr (.inr sa.1))
    else
     (aH (sa.1.set ((ad .i64 first sa.2)).toNat xa3) (ad .i64 first (ad .i64 (cm .i64 2 sa.2) 1))).bind fun xa10 =>
     some (.inl (((sa.1.set ((ad .i64 first sa.2)).toNat xa3).set ((ad .i64 first (ad .i64 (cm .i64 2 sa.2) 1))).toNat xa7),(ad .i64 (cm .i64 2 sa.2) 1)))
  else
   (aH sa.1 (ad .i64 first sa.2)).bind fun xa3 =>
   (aH sa.1 (ad .i64 first (ad .i64 (cm .i64 2 sa.2) 1))).bind fun xa4 =>
   (aK n xa3 xa4).bind fun ya5 =>
   if (!ya5)=true then
    some (.inr (.inr sa.1))
   else
    (aH (sa.1.set ((ad .i64 first sa.2)).toNat xa4) (ad .i64 first (ad .i64 (cm .i64 2 sa.2) 1))).bind fun xa7 =>
    some (.inl (((sa.1.set ((ad .i64 first sa.2)).toNat xa4).set ((ad .i64 first (ad .i64 (cm .i64 2 sa.2) 1))).toNat xa3),(ad .i64 (cm .i64 2 sa.2) 1)))
def bI (n:Nat) (lo:Int) (hi:Int) (first:Int) (oA:(List Int)):Option (List Int) :=
 (iter (fun s=>aF n hi first s) n (oA,lo)).bind fun t1 =>
 match t1 with
 | .inl w2 =>
  some w2
 | .inr w2 =>
  some w2
def aQ (n:Nat) (a:Int) (b:Int) (sa:(List Int)×Int):Option (((List Int)×Int)⊕((List Int))) :=
 if (decide (sa.2≥0))=true then
  (bI n sa.2 (ai .i64 b a) a sa.1).bind fun ya2 =>
  some (.inl (ya2,(ai .i64 sa.2 1)))
 else
  some (.inr sa.1)
def aR (n:Nat) (a:Int) (sa:(List Int)×Int):Option (((List Int)×Int)⊕((List Int))) :=
 if (decide (sa.2≥0))=true then
  (aH sa.1 (ad .i64 a sa.2)).bind fun xa2 =>
  (aH sa.1 a).bind fun xa3 =>
  (aH (sa.1.set (a).toNat xa2) (ad .i64 a sa.2)).bind fun xa4 =>
  (bI n 0 sa.2 a ((sa.1.set (a).toNat xa2).set ((ad .i64 a sa.2)).toNat xa3)).bind fun ya5 =>
  some (.inl (ya5,(ai .i64 sa.2 1)))
 else
  some (.inr sa.1)
def cg (n:Nat) (a:Int) (b:Int) (oA:(List Int)):Option (List Int) :=
 (iter (fun s=>aQ n a b s) n (oA,(fD .i64 (ai .i64 (ai .i64 b a) 1) 2))).bind fun t1 =>
 (iter (fun s=>aR n a s) n (t1,(ai .i64 (ai .i64 b a) 1))).bind fun t2 =>
 some t2
def bA (n:Nat) (a:Int) (b:Int) (oA:(List Int)) (oB:Int):Option (Int×Int×Int) :=
 (aH oA b).bind fun x1 =>
 (aH oA a).bind fun x2 =>
 (aK n x1 x2).bind fun y3 =>
 if y3=true then
  some (b,a,(ad .i64 oB 1))
 else
  some (a,b,oB)
def bB (n:Nat) (a:Int) (b:Int) (c:Int) (oA:(List Int)) (oB:Int):Option (Int×Int) :=
 (bA n a b oA oB).bind fun y1 =>
 (bA n y1.2.1 c oA y1.2.2).bind fun y2 =>
 (bA n y1.1 y2.1 oA y2.2.2).bind fun y3 =>
 some (y3.2.1,y3.2.2)
def aZ (n:Nat) (a:Int) (oA:(List Int)) (oB:Int):Option (Int×Int) :=
 (bB n (ai .i64 a 1) a (ad .i64 a 1) oA oB).bind fun y1 =>
 some (y1.1,y1.2)
def bw (n:Nat) (a:Int) (b:Int) (oA:(List Int)):Option (Int×Int×Int) :=
 if (decide ((ai .i64 b a)≥8))=true then
  if (decide ((ai .i64 b a)≥50))=true then
   (aZ n (ad .i64 a (cm .i64 (fD .i64 (ai .i64 b a) 4) 1)) oA 0).bind fun y3 =>
   (aZ n (ad .i64 a (cm .i64 (fD .i64 (ai .i64 b a) 4) 2)) oA y3.2).bind fun y4 =>
   (aZ n (ad .i64 a (cm .i64 (fD .i64 (ai .i64 b a) 4) 3)) oA y4.2).bind fun y5 =>
   (bB n y3.1 y4.1 y5.1 oA y5.2).bind fun y6 =>
   if (y6.2==0)=true then
    some (y6.1,1,y6.2)
   else
    if (y6.2==12)=true then
     some (y6.1,2,y6.2)
    else
     some (y6.1,0,y6.2)
  else
   (bB n (ad .i64 a (cm .i64 (fD .i64 (ai .i64 b a) 4) 1)) (ad .i64 a (cm .i64 (fD .i64 (ai .i64 b a) 4) 2)) (ad .i64 a (cm .i64 (fD .i64 (ai .i64 b a) 4) 3)) oA 0).bind fun y3 =>
   if (y3.2==0)=true then
    some (y3.1,1,y3.2)
   else
    if (y3.2==12)=true then
     some (y3.1,2,y3.2)
    else
     some (y3.1,0,y3.2)
 else
  some ((ad .i64 a (cm .i64 (fD .i64 (ai .i64 b a) 4) 2)),1,0)
def bi (n:Nat) (sa:(List Int)×Int×Int):Option (((List Int)×Int×Int)⊕((List Int))) :=
 if (decide (sa.2.1<sa.2.2))=true then
  (aH sa.1 sa.2.2).bind fun xa2 =>
  (aH sa.1 sa.2.1).bind fun xa3 =>
  (aH (sa.1.set (sa.2.1).toNat xa2) sa.2.2).bind fun xa4 =>
  some (.inl (((sa.1.set (sa.2.1).toNat xa2).set (sa.2.2).toNat xa3),(ad .i64 sa.2.1 1),(ai .i64 sa.2.2 1)))
 else
  some (.inr sa.1)
def bS (n:Nat) (a:Int) (b:Int) (oA:(List Int)):Option (List Int) :=
 (iter (fun s=>bi n s) n (oA,a,(ai .i64 b 1))).bind fun t1 =>
 some t1
def aB (n:Nat) (a:Int) (b:Int) (sb:(List Int)×Int×Int):Option (((List Int)×Int×Int)⊕((List Int)×Int×Int)) :=
 if (decide (sb.2.1<b))=true then
  (aH sb.1 sb.2.1).bind fun xb2 =>
  (aH sb.1 (ai .i64 sb.2.1 1)).bind fun xb3 =>
  (aK n xb2 xb3).bind fun yb4 =>
  if (!yb4)=true then
   some (.inl (sb.1,(ad .i64 sb.2.1 1),sb.2.2))
  else
   some (.inr (sb.1,sb.2.1,sb.2.2))
 else
  some (.inr (sb.1,sb.2.1,sb.2.2))
def ar (n:Nat) (a:Int) (b:Int) (sb:(List Int)×Int×Int×Int):Option (((List Int)×Int×Int×Int)⊕((List Int)×Int×Int)) :=
 if (decide (sb.2.2.2≥1))=true then
  (aH sb.1 sb.2.2.2).bind fun xb2 =>
  (aH sb.1 (ai .i64 sb.2.2.2 1)).bind fun xb3 =>
  (aK n xb2 xb3).bind fun yb4 =>
  if (!yb4)=true then
   some (.inr (sb.1,sb.2.1,sb.2.2.1))
  else
   (aH (sb.1.set (sb.2.2.2).toNat xb3) (ai .i64 sb.2.2.2 1)).bind fun xb6 =>
   some (.inl (((sb.1.set (sb.2.2.2).toNat xb3).set ((ai .i64 sb.2.2.2 1)).toNat xb2),sb.2.1,sb.2.2.1,(ai .i64 sb.2.2.2 1)))
 else
  some (.inr (sb.1,sb.2.1,sb.2.2.1))
def al (n:Nat) (a:Int) (b:Int) (sb:(List Int)×Int×Int×Int):Option (((List Int)×Int×Int×Int)⊕((List Int)×Int×Int)) :=
 if (decide (sb.2.1<b))=true then
  (aH sb.1 sb.2.1).bind fun xb2 =>
  (aH sb.1 (ai .i64 sb.2.1 1)).bind fun xb3 =>
  (aK n xb2 xb3).bind fun yb4 =>
  if (!yb4)=true then
   some (.inr (sb.1,sb.2.2.1,sb.2.2.2))
  else
   (aH (sb.1.set (sb.2.1).toNat xb3) (ai .i64 sb.2.1 1)).bind fun xb6 =>
   some (.inl (((sb.1.set (sb.2.1).toNat xb3).set ((ai .i64 sb.2.1 1)).toNat xb2),(ad .i64 sb.2.1 1),sb.2.2.1,sb.2.2.2))
 else
  some (.inr (sb.1,sb.2.2.1,sb.2.2.2))
def au (n:Nat) (a:Int) (b:Int) (sa:(List Int)×Int×Int):Option (((List Int)×Int×Int)⊕(((List Int))⊕((List Int)×Bool))) :=
 if (decide (sa.2.2<5))=true then
  (iter (fun s=>aB n a b s) n (sa.1,sa.2.1,sa.2.2)).bind fun ta2 =>
  if (ta2.2.1==b)=true then
   some (.inr (.inr (ta2.1,true)))
  else
   if (decide ((ai .i64 b a)<50))=true then
    some (.inr (.inr (ta2.1,false)))
   else
    (aH ta2.1 (ai .i64 ta2.2.1 1)).bind fun xa5 =>
    (aH ta2.1 ta2.2.1).bind fun xa6 =>
    (aH (ta2.1.set (ta2.2.1).toNat xa5) (ai .i64 ta2.2.1 1)).bind fun xa7 =>
    if (decide ((ai .i64 ta2.2.1 a)≥2))=true then
     (iter (fun s=>ar n a b s) n (((ta2.1.set (ta2.2.1).toNat xa5).set ((ai .i64 ta2.2.1 1)).toNat xa6),ta2.2.1,ta2.2.2,(ai .i64 ta2.2.1 1))).bind fun ta9 =>
     if (decide ((ai .i64 b ta9.2.1)≥2))=true then
      (iter (fun s=>al n a b s) n (ta9.1,(ad .i64 ta9.2.1 1),ta9.2.1,ta9.2.2)).bind fun ta11 =>
      some (.inl (ta11.1,ta11.2.1,(ad .i64 ta11.2.2 1)))
     else
      some (.inl (ta9.1,ta9.2.1,(ad .i64 ta9.2.2 1)))
    else
     if (decide ((ai .i64 b ta2.2.1)≥2))=true then
      (iter (fun s=>al n a b s) n (((ta2.1.set (ta2.2.1).toNat xa5).set ((ai .i64 ta2.2.1 1)).toNat xa6),(ad .i64 ta2.2.1 1),ta2.2.1,ta2.2.2)).bind fun ta10 =>
      some (.inl (ta10.1,ta10.2.1,(ad .i64 ta10.2.2 1)))
     else
      some (.inl (((ta2.1.set (ta2.2.1).toNat xa5).set ((ai .i64 ta2.2.1 1)).toNat xa6),ta2.2.1,(ad .i64 ta2.2.2 1)))
 else
  some (.inr (.inl sa.1))
def aX (n:Nat) (a:Int) (b:Int) (oA:(List Int)):Option (Bool×(List Int)) :=
 (iter (fun s=>au n a b s) n (oA,(ad .i64 a 1),0)).bind fun t1 =>
 match t1 with
 | .inl w2 =>
  some (false,w2)
 | .inr w2 =>
  some (w2.2,w2.1)
def ba (n:Nat) (a:Int) (sb:(List Int)×Int×Int):Option (((List Int)×Int×Int)⊕((List Int)×Int×Int)) :=
 if (decide (sb.2.2≤sb.2.1))=true then
  (aH sb.1 a).bind fun xb2 =>
  (aH sb.1 sb.2.2).bind fun xb3 =>
  (aK n xb2 xb3).bind fun yb4 =>
  if (!yb4)=true then
   some (.inl (sb.1,sb.2.1,(ad .i64 sb.2.2 1)))
  else
   some (.inr (sb.1,sb.2.1,sb.2.2))
 else
  some (.inr (sb.1,sb.2.1,sb.2.2))
def bc (n:Nat) (a:Int) (sb:(List Int)×Int×Int):Option (((List Int)×Int×Int)⊕((List Int)×Int×Int)) :=
 if (decide (sb.2.2≤sb.2.1))=true then
  (aH sb.1 a).bind fun xb2 =>
  (aH sb.1 sb.2.1).bind fun xb3 =>
  (aK n xb2 xb3).bind fun yb4 =>
  if yb4=true then
   some (.inl (sb.1,(ai .i64 sb.2.1 1),sb.2.2))
  else
   some (.inr (sb.1,sb.2.1,sb.2.2))
 else
  some (.inr (sb.1,sb.2.1,sb.2.2))
def aN (n:Nat) (a:Int) (sa:(List Int)×Int×Int):Option (((List Int)×Int×Int)⊕((List Int)×Int)) :=
 (iter (fun s=>ba n a s) n (sa.1,sa.2.1,sa.2.2)).bind fun ta1 =>
 (iter (fun s=>bc n a s) n (ta1.1,ta1.2.1,ta1.2.2)).bind fun ta2 =>
 if (decide (ta2.2.2>ta2.2.1))=true then
  some (.inr (ta2.1,ta2.2.2))
 else
  (aH ta2.1 ta2.2.1).bind fun xa4 =>
  (aH ta2.1 ta2.2.2).bind fun xa5 =>
  (aH (ta2.1.set (ta2.2.2).toNat xa4) ta2.2.1).bind fun xa6 =>
  some (.inl (((ta2.1.set (ta2.2.2).toNat xa4).set (ta2.2.1).toNat xa5),(ai .i64 ta2.2.1 1),(ad .i64 ta2.2.2 1)))
def bH (n:Nat) (a:Int) (b:Int) (pivot:Int) (oA:(List Int)):Option (Int×(List Int)) :=
 (aH oA pivot).bind fun x1 =>
 (aH oA a).bind fun x2 =>
 (aH (oA.set (a).toNat x1) pivot).bind fun x3 =>
 (iter (fun s=>aN n a s) n (((oA.set (a).toNat x1).set (pivot).toNat x2),(ai .i64 b 1),(ad .i64 a 1))).bind fun t4 =>
 some (t4.2,t4.1)
def bp (n:Nat) (a:Int) (b:Int) (pivot:Int) (oA:(List Int)) (x1:Int) (x2:Int) (sa:Int):Option (Int⊕Int) :=
 if (decide (sa≤(ai .i64 b 1)))=true then
  (aH ((oA.set (a).toNat x1).set (pivot).toNat x2) sa).bind fun xa2 =>
  (aH ((oA.set (a).toNat x1).set (pivot).toNat x2) a).bind fun xa3 =>
  (aK n xa2 xa3).bind fun ya4 =>
  if ya4=true then
   some (.inl (ad .i64 sa 1))
  else
   some (.inr sa)
 else
  some (.inr sa)
def bq (n:Nat) (a:Int) (pivot:Int) (oA:(List Int)) (x1:Int) (x2:Int) (t4:Int) (sa:Int):Option (Int⊕Int) :=
 if (decide (t4≤sa))=true then
  (aH ((oA.set (a).toNat x1).set (pivot).toNat x2) sa).bind fun xa2 =>
  (aH ((oA.set (a).toNat x1).set (pivot).toNat x2) a).bind fun xa3 =>
  (aK n xa2 xa3).bind fun ya4 =>
  if (!ya4)=true then
   some (.inl (ai .i64 sa 1))
  else
   some (.inr sa)
 else
  some (.inr sa)
def br (n:Nat) (a:Int) (sb:(List Int)×Int×Int):Option (((List Int)×Int×Int)⊕((List Int)×Int×Int)) :=
 if (decide (sb.2.1≤sb.2.2))=true then
  (aH sb.1 sb.2.1).bind fun xb2 =>
  (aH sb.1 a).bind fun xb3 =>
  (aK n xb2 xb3).bind fun yb4 =>
  if yb4=true then
   some (.inl (sb.1,(ad .i64 sb.2.1 1),sb.2.2))
  else
   some (.inr (sb.1,sb.2.1,sb.2.2))
 else
  some (.inr (sb.1,sb.2.1,sb.2.2))
def bu (n:Nat) (a:Int) (sb:(List Int)×Int×Int):Option (((List Int)×Int×Int)⊕((List Int)×Int×Int)) :=
 if (decide (sb.2.1≤sb.2.2))=true then
  (aH sb.1 sb.2.2).bind fun xb2 =>
  (aH sb.1 a).bind fun xb3 =>
  (aK n xb2 xb3).bind fun yb4 =>
  if (!yb4)=true then
   some (.inl (sb.1,sb.2.1,(ai .i64 sb.2.2 1)))
  else
   some (.inr (sb.1,sb.2.1,sb.2.2))
 else
  some (.inr (sb.1,sb.2.1,sb.2.2))
def a3 (n:Nat) (a:Int) (sa:(List Int)×Int×Int):Option (((List Int)×Int×Int)⊕((List Int)×Int)) :=
 (iter (fun s=>br n a s) n (sa.1,sa.2.1,sa.2.2)).bind fun ta1 =>
 (iter (fun s=>bu n a s) n (ta1.1,ta1.2.1,ta1.2.2)).bind fun ta2 =>
 if (decide (ta2.2.1>ta2.2.2))=true then
  some (.inr (ta2.1,ta2.2.2))
 else
  (aH ta2.1 ta2.2.2).bind fun xa4 =>
  (aH ta2.1 ta2.2.1).bind fun xa5 =>
  (aH (ta2.1.set (ta2.2.1).toNat xa4) ta2.2.2).bind fun xa6 =>
  some (.inl (((ta2.1.set (ta2.2.1).toNat xa4).set (ta2.2.2).toNat xa5),(ad .i64 ta2.2.1 1),(ai .i64 ta2.2.2 1)))
def b_ (n:Nat) (a:Int) (b:Int) (pivot:Int) (oA:(List Int)):Option (Int×Bool×(List Int)) :=
 (aH oA pivot).bind fun x1 =>
 (aH oA a).bind fun x2 =>
 (aH (oA.set (a).toNat x1) pivot).bind fun x3 =>
 (iter (fun s=>bp n a b pivot oA x1 x2 s) n (ad .i64 a 1)).bind fun t4 =>
 (iter (fun s=>bq n a pivot oA x1 x2 t4 s) n (ai .i64 b 1)).bind fun t5 =>
 if (decide (t4>t5))=true then
  (aH ((oA.set (a).toNat x1).set (pivot).toNat x2) a).bind fun x7 =>
  (aH ((oA.set (a).toNat x1).set (pivot).toNat x2) t5).bind fun x8 =>
  (aH (((oA.set (a).toNat x1).set (pivot).toNat x2).set (t5).toNat x7) a).bind fun x9 =>
  some (t5,true,((((oA.set (a).toNat x1).set (pivot).toNat x2).set (t5).toNat x7).set (a).toNat x8))
 else
  (aH ((oA.set (a).toNat x1).set (pivot).toNat x2) t5).bind fun x7 =>
  (aH ((oA.set (a).toNat x1).set (pivot).toNat x2) t4).bind fun x8 =>
  (aH (((oA.set (a).toNat x1).set (pivot).toNat x2).set (t4).toNat x7) t5).bind fun x9 =>
  (iter (fun s=>a3 n a s) n (((((oA.set (a).toNat x1).set (pivot).toNat x2).set (t4).toNat x7).set (t5).toNat x8),(ad .i64 t4 1),(ai .i64 t5 1))).bind fun t10 =>
  (aH t10.1 a).bind fun x11 =>
  (aH t10.1 t10.2).bind fun x12 =>
  (aH (t10.1.set (t10.2).toNat x11) a).bind fun x13 =>
  some (t10.2,false,((t10.1.set (t10.2).toNat x11).set (a).toNat x12))
def b6 (n:Nat) (length:Int):Option Int :=
 (dv n (IntKind.wrap .u64 length)).bind fun y1 =>
 if (y1==0)=true then
  some 1
 else
  if (y1==1)=true then
   some 2
  else
   if (y1==2)=true then
    some 4
   else
    if (y1==3)=true then
     some 8
    else
     if (y1==4)=true then
      some 16
     else
      if (y1==5)=true then
       some 32
      else
       if (y1==6)=true then
        some 64
       else
        if (y1==7)=true then
         some 128
        else
         if (y1==8)=true then
          some 256
         else
          if (y1==9)=true then
           some 512
          else
           if (y1==10)=true then
            some 1024
           else
            if (y1==11)=true then
             some 2048
            else
             none
def eT (n:Nat) (oA:(List Int)) (oB:Int):Option (Int×Int) :=
 some ((fE .u64 (fE .u64 (fE .u64 oB (jn .u64 oB 13)) (bU .u64 (fE .u64 oB (jn .u64 oB 13)) 7)) (jn .u64 (fE .u64 (fE .u64 oB (jn .u64 oB 13)) (bU .u64 (fE .u64 oB (jn .u64 oB 13)) 7)) 17)),(fE .u64 (fE .u64 (fE .u64 oB (jn .u64 oB 13)) (bU .u64 (fE .u64 oB (jn .u64 oB 13)) 7)) (jn .u64 (fE .u64 (fE .u64 oB (jn .u64 oB 13)) (bU .u64 (fE .u64 oB (jn .u64 oB 13)) 7)) 17)))
def ax (n:Nat) (a:Int) (b:Int) (y2:Int) (sa:(List Int)×Int×Int):Option (((List Int)×Int×Int)⊕((List Int))) :=
 if (decide (sa.2.2≤(ad .i64 (ad .i64 a (cm .i64 (fD .i64 (ai .i64 b a) 4) 2)) 1)))=true then
  (eT n sa.1 sa.2.1).bind fun ya2 =>
  if (decide ((IntKind.wrap .i64 (cf .u64 ya2.1 (ai .u64 y2 1)))≥(ai .i64 b a)))=true then
   (aH sa.1 (ad .i64 a (ai .i64 (IntKind.wrap .i64 (cf .u64 ya2.1 (ai .u64 y2 1))) (ai .i64 b a)))).bind fun xa4 =>
   (aH sa.1 sa.2.2).bind fun xa5 =>
   (aH (sa.1.set (sa.2.2).toNat xa4) (ad .i64 a (ai .i64 (IntKind.wrap .i64 (cf .u64 ya2.1 (ai .u64 y2 1))) (ai .i64 b a)))).bind fun xa6 =>
   some (.inl (((sa.1.set (sa.2.2).toNat xa4).set ((ad .i64 a (ai .i64 (IntKind.wrap .i64 (cf .u64 ya2.1 (ai .u64 y2 1))) (ai .i64 b a)))).toNat xa5),ya2.2,(ad .i64 sa.2.2 1)))
  else
   (aH sa.1 (ad .i64 a (IntKind.wrap .i64 (cf .u64 ya2.1 (ai .u64 y2 1))))).bind fun xa4 =>
   (aH sa.1 sa.2.2).bind fun xa5 =>
   (aH (sa.1.set (sa.2.2).toNat xa4) (ad .i64 a (IntKind.wrap .i64 (cf .u64 ya2.1 (ai .u64 y2 1))))).bind fun xa6 =>
   some (.inl (((sa.1.set (sa.2.2).toNat xa4).set ((ad .i64 a (IntKind.wrap .i64 (cf .u64 ya2.1 (ai .u64 y2 1))))).toNat xa5),ya2.2,(ad .i64 sa.2.2 1)))
 else
  some (.inr sa.1)
def bP (n:Nat) (a:Int) (b:Int) (oA:(List Int)):Option (List Int) :=
 if (decide ((ai .i64 b a)≥8))=true then
  (b6 n (ai .i64 b a)).bind fun y2 =>
  (iter (fun s=>ax n a b y2 s) n (oA,(IntKind.wrap .u64 (ai .i64 b a)),(ai .i64 (ad .i64 a (cm .i64 (fD .i64 (ai .i64 b a) 4) 2)) 1))).bind fun t3 =>
  some t3
 else
  some oA
def bX (n:Nat) (rc_:Int→Int→Int→(List Int)→Option (List Int)) (yg1:(Int×Bool×(List Int))) (sh:Int×Int×Int×Int):Option ((List Int)×Int×Int×Int×Bool) :=
 if (decide ((ai .i64 yg1.1 sh.1)<(ai .i64 sh.2.2.1 yg1.1)))=true then
  (rc_ sh.1 yg1.1 sh.2.2.2 yg1.2.2).bind fun yh2 =>
  some (yh2,(ad .i64 yg1.1 1),sh.2.2.1,sh.2.2.2,(decide ((ai .i64 yg1.1 sh.1)≥(fD .i64 sh.2.1 8))))
 else
  (rc_ (ad .i64 yg1.1 1) sh.2.2.1 sh.2.2.2 yg1.2.2).bind fun yh2 =>
  some (yh2,sh.1,yg1.1,sh.2.2.2,(decide ((ai .i64 sh.2.2.1 yg1.1)≥(fD .i64 sh.2.1 8))))
def aT (n:Nat) (rc_:Int→Int→Int→(List Int)→Option (List Int)) (sg:(List Int)×Int×Int×Int×Int×Int):Option ((List Int)×Int×Int×Int×Bool×Bool) :=
 (b_ n sg.2.1 sg.2.2.2.2.1 sg.2.2.2.1 sg.1).bind fun yg1 =>
 (bX n rc_ yg1 (sg.2.1,sg.2.2.1,sg.2.2.2.2.1,sg.2.2.2.2.2)).bind fun tg2 =>
 some (tg2.1,tg2.2.1,tg2.2.2.1,tg2.2.2.2.1,tg2.2.2.2.2,yg1.2.1)
def aj (n:Nat) (rc_:Int→Int→Int→(List Int)→Option (List Int)) (sf:(List Int)×Int×Int×Int×Int×Int×Bool×Bool):Option (((List Int)×Int×Int×Int×Int×Int×Bool×Int×Int×Int×Bool×Bool×Bool)⊕((List Int)×Int×Int×Int×Bool×Bool)) :=
 if (decide (sf.2.1>0))=true then
  (aH sf.1 (ai .i64 sf.2.1 1)).bind fun xf2 =>
  (aH sf.1 sf.2.2.2.1).bind fun xf3 =>
  (aK n xf2 xf3).bind fun yf4 =>
  if (!yf4)=true then
   (bH n sf.2.1 sf.2.2.2.2.1 sf.2.2.2.1 sf.1).bind fun yf6 =>
   some (.inl (yf6.2,yf6.1,sf.2.2.2.2.1,sf.2.2.2.2.2.1,sf.2.1,(ai .i64 sf.2.1 1),sf.2.2.2.2.2.2.1,xf2,sf.2.2.2.1,xf3,yf4,!yf4,sf.2.2.2.2.2.2.2))
  else
   (aT n rc_ (sf.1,sf.2.1,sf.2.2.1,sf.2.2.2.1,sf.2.2.2.2.1,sf.2.2.2.2.2.1)).bind fun tf6 =>
   some (.inr (tf6.1,tf6.2.1,tf6.2.2.1,tf6.2.2.2.1,tf6.2.2.2.2.1,tf6.2.2.2.2.2))
 else
  (aT n rc_ (sf.1,sf.2.1,sf.2.2.1,sf.2.2.2.1,sf.2.2.2.2.1,sf.2.2.2.2.2.1)).bind fun tf2 =>
  some (.inr (tf2.1,tf2.2.1,tf2.2.2.1,tf2.2.2.2.1,tf2.2.2.2.2.1,tf2.2.2.2.2.2))
def aU (n:Nat) (rc_:Int→Int→Int→(List Int)→Option (List Int)) (se:(List Int)×Int×Int×Int×Int×Int×Int×Bool×Bool):Option (((List Int)×Int×Int×Int×Int×Int×Bool×Int×Int×Int×Bool×Bool×Bool)⊕(((List Int)×Int×Int×Int×Bool×Bool)⊕((List Int)))) :=
 if se.2.2.2.2.2.2.2.1=true then
  if se.2.2.2.2.2.2.2.2=true then
   if (se.2.2.2.2.1==1)=true then
    (aX n se.2.1 se.2.2.2.2.2.1 se.1).bind fun ye4 =>
    if ye4.1=true then
     some (.inr (.inr ye4.2))
    else
     (aj n rc_ (ye4.2,se.2.1,se.2.2.1,se.2.2.2.1,se.2.2.2.2.2.1,se.2.2.2.2.2.2.1,se.2.2.2.2.2.2.2.1,se.2.2.2.2.2.2.2.2)).bind fun te6 =>
     match te6 with
     | .inl we7 =>
      some (.inl (we7.1,we7.2.1,we7.2.2.1,we7.2.2.2.1,we7.2.2.2.2.1,we7.2.2.2.2.2.1,we7.2.2.2.2.2.2.1,we7.2.2.2.2.2.2.2.1,we7.2.2.2.2.2.2.2.2.1,we7.2.2.2.2.2.2.2.2.2.1,we7.2.2.2.2.2.2.2.2.2.2.1,we7.2.2.2.2.2.2.2.2.2.2.2.1,we7.2.2.2.2.2.2.2.2.2.2.2.2))
     | .inr we7 =>
      some (.inr (.inl (we7.1,we7.2.1,we7.2.2.1,we7.2.2.2.1,we7.2.2.2.2.1,we7.2.2.2.2.2)))
   else
    (aj n rc_ (se.1,se.2.1,se.2.2.1,se.2.2.2.1,se.2.2.2.2.2.1,se.2.2.2.2.2.2.1,se.2.2.2.2.2.2.2.1,se.2.2.2.2.2.2.2.2)).bind fun te4 =>
    match te4 with
    | .inl we5 =>
     some (.inl (we5.1,we5.2.1,we5.2.2.1,we5.2.2.2.1,we5.2.2.2.2.1,we5.2.2.2.2.2.1,we5.2.2.2.2.2.2.1,we5.2.2.2.2.2.2.2.1,we5.2.2.2.2.2.2.2.2.1,we5.2.2.2.2.2.2.2.2.2.1,we5.2.2.2.2.2.2.2.2.2.2.1,we5.2.2.2.2.2.2.2.2.2.2.2.1,we5.2.2.2.2.2.2.2.2.2.2.2.2))
    | .inr we5 =>
     some (.inr (.inl (we5.1,we5.2.1,we5.2.2.1,we5.2.2.2.1,we5.2.2.2.2.1,we5.2.2.2.2.2)))
  else
   (aj n rc_ (se.1,se.2.1,se.2.2.1,se.2.2.2.1,se.2.2.2.2.2.1,se.2.2.2.2.2.2.1,se.2.2.2.2.2.2.2.1,se.2.2.2.2.2.2.2.2)).bind fun te3 =>
   match te3 with
   | .inl we4 =>
    some (.inl (we4.1,we4.2.1,we4.2.2.1,we4.2.2.2.1,we4.2.2.2.2.1,we4.2.2.2.2.2.1,we4.2.2.2.2.2.2.1,we4.2.2.2.2.2.2.2.1,we4.2.2.2.2.2.2.2.2.1,we4.2.2.2.2.2.2.2.2.2.1,we4.2.2.2.2.2.2.2.2.2.2.1,we4.2.2.2.2.2.2.2.2.2.2.2.1,we4.2.2.2.2.2.2.2.2.2.2.2.2))
   | .inr we4 =>
    some (.inr (.inl (we4.1,we4.2.1,we4.2.2.1,we4.2.2.2.1,we4.2.2.2.2.1,we4.2.2.2.2.2)))
 else
  (aj n rc_ (se.1,se.2.1,se.2.2.1,se.2.2.2.1,se.2.2.2.2.2.1,se.2.2.2.2.2.2.1,se.2.2.2.2.2.2.2.1,se.2.2.2.2.2.2.2.2)).bind fun te2 =>
  match te2 with
  | .inl we3 =>
   some (.inl (we3.1,we3.2.1,we3.2.2.1,we3.2.2.2.1,we3.2.2.2.2.1,we3.2.2.2.2.2.1,we3.2.2.2.2.2.2.1,we3.2.2.2.2.2.2.2.1,we3.2.2.2.2.2.2.2.2.1,we3.2.2.2.2.2.2.2.2.2.1,we3.2.2.2.2.2.2.2.2.2.2.1,we3.2.2.2.2.2.2.2.2.2.2.2.1,we3.2.2.2.2.2.2.2.2.2.2.2.2))
  | .inr we3 =>
   some (.inr (.inl (we3.1,we3.2.1,we3.2.2.1,we3.2.2.2.1,we3.2.2.2.2.1,we3.2.2.2.2.2)))
def aV (n:Nat) (rc_:Int→Int→Int→(List Int)→Option (List Int)) (sd:(List Int)×Int×Int×Int×Int×Int×Int×Bool×Bool):Option (((List Int)×Int×Int×Int×Int×Int×Bool×Int×Int×Int×Bool×Bool×Bool)⊕(((List Int)×Int×Int×Int×Bool×Bool)⊕((List Int)))) :=
 if (sd.2.2.2.2.1==2)=true then
  (bS n sd.2.1 sd.2.2.2.2.2.1 sd.1).bind fun yd2 =>
  (aU n rc_ (yd2,sd.2.1,sd.2.2.1,(ai .i64 (ai .i64 sd.2.2.2.2.2.1 1) (ai .i64 sd.2.2.2.1 sd.2.1)),1,sd.2.2.2.2.2.1,sd.2.2.2.2.2.2.1,sd.2.2.2.2.2.2.2.1,sd.2.2.2.2.2.2.2.2)).bind fun td3 =>
  match td3 with
  | .inl wd4 =>
   some (.inl (wd4.1,wd4.2.1,wd4.2.2.1,wd4.2.2.2.1,wd4.2.2.2.2.1,wd4.2.2.2.2.2.1,wd4.2.2.2.2.2.2.1,wd4.2.2.2.2.2.2.2.1,wd4.2.2.2.2.2.2.2.2.1,wd4.2.2.2.2.2.2.2.2.2.1,wd4.2.2.2.2.2.2.2.2.2.2.1,wd4.2.2.2.2.2.2.2.2.2.2.2.1,wd4.2.2.2.2.2.2.2.2.2.2.2.2))
  | .inr (.inl wd4) =>
   some (.inr (.inl (wd4.1,wd4.2.1,wd4.2.2.1,wd4.2.2.2.1,wd4.2.2.2.2.1,wd4.2.2.2.2.2)))
  | .inr (.inr wd4) =>
   some (.inr (.inr wd4))
 else
  (aU n rc_ (sd.1,sd.2.1,sd.2.2.1,sd.2.2.2.1,sd.2.2.2.2.1,sd.2.2.2.2.2.1,sd.2.2.2.2.2.2.1,sd.2.2.2.2.2.2.2.1,sd.2.2.2.2.2.2.2.2)).bind fun td2 =>
  match td2 with
  | .inl wd3 =>
   some (.inl (wd3.1,wd3.2.1,wd3.2.2.1,wd3.2.2.2.1,wd3.2.2.2.2.1,wd3.2.2.2.2.2.1,wd3.2.2.2.2.2.2.1,wd3.2.2.2.2.2.2.2.1,wd3.2.2.2.2.2.2.2.2.1,wd3.2.2.2.2.2.2.2.2.2.1,wd3.2.2.2.2.2.2.2.2.2.2.1,wd3.2.2.2.2.2.2.2.2.2.2.2.1,wd3.2.2.2.2.2.2.2.2.2.2.2.2))
  | .inr (.inl wd3) =>
   some (.inr (.inl (wd3.1,wd3.2.1,wd3.2.2.1,wd3.2.2.2.1,wd3.2.2.2.2.1,wd3.2.2.2.2.2)))
  | .inr (.inr wd3) =>
   some (.inr (.inr wd3))
def bD (n:Nat) (rc_:Int→Int→Int→(List Int)→Option (List Int)) (sb:(List Int)×Int×Int×Int×Int×Bool×Bool):Option (((List Int)×Int×Int×Int×Int×Int×Bool×Int×Int×Int×Bool×Bool×Bool)⊕(((List Int)×Int×Int×Int×Bool×Bool)⊕((List Int)))) :=
 if (!sb.2.2.2.2.2.1)=true then
  (bP n sb.2.1 sb.2.2.2.1 sb.1).bind fun yb2 =>
  (bw n sb.2.1 sb.2.2.2.1 yb2).bind fun yb3 =>
  (aV n rc_ (yb2,sb.2.1,sb.2.2.1,yb3.1,yb3.2.1,sb.2.2.2.1,(ai .i64 sb.2.2.2.2.1 1),sb.2.2.2.2.2.1,sb.2.2.2.2.2.2)).bind fun tb4 =>
  match tb4 with
  | .inl wb5 =>
   some (.inl (wb5.1,wb5.2.1,wb5.2.2.1,wb5.2.2.2.1,wb5.2.2.2.2.1,wb5.2.2.2.2.2.1,wb5.2.2.2.2.2.2.1,wb5.2.2.2.2.2.2.2.1,wb5.2.2.2.2.2.2.2.2.1,wb5.2.2.2.2.2.2.2.2.2.1,wb5.2.2.2.2.2.2.2.2.2.2.1,wb5.2.2.2.2.2.2.2.2.2.2.2.1,wb5.2.2.2.2.2.2.2.2.2.2.2.2))
  | .inr (.inl wb5) =>
   some (.inr (.inl (wb5.1,wb5.2.1,wb5.2.2.1,wb5.2.2.2.1,wb5.2.2.2.2.1,wb5.2.2.2.2.2)))
  | .inr (.inr wb5) =>
   some (.inr (.inr wb5))
 else
  (bw n sb.2.1 sb.2.2.2.1 sb.1).bind fun yb2 =>
  (aV n rc_ (sb.1,sb.2.1,sb.2.2.1,yb2.1,yb2.2.1,sb.2.2.2.1,sb.2.2.2.2.1,sb.2.2.2.2.2.1,sb.2.2.2.2.2.2)).bind fun tb3 =>
  match tb3 with
  | .inl wb4 =>
   some (.inl (wb4.1,wb4.2.1,wb4.2.2.1,wb4.2.2.2.1,wb4.2.2.2.2.1,wb4.2.2.2.2.2.1,wb4.2.2.2.2.2.2.1,wb4.2.2.2.2.2.2.2.1,wb4.2.2.2.2.2.2.2.2.1,wb4.2.2.2.2.2.2.2.2.2.1,wb4.2.2.2.2.2.2.2.2.2.2.1,wb4.2.2.2.2.2.2.2.2.2.2.2.1,wb4.2.2.2.2.2.2.2.2.2.2.2.2))
  | .inr (.inl wb4) =>
   some (.inr (.inl (wb4.1,wb4.2.1,wb4.2.2.1,wb4.2.2.2.1,wb4.2.2.2.2.1,wb4.2.2.2.2.2)))
  | .inr (.inr wb4) =>
   some (.inr (.inr wb4))
def aW (n:Nat) (rc_:Int→Int→Int→(List Int)→Option (List Int)) (sa:(List Int)×Int×Int×Int×Bool×Bool):Option (((List Int)×Int×Int×Int×Bool×Bool)⊕((List Int))) :=
 if (decide ((ai .i64 sa.2.2.1 sa.2.1)≤12))=true then
  (bO n sa.2.1 sa.2.2.1 sa.1).bind fun ya2 =>
  some (.inr ya2)
 else
  if (sa.2.2.2.1==0)=true then
   (cg n sa.2.1 sa.2.2.1 sa.1).bind fun ya3 =>
   some (.inr ya3)
  else
   (bD n rc_ (sa.1,sa.2.1,(ai .i64 sa.2.2.1 sa.2.1),sa.2.2.1,sa.2.2.2.1,sa.2.2.2.2.1,sa.2.2.2.2.2)).bind fun ta3 =>
   match ta3 with
   | .inl wa4 =>
    some (.inl (wa4.1,wa4.2.1,wa4.2.2.1,wa4.2.2.2.1,wa4.2.2.2.2.2.2.1,wa4.2.2.2.2.2.2.2.2.2.2.2.2))
   | .inr (.inl wa4) =>
    some (.inl (wa4.1,wa4.2.1,wa4.2.2.1,wa4.2.2.2.1,wa4.2.2.2.2.1,wa4.2.2.2.2.2))
   | .inr (.inr wa4) =>
    some (.inr wa4)
def aI:Nat→Int→Int→Int→(List Int)→Option (List Int)
| 0,_,_,_,_=>none
| n + 1,a,b,limit,oA =>
 (iter (fun s=>aW n (aI n) s) n (oA,a,b,limit,true,true)).bind fun t1 =>
 some t1
def cK (n:Nat) (oA:(List Int)):Option (List Int) :=
 (dv n (IntKind.wrap .u64 (oA.length:Int))).bind fun y1 =>
 (aI n 0 (oA.length:Int) y1 oA).bind fun y2 =>
 some y2
def Aa (x:Int):List Int→List Int
| []=>[x]
| y::l=>if decide (x≤y)=true then x::y::l else y::Aa x l
def jR:List Int→List Int
| []=>[]
| x::l=>Aa x (jR l)
def qf:List Int→Bool
| []=>true
| x::l=>!(l.any fun y=>y==x)&&qf l
def rY (ks:List Int):Option (Unit⊕List Int):=if ks.length=0 then some (.inl ()) else grd (qf ks&&ks.all (fun x=>decide (0≤x)&&decide (x≤18446744073709551615))&&Nat.ble ks.length 1000) (some (.inr (jR ks)))
def dW (n:Nat) (oA:(List Cell)) (oB:(List (List Event))) (oC:(List Int)) (oD:(List Int)) (oE:(List (Int×Int))):Option ((Unit⊕(List Int))):=rY (oE.map (·.1))
def fN (n:Nat) (c:az) (y3:(List Event)) (sa:(List (Int×Int))×Int):Option (((List (Int×Int))×Int)⊕((List (Int×Int)))) :=
 if (decide (sa.2<(c.First.length:Int)))=true then
  (aH c.First sa.2).bind fun xa2 =>
  some (.inl ((hG bo sa.1 xa2.Addr xa2.Value),(ad .i64 sa.2 1)))
 else
  some (.inr sa.1)
def fO (n:Nat) (c:az) (y3:(List Event)) (sa:(List (Int×Int))×Int):Option (((List (Int×Int))×Int)⊕((List (Int×Int)))) :=
 if (decide (sa.2<(c.Order.length:Int)))=true then
  (aH c.Order sa.2).bind fun xa2 =>
  (aH y3 xa2).bind fun xa3 =>
  (eQ n xa3).bind fun ya4 =>
  if ya4=true then
   some (.inl ((hG bo sa.1 xa3.Addr xa3.Store),(ad .i64 sa.2 1)))
  else
   some (.inl (sa.1,(ad .i64 sa.2 1)))
 else
  some (.inr sa.1)
def jC (n:Nat) (c:az) (t5:((List (Int×Int)))) (sa:Unit):Option (Unit⊕Unit) :=
 some (.inr ())
def fP (n:Nat) (c:az) (t5:((List (Int×Int)))) (wb8:(List Int)) (sa:(List Cell)×Int):Option (((List Cell)×Int)⊕((List Cell))) :=
 if (decide (sa.2<(wb8.length:Int)))=true then
  (aH wb8 sa.2).bind fun xa2 =>
  if (((b9 bo t5 xa2).getD 0) != 0)=true then
   grd (Nat.ble ((sa.1.length + 1) * 16) 140737488355328) <|
   some (.inl ((sa.1++([(Cell.mk xa2 ((b9 bo t5 xa2).getD 0))]:List Cell)),(ad .i64 sa.2 1)))
  else
   some (.inl (sa.1,(ad .i64 sa.2 1)))
 else
  some (.inr sa.1)
def jK (n:Nat) (c:az):Option (List Cell) :=
 (di n c).bind fun y1 =>
 if (y1 != 0)=true then
  some ([]:List Cell)
 else
  (gO n c.First c.Harts c.From c.Order).bind fun y3 =>
  (iter (fun s=>fN n c y3 s) n (([]:(List (Int×Int))),0)).bind fun t4 =>
  (iter (fun s=>fO n c y3 s) n (t4,0)).bind fun t5 =>
  (bT n c.First c.Harts c.From c.Order t5).bind fun y6 =>
  (dW n c.First c.Harts c.From c.Order t5).bind fun y7 =>
  match y7 with
  | .inl wa8 =>
   (iter (fun s=>jC n c t5 s) n ()).bind fun t9 =>
   some ([]:List Cell)
  | .inr wb8 =>
   (iter (fun s=>fP n c t5 wb8 s) n (([]:List Cell),0)).bind fun t9 =>
   some t9
def eK (n:Nat) (a:(List Cell)) (b:(List Cell)) (sa:Int):Option (Int⊕(Unit⊕Unit)) :=
 if (decide (sa<(a.length:Int)))=true then
  (aH a sa).bind fun xa2 =>
  (aH b sa).bind fun xa3 =>
  if (!(Cell.beq xa2 xa3))=true then
   some (.inr (.inr ()))
  else
   some (.inl (ad .i64 sa 1))
 else
  some (.inr (.inl ()))
def gn (n:Nat) (a:(List Cell)) (b:(List Cell)):Option Bool :=
 if ((a.length:Int) != (b.length:Int))=true then
  some false
 else
  (iter (fun s=>eK n a b s) n 0).bind fun t2 =>
  match t2 with
  | .inl w3 =>
   some true
  | .inr w3 =>
   some false
def nm (n:Nat):Option Bool :=
 (ky n 0).bind fun y1 =>
 (jK n y1).bind fun y2 =>
 (ky n 0).bind fun y3 =>
 (di n y3).bind fun y4 =>
 if (y4==0)=true then
  (ky n (-1)).bind fun y6 =>
  (di n y6).bind fun y7 =>
  if (y7==2)=true then
   (gn n y2 ([(Cell.mk 8 1)]:List Cell)).bind fun y9 =>
   some y9
  else
   some false
 else
  some false
def kP (n:Nat) (d:Deps) (most:Int):Option Bool :=
 if (decide ((d.Addr.length:Int)≤most))=true then
  if (decide ((d.Data.length:Int)≤most))=true then
   some (decide ((d.Way.length:Int)≤most))
  else
   some false
 else
  some false
def eU (n:Nat) (l:(List Event)) (sa:Int):Option (Int⊕(Unit⊕Unit)) :=
 if (decide (sa<(l.length:Int)))=true then
  (aH l sa).bind fun xa2 =>
  (kP n xa2.Deps 60).bind fun ya3 =>
  if (!ya3)=true then
   some (.inr (.inr ()))
  else
   some (.inl (ad .i64 sa 1))
 else
  some (.inr (.inl ()))
def gB (n:Nat) (l:(List Event)) (most:Int):Option Bool :=
 if (decide ((l.length:Int)>most))=true then
  some false
 else
  (iter (fun s=>eU n l s) n 0).bind fun t2 =>
  match t2 with
  | .inl w3 =>
   some true
  | .inr w3 =>
   some false
def fQ (n:Nat) (c:az) (most:Int) (sa:Int×Int):Option ((Int×Int)⊕(Int⊕Unit)) :=
 if (decide (sa.2<(c.Harts.length:Int)))=true then
  if (decide (sa.2<10))=true then
   (aH c.Harts sa.2).bind fun xa3 =>
   (gB n xa3 most).bind fun ya4 =>
   if (!ya4)=true then
    some (.inr (.inr ()))
   else
    some (.inl ((ad .i64 sa.1 (xa3.length:Int)),(ad .i64 sa.2 1)))
  else
   some (.inr (.inl sa.1))
 else
  some (.inr (.inl sa.1))
def iV (n:Nat) (c:az) (most:Int):Option Bool :=
 (iter (fun s=>fQ n c most s) n (0,0)).bind fun t1 =>
 match t1 with
 | .inl w2 =>
  if (decide ((c.Harts.length:Int)≤9))=true then
   if (decide (w2≤most))=true then
    if (decide ((c.First.length:Int)≤most))=true then
     if (decide ((c.From.length:Int)≤(cm .i64 2 most)))=true then
      some (decide ((c.Order.length:Int)≤(cm .i64 2 most)))
     else
      some false
    else
     some false
   else
    some false
  else
   some false
 | .inr w2 =>
  some false
def pg (n:Nat) (n_:Int) (m:Int):Option Int :=
 if (decide (m<1))=true then
  some 0
 else
  grd (decide (IntKind.i64=IntKind.i64)&&!(m==0)) <|
  if (decide ((kO .i64 n_ m)<0))=true then
   some (ad .i64 (kO .i64 n_ m) m)
  else
   some (kO .i64 n_ m)
def jD (n:Nat) (l:(List Cell)):Option (List Cell) :=
 grd (Nat.ble (l.length * 16) 140737488355328) <|
 some l
def gP (n:Nat) (l:(List Int)):Option (List Int) :=
 grd (Nat.ble (l.length * 8) 140737488355328) <|
 some l
def mz (n:Nat) (d:Deps):Option Deps :=
 (gP n d.Addr).bind fun y1 =>
 (gP n d.Data).bind fun y2 =>
 (gP n d.Way).bind fun y3 =>
 some (Deps.mk y1 y2 y3)
def h_ (n:Nat) (e:Event):Option Event :=
 (mz n e.Deps).bind fun y1 =>
 some (Event.mk e.Hart e.At e.Kind e.Addr e.Load e.Store e.Aq e.Rl e.Pred e.Succ e.Pair y1)
def oe (n:Nat) (l:(List Event)) (oA:(List Int)) (oB:(List (Int×Int))) (sa:(List Event)×Int):Option (((List Event)×Int)⊕((List Event))) :=
 if (decide (sa.2<(l.length:Int)))=true then
  (aH l sa.2).bind fun xa2 =>
  (h_ n xa2).bind fun ya3 =>
  grd (Nat.ble ((sa.1.length + 1) * 152) 140737488355328) <|
  some (.inl ((sa.1++([ya3]:List Event)),(ad .i64 sa.2 1)))
 else
  some (.inr sa.1)
def C9 (n:Nat) (l:(List Event)) (oA:(List Int)) (oB:(List (Int×Int))):Option (List Event) :=
 (iter (fun s=>oe n l oA oB s) n (([]:List Event),0)).bind fun t1 =>
 some t1
def cq (n:Nat) (l:(List Event)) (oA:(List Int)) (oB:(List (Int×Int))) (oC:(List (List Event))) (sa:(List Event)×Int):Option (((List Event)×Int)⊕((List Event))) :=
 if (decide (sa.2<(l.length:Int)))=true then
  (aH l sa.2).bind fun xa2 =>
  (h_ n xa2).bind fun ya3 =>
  grd (Nat.ble ((sa.1.length + 1) * 152) 140737488355328) <|
  some (.inl ((sa.1++([ya3]:List Event)),(ad .i64 sa.2 1)))
 else
  some (.inr sa.1)
def fR (n:Nat) (l:(List Event)) (oA:(List Int)) (oB:(List (Int×Int))) (oC:(List (List Event))):Option (List Event) :=
 (iter (fun s=>cq n l oA oB oC s) n (([]:List Event),0)).bind fun t1 =>
 some t1
def cH (n:Nat) (l:List Int):Option (List Int):=grd (Nat.ble (l.length * 8) 140737488355328) (some l)
def pi (n:Nat) (e:Event):Option Event :=
 (cH n e.Deps.Addr).bind fun y1 =>
 (cH n e.Deps.Data).bind fun y2 =>
 (cH n e.Deps.Way).bind fun y3 =>
 some (Event.mk e.Hart e.At e.Kind e.Addr e.Load e.Store e.Aq e.Rl e.Pred e.Succ e.Pair (Deps.mk y1 y2 y3))
def kz (n:Nat) (y3:(List Event)) (sa:(List Event)×Int):Option (((List Event)×Int)⊕((List Event))) :=
 if (decide (sa.2<(y3.length:Int)))=true then
  (aH y3 sa.2).bind fun xa2 =>
  (pi n xa2).bind fun ya3 =>
  grd (Nat.ble ((sa.1.length + 1) * 152) 140737488355328) <|
  some (.inl ((sa.1++([ya3]:List Event)),(ad .i64 sa.2 1)))
 else
  some (.inr sa.1)
def lg (n:Nat) (c:az):Option (List Event) :=
 (di n c).bind fun y1 =>
 if (y1 != 0)=true then
  some ([]:List Event)
 else
  (gO n c.First c.Harts c.From c.Order).bind fun y3 =>
  (iter (fun s=>kz n y3 s) n (([]:List Event),0)).bind fun t4 =>
  some t4
def eL (n:Nat) (c:az) (y7:Int) (y8:(List Cell)) (sa:(List Int)×Int):Option (((List Int)×Int)⊕((List Int))) :=
 if (decide (sa.2<(c.Harts.length:Int)))=true then
  (aH sa.1 (ai .i64 sa.2 1)).bind fun xa2 =>
  (aH c.Harts (ai .i64 sa.2 1)).bind fun xa3 =>
  (aH sa.1 sa.2).bind fun xa4 =>
  some (.inl ((sa.1.set (sa.2).toNat (ad .i64 xa2 (xa3.length:Int))),(ad .i64 sa.2 1)))
 else
  some (.inr sa.1)
def fS (n:Nat) (c:az) (y7:Int) (y8:(List Cell)) (t10:((List Int))) (sb:(List (Int×Int))×(List (List Event))×(List Event)×Int×Int×Int):Option (((List (Int×Int))×(List (List Event))×(List Event)×Int×Int×Int)⊕((List (Int×Int))×(List (List Event))×Int×(List Event))) :=
 if (decide (sb.2.2.2.2.2<(sb.2.2.1.length:Int)))=true then
  (aH sb.2.2.1 sb.2.2.2.2.2).bind fun xb2 =>
  (aH t10 sb.2.2.2.2.1).bind fun xb3 =>
  some (.inl ((hG bo sb.1 (ad .i64 xb3 sb.2.2.2.2.2) (sb.1.length:Int)),sb.2.1,(sb.2.2.1.set (sb.2.2.2.2.2).toNat (Event.mk sb.2.2.2.1 xb2.At xb2.Kind xb2.Addr xb2.Load xb2.Store xb2.Aq xb2.Rl xb2.Pred xb2.Succ xb2.Pair xb2.Deps)),sb.2.2.2.1,sb.2.2.2.2.1,(ad .i64 sb.2.2.2.2.2 1)))
 else
  some (.inr (sb.1,sb.2.1,sb.2.2.2.1,sb.2.2.1))
def eM (n:Nat) (c:az) (y7:Int) (y8:(List Cell)) (t10:((List Int))) (sa:(List (Int×Int))×(List (List Event))×Int):Option (((List (Int×Int))×(List (List Event))×Int)⊕((List (Int×Int))×(List (List Event)))) :=
 if (decide (sa.2.2<(c.Harts.length:Int)))=true then
  grd (decide (IntKind.i64=IntKind.i64)&&!((c.Harts.length:Int)==0)) <|
  (aH c.Harts (kO .i64 (ad .i64 sa.2.2 y7) (c.Harts.length:Int))).bind fun xa3 =>
  (fR n xa3 t10 sa.1 sa.2.1).bind fun ya4 =>
  (iter (fun s=>fS n c y7 y8 t10 s) n (sa.1,sa.2.1,ya4,sa.2.2,(kO .i64 (ad .i64 sa.2.2 y7) (c.Harts.length:Int)),0)).bind fun ta5 =>
  grd (Nat.ble ((ta5.2.1.length + 1) * 24) 140737488355328) <|
  some (.inl (ta5.1,(ta5.2.1++([ta5.2.2.2]:List (List Event))),(ad .i64 ta5.2.2.1 1)))
 else
  some (.inr (sa.1,sa.2.1))
def fT (n:Nat) (c:az) (y8:(List Cell)) (t10:((List Int))) (t11:((List (Int×Int))×(List (List Event)))) (sa:(List Int)×Int):Option (((List Int)×Int)⊕((List Int))) :=
 if (decide (sa.2<(c.From.length:Int)))=true then
  (aH sa.1 ((b9 bo t11.1 sa.2).getD 0)).bind fun xa2 =>
  (aH c.From sa.2).bind fun xa3 =>
  if (decide (xa3≥0))=true then
   (aH (sa.1.set (((b9 bo t11.1 sa.2).getD 0)).toNat (-1)) ((b9 bo t11.1 sa.2).getD 0)).bind fun xa5 =>
   some (.inl (((sa.1.set (((b9 bo t11.1 sa.2).getD 0)).toNat (-1)).set (((b9 bo t11.1 sa.2).getD 0)).toNat ((b9 bo t11.1 xa3).getD 0)),(ad .i64 sa.2 1)))
  else
   some (.inl ((sa.1.set (((b9 bo t11.1 sa.2).getD 0)).toNat (-1)),(ad .i64 sa.2 1)))
 else
  some (.inr sa.1)
def dj (n:Nat) (c:az) (y8:(List Cell)) (t10:((List Int))) (t11:((List (Int×Int))×(List (List Event)))) (t13:((List Int))) (sa:(List Int)×Int):Option (((List Int)×Int)⊕((List Int))) :=
 if (decide (sa.2<(c.Order.length:Int)))=true then
  (aH c.Order sa.2).bind fun xa2 =>
  grd (Nat.ble ((sa.1.length + 1) * 8) 140737488355328) <|
  some (.inl ((sa.1++([((b9 bo t11.1 xa2).getD 0)]:List Int)),(ad .i64 sa.2 1)))
 else
  some (.inr sa.1)
def iW (n:Nat) (c:az) (by_:Int):Option Bool :=
 (nm n).bind fun y1 =>
 if (!y1)=true then
  some false
 else
  (iV n c 60).bind fun y3 =>
  if (!y3)=true then
   some true
  else
   (di n c).bind fun y5 =>
   if (y5 != 0)=true then
    some true
   else
    (pg n by_ (c.Harts.length:Int)).bind fun y7 =>
    (jD n c.First).bind fun y8 =>
    grd (decide ((0:Int)≤(c.Harts.length:Int))&&decide ((c.Harts.length:Int)≤(c.Harts.length:Int))&&decide (8 * (c.Harts.length:Int)≤140737488355328)&&decide ((c.Harts.length:Int)≤140737488355328)&&Nat.blt 0 1) <|
    (iter (fun s=>eL n c y7 y8 s) n ((List.replicate ((c.Harts.length:Int)).toNat 0),1)).bind fun t10 =>
    (iter (fun s=>eM n c y7 y8 t10 s) n (([]:(List (Int×Int))),([]:List (List Event)),0)).bind fun t11 =>
    grd (decide ((0:Int)≤(c.From.length:Int))&&decide ((c.From.length:Int)≤(c.From.length:Int))&&decide (8 * (c.From.length:Int)≤140737488355328)&&decide ((c.From.length:Int)≤140737488355328)&&Nat.blt 0 1) <|
    (iter (fun s=>fT n c y8 t10 t11 s) n ((List.replicate ((c.From.length:Int)).toNat 0),0)).bind fun t13 =>
    (iter (fun s=>dj n c y8 t10 t11 t13 s) n (([]:List Int),0)).bind fun t14 =>
    (di n (az.mk y8 t11.2 t13 t14)).bind fun y15 =>
    if (y15==0)=true then
     (jK n (az.mk y8 t11.2 t13 t14)).bind fun y17 =>
     (jK n c).bind fun y18 =>
     (gn n y17 y18).bind fun y19 =>
     if y19=true then
      (lg n (az.mk y8 t11.2 t13 t14)).bind fun y21 =>
      (lg n c).bind fun y22 =>
      some ((y21.length:Int)==(y22.length:Int))
     else
      some false
    else
     some false

end Go.Proofs.Ytcckeabholabcaa
