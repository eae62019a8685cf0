/- What the functions compute, as functions on lists and numbers. Printed by a program from the code; nothing is claimed here. -/
import Derived.Test.YtomahedcdcnnhaaGreatDoorM0
namespace Go.Proofs.YtomahedcdcnnhaaGreatDoor
open Go A
set_option linter.unusedVariables false

structure bJ (α:Type) where
  mk ::
  e0:α
  e1:α
structure Kb (α:Type) where
  mk ::
  e0:α
  e1:α
  e2:α
  e3:α
structure Qw (α:Type) where
  mk ::
  e0:α
  e1:α
  e2:α
  e3:α
  e4:α
  e5:α
  e6:α
  e7:α
  e8:α
  e9:α
  e10:α
  e11:α
  e12:α
structure Cell where
  mk ::
  Addr:Int
  Value:Int
structure Deps where
  mk ::
  Addr:(List Int)
  Data:(List Int)
  Way:(List Int)
structure Event where
  mk ::
  Hart:Int
  At:Int
  Kind:Int
  Addr:Int
  Load:Int
  Store:Int
  Aq:Bool
  Rl:Bool
  Pred:Int
  Succ:Int
  Pair:Int
  Deps:Deps
structure af where
  mk ::
  First:(List Cell)
  Harts:(List (List Event))
  From:(List Int)
  Order:(List Int)
structure aC where
  mk ::
  OK:Bool
  Why:Int
  A_:Int
  B:Int
structure aL where
  mk ::
  hart:Int
  at_:Int
  kind:Int
  pred:Int
  succ:Int
  pair:Int
  addr:Int
  load:Int
  store:Int
  aq:Bool
  rl:Bool
structure ai where
  mk ::
  c:(Option af)
  all:(List Event)
  fences:(Kb (List Int))
  hung:(List Int)
structure ab where
  mk ::
  C_:af
  All:(List Event)
def aC.beq (x y:aC):Bool:=((x.OK==y.OK)&&((x.Why==y.Why)&&((x.A_==y.A_)&&(x.B==y.B))))
theorem aC.beq_eq {x y:aC} (h:aC.beq x y=true):x=y:=by
  obtain ⟨a1,a2,a3,a4⟩:=x
  obtain ⟨b5,b6,b7,b8⟩:=y
  unfold aC.beq at h
  simp only [Bool.and_eq_true,beq_iff_eq] at h
  simp_all
theorem aC.beq_refl (x:aC):aC.beq x x=true:=by
  unfold aC.beq
  simp
def Cell.beq (x y:Cell):Bool:=((x.Addr==y.Addr)&&(x.Value==y.Value))
theorem Cell.beq_eq {x y:Cell} (h:Cell.beq x y=true):x=y:=by
  obtain ⟨a9,a10⟩:=x
  obtain ⟨b11,b12⟩:=y
  unfold Cell.beq at h
  simp only [Bool.and_eq_true,beq_iff_eq] at h
  simp_all
theorem Cell.beq_refl (x:Cell):Cell.beq x x=true:=by
  unfold Cell.beq
  simp
def aL.beq (x y:aL):Bool:=((x.hart==y.hart)&&((x.at_==y.at_)&&((x.kind==y.kind)&&((x.pred==y.pred)&&((x.succ==y.succ)&&((x.pair==y.pair)&&((x.addr==y.addr)&&((x.load==y.load)&&((x.store==y.store)&&((x.aq==y.aq)&&(x.rl==y.rl)))))))))))
theorem aL.beq_eq {x y:aL} (h:aL.beq x y=true):x=y:=by
  obtain ⟨a13,a14,a15,a16,a17,a18,a19,a20,a21,a22,a23⟩:=x
  obtain ⟨b24,b25,b26,b27,b28,b29,b30,b31,b32,b33,b34⟩:=y
  unfold aL.beq at h
  simp only [Bool.and_eq_true,beq_iff_eq] at h
  simp_all
theorem aL.beq_refl (x:aL):aL.beq x x=true:=by
  unfold aL.beq
  simp
def Cell.wf (x:Cell):Prop:=(v8 .u64 x.Addr)∧(v8 .u64 x.Value)
def Deps.wf (x:Deps):Prop:=(x.Addr.length≤maxLen∧∀ z∈x.Addr,v8 .i64 z)∧(x.Data.length≤maxLen∧∀ z∈x.Data,v8 .i64 z)∧(x.Way.length≤maxLen∧∀ z∈x.Way,v8 .i64 z)
def Event.wf (x:Event):Prop:=(v8 .i64 x.Hart)∧(v8 .i64 x.At)∧(v8 .i64 x.Kind)∧(v8 .u64 x.Addr)∧(v8 .u64 x.Load)∧(v8 .u64 x.Store)∧(True)∧(True)∧(v8 .i64 x.Pred)∧(v8 .i64 x.Succ)∧(v8 .i64 x.Pair)∧(Deps.wf x.Deps)
def af.wf (x:af):Prop:=(x.First.length≤maxLen∧∀ z∈x.First,Cell.wf z)∧(x.Harts.length≤maxLen∧∀ z∈x.Harts,z.length≤maxLen∧∀ zz∈z,Event.wf zz)∧(x.From.length≤maxLen∧∀ z∈x.From,v8 .i64 z)∧(x.Order.length≤maxLen∧∀ z∈x.Order,v8 .i64 z)
def aC.wf (x:aC):Prop:=(True)∧(v8 .i64 x.Why)∧(v8 .i64 x.A_)∧(v8 .i64 x.B)
def pD (n:Nat) (fences:Bool):Option af :=
 if (!fences)=true then
  some (af.mk ([]:List Cell) ([([(Event.mk 0 0 2 8 0 1 false false 0 0 0 (Deps.mk ([]:List Int) ([]:List Int) ([]:List Int))),(Event.mk 0 1 2 16 0 1 false false 0 0 0 (Deps.mk ([]:List Int) ([]:List Int) ([]:List Int)))]:List Event),([(Event.mk 1 0 1 16 1 0 false false 0 0 0 (Deps.mk ([]:List Int) ([]:List Int) ([]:List Int))),(Event.mk 1 1 1 8 0 0 false false 0 0 0 (Deps.mk ([]:List Int) ([]:List Int) ([]:List Int)))]:List Event)]:List (List Event)) ([(-1),(-1),1,(-1)]:List Int) ([1,2,3,0]:List Int))
 else
  some (af.mk ([]:List Cell) ([([(Event.mk 0 0 2 8 0 1 false false 0 0 0 (Deps.mk ([]:List Int) ([]:List Int) ([]:List Int))),(Event.mk 0 1 6 0 0 0 false false 1 1 0 (Deps.mk ([]:List Int) ([]:List Int) ([]:List Int))),(Event.mk 0 2 2 16 0 1 false false 0 0 0 (Deps.mk ([]:List Int) ([]:List Int) ([]:List Int)))]:List Event),([(Event.mk 1 0 1 16 1 0 false false 0 0 0 (Deps.mk ([]:List Int) ([]:List Int) ([]:List Int))),(Event.mk 1 1 6 0 0 0 false false 2 2 0 (Deps.mk ([]:List Int) ([]:List Int) ([]:List Int))),(Event.mk 1 2 1 8 0 0 false false 0 0 0 (Deps.mk ([]:List Int) ([]:List Int) ([]:List Int)))]:List Event)]:List (List Event)) ([(-1),(-1),(-1),2,(-1),(-1)]:List Int) ([2,3,5,0]:List Int))
def mO (n:Nat) (l:(List Cell)) (sa:Int):Option (Int⊕(Unit⊕Unit)) :=
 if (decide (sa<(l.length:Int)))=true then
  (ak l sa).bind fun xa2 =>
  if ((cw .u64 xa2.Addr 8) != 0)=true then
   some (.inr (.inr ()))
  else
   if (decide (sa>0))=true then
    (ak l (aJ .i64 sa 1)).bind fun xa5 =>
    if (decide (xa5.Addr≥xa2.Addr))=true then
     some (.inr (.inr ()))
    else
     some (.inl (ac .i64 sa 1))
   else
    some (.inl (ac .i64 sa 1))
 else
  some (.inr (.inl ()))
def nL (n:Nat) (l:(List Cell)):Option Bool :=
 (iter (fun s=>mO n l s) n 0).bind fun t1 =>
 match t1 with
 | .inl w2 =>
  some true
 | .inr w2 =>
  some false
def lf (n:Nat) (kind:Int):Option Int :=
 if (decide (kind<1))=true then
  some 0
 else
  if (decide (kind>6))=true then
   some 0
  else
   if (kind==0)=true then
    some 0
   else
    if (kind==1)=true then
     some 1
    else
     if (kind==2)=true then
      some 2
     else
      if (kind==3)=true then
       some 5
      else
       if (kind==4)=true then
        some 14
       else
        if (kind==5)=true then
         some 7
        else
         if (kind==6)=true then
          some 16
         else
          none
def aX (n:Nat) (s1_:(List Int)) (s2_:(List Int)) (sa:Int):Option (Int⊕(Unit⊕Unit)) :=
 if (decide (sa<(s1_.length:Int)))=true then
  (ak s1_ sa).bind fun xa2 =>
  (ak s2_ sa).bind fun xa3 =>
  if (xa2 != xa3)=true then
   some (.inr (.inr ()))
  else
   some (.inl (ac .i64 sa 1))
 else
  some (.inr (.inl ()))
def cg (n:Nat) (s1_:(List Int)) (s2_:(List Int)):Option Bool :=
 if ((s1_.length:Int) != (s2_.length:Int))=true then
  some false
 else
  (iter (fun s=>aX n s1_ s2_ s) n 0).bind fun t2 =>
  match t2 with
  | .inl w3 =>
   some true
  | .inr w3 =>
   some false
def kK (n:Nat) (e:Event):Option aL :=
 some (aL.mk e.Hart e.At e.Kind e.Pred e.Succ e.Pair e.Addr e.Load e.Store e.Aq e.Rl)
def nM (n:Nat) (a:Event) (b:Event):Option Bool :=
 (cg n a.Deps.Addr b.Deps.Addr).bind fun y1 =>
 if (!y1)=true then
  some false
 else
  (cg n a.Deps.Data b.Deps.Data).bind fun y3 =>
  if (!y3)=true then
   some false
  else
   (cg n a.Deps.Way b.Deps.Way).bind fun y5 =>
   if (!y5)=true then
    some false
   else
    (kK n a).bind fun y7 =>
    (kK n b).bind fun y8 =>
    if (aL.beq y7 y8)=true then
     some true
    else
     some false
def cG (n:Nat) (l:(List Int)) (sa:Int×Int):Option ((Int×Int)⊕(Unit⊕Unit)) :=
 if (decide (sa.2<(l.length:Int)))=true then
  (ak l sa.2).bind fun xa2 =>
  if (decide (xa2≤sa.1))=true then
   some (.inr (.inr ()))
  else
   some (.inl (xa2,(ac .i64 sa.2 1)))
 else
  some (.inr (.inl ()))
def kL (n:Nat) (l:(List Int)):Option Bool :=
 (iter (fun s=>cG n l s) n ((-1),0)).bind fun t1 =>
 match t1 with
 | .inl w2 =>
  some true
 | .inr w2 =>
  some false
def eG (n:Nat) (l:(List Int)) (at_:Int):Option Bool :=
 (kL n l).bind fun y1 =>
 if y1=true then
  if ((l.length:Int)==0)=true then
   some true
  else
   (ak l (aJ .i64 (l.length:Int) 1)).bind fun x4 =>
   some (decide (x4<at_))
 else
  some false
def cx (n:Nat) (e:Event) (y1:Int) (sf:Int×(List Int)×(List Int)×(List Int)×Int×Int×Int×Bool×Bool×Int×Int):Option Int :=
 if (y1==0)=true then
  some 2
 else
  if (decide (e.Hart<0))=true then
   some 2
  else
   if (decide (e.Hart≥8))=true then
    some 2
   else
    if (decide (e.At<0))=true then
     some 2
    else
     (nM n (Event.mk e.Hart e.At e.Kind sf.2.2.2.2.1 sf.2.2.2.2.2.1 sf.2.2.2.2.2.2.1 sf.2.2.2.2.2.2.2.1 sf.2.2.2.2.2.2.2.2.1 sf.2.2.2.2.2.2.2.2.2.1 sf.2.2.2.2.2.2.2.2.2.2 sf.1 (Deps.mk sf.2.1 sf.2.2.1 sf.2.2.2.1)) e).bind fun yf5 =>
     if (!yf5)=true then
      some 2
     else
      if ((cw .u64 e.Addr 8) != 0)=true then
       some 2
      else
       if (decide (e.Pred<0))=true then
        some 2
       else
        if (decide (e.Pred>15))=true then
         some 2
        else
         if (decide (e.Succ<0))=true then
          some 2
         else
          if (decide (e.Succ>15))=true then
           some 2
          else
           if ((bg .u64 y1 8) != 0)=true then
            if (decide (e.Pair<0))=true then
             some 2
            else
             if (decide (e.Pair≥e.At))=true then
              some 2
             else
              (eG n e.Deps.Addr e.At).bind fun yf15 =>
              if (!yf15)=true then
               some 2
              else
               (eG n e.Deps.Data e.At).bind fun yf17 =>
               if (!yf17)=true then
                some 2
               else
                (eG n e.Deps.Way e.At).bind fun yf19 =>
                if (!yf19)=true then
                 some 2
                else
                 some 0
           else
            (eG n e.Deps.Addr e.At).bind fun yf13 =>
            if (!yf13)=true then
             some 2
            else
             (eG n e.Deps.Data e.At).bind fun yf15 =>
             if (!yf15)=true then
              some 2
             else
              (eG n e.Deps.Way e.At).bind fun yf17 =>
              if (!yf17)=true then
               some 2
              else
               some 0
def cV (n:Nat) (e:Event) (y1:Int) (se:(List Int)×(List Int)×(List Int)×Int×Int×Int×Bool×Bool×Int×Int):Option Int :=
 if ((bg .u64 y1 8) != 0)=true then
  (cx n e y1 (e.Pair,se.1,se.2.1,se.2.2.1,se.2.2.2.1,se.2.2.2.2.1,se.2.2.2.2.2.1,se.2.2.2.2.2.2.1,se.2.2.2.2.2.2.2.1,se.2.2.2.2.2.2.2.2.1,se.2.2.2.2.2.2.2.2.2)).bind fun te2 =>
  some te2
 else
  (cx n e y1 (0,se.1,se.2.1,se.2.2.1,se.2.2.2.1,se.2.2.2.2.1,se.2.2.2.2.2.1,se.2.2.2.2.2.2.1,se.2.2.2.2.2.2.2.1,se.2.2.2.2.2.2.2.2.1,se.2.2.2.2.2.2.2.2.2)).bind fun te2 =>
  some te2
def cW (n:Nat) (e:Event) (y1:Int) (sd:(List Int)×(List Int)×(List Int)×Int×Int×Int×Int×Int):Option Int :=
 if ((bg .u64 y1 4) != 0)=true then
  (cV n e y1 (sd.1,sd.2.1,sd.2.2.1,sd.2.2.2.1,sd.2.2.2.2.1,sd.2.2.2.2.2.1,e.Aq,e.Rl,sd.2.2.2.2.2.2.1,sd.2.2.2.2.2.2.2)).bind fun td2 =>
  some td2
 else
  (cV n e y1 (sd.1,sd.2.1,sd.2.2.1,sd.2.2.2.1,sd.2.2.2.2.1,sd.2.2.2.2.2.1,false,false,sd.2.2.2.2.2.2.1,sd.2.2.2.2.2.2.2)).bind fun td2 =>
  some td2
def cX (n:Nat) (e:Event) (y1:Int) (sb:(List Int)×(List Int)×Int×Int×Int×Int):Option Int :=
 if ((bg .u64 y1 2) != 0)=true then
  (cW n e y1 (sb.1,e.Deps.Data,sb.2.1,sb.2.2.1,sb.2.2.2.1,e.Store,sb.2.2.2.2.1,sb.2.2.2.2.2)).bind fun tb2 =>
  some tb2
 else
  (cW n e y1 (sb.1,([]:List Int),sb.2.1,sb.2.2.1,sb.2.2.2.1,0,sb.2.2.2.2.1,sb.2.2.2.2.2)).bind fun tb2 =>
  some tb2
def cY (n:Nat) (e:Event) (y1:Int) (sa:(List Int)×(List Int)×Int×Int×Int):Option Int :=
 if ((bg .u64 y1 1) != 0)=true then
  (cX n e y1 (sa.1,sa.2.1,sa.2.2.1,e.Load,sa.2.2.2.1,sa.2.2.2.2)).bind fun ta2 =>
  some ta2
 else
  (cX n e y1 (sa.1,sa.2.1,sa.2.2.1,0,sa.2.2.2.1,sa.2.2.2.2)).bind fun ta2 =>
  some ta2
def j_ (n:Nat) (e:Event):Option Int :=
 (lf n e.Kind).bind fun y1 =>
 if ((bg .u64 y1 16) != 0)=true then
  (cY n e y1 (([]:List Int),([]:List Int),0,e.Pred,e.Succ)).bind fun t3 =>
  some t3
 else
  (cY n e y1 (e.Deps.Addr,e.Deps.Way,e.Addr,0,0)).bind fun t3 =>
  some t3
def iP (n:Nat) (hart:Int) (l:(List Event)) (sa:Int×Int):Option ((Int×Int)⊕(Unit⊕Unit)) :=
 if (decide (sa.1<(l.length:Int)))=true then
  (ak l sa.1).bind fun xa2 =>
  (j_ n xa2).bind fun ya3 =>
  if (ya3 != 0)=true then
   some (.inr (.inr ()))
  else
   if (xa2.Hart != hart)=true then
    some (.inr (.inr ()))
   else
    if (xa2.At != sa.1)=true then
     some (.inr (.inr ()))
    else
     if (xa2.Kind==3)=true then
      some (.inl ((ac .i64 sa.1 1),sa.1))
     else
      if (xa2.Kind==4)=true then
       if (xa2.Pair != sa.2)=true then
        some (.inr (.inr ()))
       else
        (ak l sa.2).bind fun xa10 =>
        if (xa10.Addr != xa2.Addr)=true then
         some (.inr (.inr ()))
        else
         some (.inl ((ac .i64 sa.1 1),(-1)))
      else
       some (.inl ((ac .i64 sa.1 1),sa.2))
 else
  some (.inr (.inl ()))
def jy (n:Nat) (hart:Int) (l:(List Event)):Option Int :=
 (iter (fun s=>iP n hart l s) n (0,(-1))).bind fun t1 =>
 match t1 with
 | .inl w2 =>
  some 0
 | .inr w2 =>
  some 4
def bA (n:Nat) (n_:Int):Option ((Nat×Nat×Nat×(List Event))⊕Unit) :=
 if (decide (n_<0))=true then
  none
 else
  if (decide ((aJ .i64 n_ 0)>0))=true then
   grd (Nat.blt 0 14&&Nat.blt 0 152&&decide (0<(aJ .i64 n_ 0))&&decide ((aJ .i64 n_ 0) * 152≤140737488355328)&&decide ((aJ .i64 n_ 0)≤140737488355328)) <|
   grd (decide ((0:Int)≤0)&&decide (0≤(((aJ .i64 n_ 0)).toNat:Int))) <|
   some (.inl (0,0,((aJ .i64 n_ 0)).toNat,(List.replicate ((aJ .i64 n_ 0)).toNat (Event.mk 0 0 0 0 0 0 false false 0 0 0 (Deps.mk ([]:List Int) ([]:List Int) ([]:List Int))))))
  else
   some (.inr ())
def bk (n:Nat) (slices:(List (List Event))) (sa:Int×Int):Option ((Int×Int)⊕Int) :=
 if (decide (sa.1<(slices.length:Int)))=true then
  (ak slices sa.1).bind fun xa2 =>
  if (decide ((ac .i64 sa.2 (xa2.length:Int))<0))=true then
   none
  else
   some (.inl ((ac .i64 sa.1 1),(ac .i64 sa.2 (xa2.length:Int))))
 else
  some (.inr sa.2)
def bm (n:Nat) (slices:(List (List Event))) (wa3:Nat×Nat×Nat×(List Event)) (sa:Nat×Nat×(List Event)×Int):Option ((Nat×Nat×(List Event)×Int)⊕(Nat×Nat×(List Event))) :=
 if (decide (sa.2.2.2<(slices.length:Int)))=true then
  (ak slices sa.2.2.2).bind fun xa2 =>
  grd (Nat.ble xa2.length sa.2.1) <|
  grd (Nat.ble (wa3.1 + sa.1 + sa.2.1) sa.2.2.1.length) <|
  some (.inl ((sa.1 + xa2.length),(sa.2.1 - xa2.length),(sa.2.2.1.take (wa3.1 + sa.1)++(xa2++sa.2.2.1.drop (wa3.1 + sa.1 + xa2.length))),(ac .i64 sa.2.2.2 1)))
 else
  some (.inr (sa.1,sa.2.1,sa.2.2.1))
def aT (n:Nat) (slices:(List (List Event))) (sa:(List Event)×Int):Option (((List Event)×Int)⊕((List Event))) :=
 if (decide (sa.2<(slices.length:Int)))=true then
  (ak slices sa.2).bind fun xa2 =>
  grd (Nat.ble ((sa.1.length + xa2.length) * 152) 140737488355328) <|
  some (.inl ((sa.1++xa2),(ac .i64 sa.2 1)))
 else
  some (.inr sa.1)
def aQ (n:Nat) (slices:(List (List Event))):Option (List Event) :=
 (iter (fun s=>bk n slices s) n (0,0)).bind fun t1 =>
 (bA n t1).bind fun y2 =>
 match y2 with
 | .inl wa3 =>
  (iter (fun s=>bm n slices wa3 s) n (wa3.2.1,wa3.2.2.1,wa3.2.2.2,0)).bind fun t4 =>
  some ((t4.2.2.drop wa3.1).take t4.1)
 | .inr wb3 =>
  (iter (fun s=>aT n slices s) n (([]:List Event),0)).bind fun t4 =>
  some t4
def kg (n:Nat) (oA:(List Cell)) (oB:(List (List Event))) (oC:(List Int)) (oD:(List Int)):Option (List Event) :=
 (aQ n oB).bind fun y1 =>
 some y1
def bi (n:Nat) (e:Event):Option Bool :=
 (lf n e.Kind).bind fun y1 =>
 some ((bg .u64 y1 1) != 0)
def gG (n:Nat) (x:Int):Option Bool :=
 some (x != x)
def fH (n:Nat) (x:Int) (y:Int):Option Int :=
 (gG n x).bind fun y1 =>
 (gG n y).bind fun y2 =>
 if y1=true then
  if y2=true then
   some 0
  else
   some (-1)
 else
  if y2=true then
   some 1
  else
   if (decide (x<y))=true then
    some (-1)
   else
    if (decide (x>y))=true then
     some 1
    else
     some 0
def iQ (n:Nat) (x:Cell) (a:Int):Option Int :=
 (fH n x.Addr a).bind fun y1 =>
 some y1
def aB (n:Nat) (x:(List Cell)) (target:Int) (sa:Int×Int):Option ((Int×Int)⊕Int) :=
 if (decide (sa.2<sa.1))=true then
  (ak x (IntKind.wrap .i64 (cR .u64 (IntKind.wrap .u64 (ac .i64 sa.2 sa.1)) 1))).bind fun xa2 =>
  (iQ n xa2 target).bind fun ya3 =>
  if (decide (ya3<0))=true then
   some (.inl (sa.1,(ac .i64 (IntKind.wrap .i64 (cR .u64 (IntKind.wrap .u64 (ac .i64 sa.2 sa.1)) 1)) 1)))
  else
   some (.inl ((IntKind.wrap .i64 (cR .u64 (IntKind.wrap .u64 (ac .i64 sa.2 sa.1)) 1)),sa.2))
 else
  some (.inr sa.2)
def a7 (n:Nat) (x:(List Cell)) (target:Int):Option (Int×Bool) :=
 (iter (fun s=>aB n x target s) n ((x.length:Int),0)).bind fun t1 =>
 if (decide (t1<(x.length:Int)))=true then
  (ak x t1).bind fun x3 =>
  (iQ n x3 target).bind fun y4 =>
  some (t1,(y4==0))
 else
  some (t1,false)
def lq (n:Nat) (l:(List Cell)) (addr:Int):Option Int :=
 (a7 n l addr).bind fun y1 =>
 if (!y1.2)=true then
  some 0
 else
  (ak l y1.1).bind fun x3 =>
  some x3.Value
def bQ (n:Nat) (e:Event):Option Bool :=
 (lf n e.Kind).bind fun y1 =>
 some ((bg .u64 y1 2) != 0)
def jz (n:Nat) (c:af) (all:(List Event)) (n_:Int):Option Bool :=
 (ak all n_).bind fun x1 =>
 (ak c.From n_).bind fun x2 =>
 (bi n x1).bind fun y3 =>
 if (!y3)=true then
  some (x2==(-1))
 else
  if (x2==(-1))=true then
   (lq n c.First x1.Addr).bind fun y6 =>
   some (x1.Load==y6)
  else
   if (decide (x2<0))=true then
    some false
   else
    if (decide (x2≥(all.length:Int)))=true then
     some false
    else
     if (x2==n_)=true then
      some false
     else
      (ak all x2).bind fun x9 =>
      (bQ n x9).bind fun y10 =>
      if y10=true then
       if (x9.Addr==x1.Addr)=true then
        some (x9.Store==x1.Load)
       else
        some false
      else
       some false
def fI (n:Nat) (e:Event):Option Bool :=
 (bi n e).bind fun y1 =>
 if y1=true then
  some true
 else
  (bQ n e).bind fun y3 =>
  some y3
def fY (n:Nat) (c:af) (all:(List Event)) (sa:(List Bool)×Int×Int):Option (((List Bool)×Int×Int)⊕((List Bool)×Int)) :=
 if (decide (sa.2.1<(all.length:Int)))=true then
  (ak all sa.2.1).bind fun xa2 =>
  (fI n xa2).bind fun ya3 =>
  if ya3=true then
   (ak sa.1 sa.2.1).bind fun xa5 =>
   some (.inl ((sa.1.set (sa.2.1).toNat true),(ac .i64 sa.2.1 1),(ac .i64 sa.2.2 1)))
  else
   some (.inl (sa.1,(ac .i64 sa.2.1 1),sa.2.2))
 else
  some (.inr (sa.1,sa.2.2))
def fZ (n:Nat) (c:af) (sa:(List Bool)×Int×Int):Option (((List Bool)×Int×Int)⊕(Int⊕Unit)) :=
 if (decide (sa.2.1<(c.Order.length:Int)))=true then
  (ak c.Order sa.2.1).bind fun xa2 =>
  if (decide (xa2<0))=true then
   some (.inr (.inr ()))
  else
   if (decide (xa2≥(sa.1.length:Int)))=true then
    some (.inr (.inr ()))
   else
    (ak sa.1 xa2).bind fun xa5 =>
    if (!xa5)=true then
     some (.inr (.inr ()))
    else
     some (.inl ((sa.1.set (xa2).toNat false),(ac .i64 sa.2.1 1),(aJ .i64 sa.2.2 1)))
 else
  some (.inr (.inl sa.2.2))
def eH (n:Nat) (c:af) (all:(List Event)):Option Bool :=
 grd (decide ((0:Int)≤(all.length:Int))&&decide ((all.length:Int)≤(all.length:Int))&&decide (1 * (all.length:Int)≤140737488355328)&&decide ((all.length:Int)≤140737488355328)&&Nat.blt 0 1) <|
 (iter (fun s=>fY n c all s) n ((List.replicate ((all.length:Int)).toNat false),0,0)).bind fun t2 =>
 (iter (fun s=>fZ n c s) n (t2.1,0,t2.2)).bind fun t3 =>
 match t3 with
 | .inl w4 =>
  some (w4==0)
 | .inr w4 =>
  some false
def gd (n:Nat) (c:af) (sa:Int×Int):Option ((Int×Int)⊕(Int⊕Unit)) :=
 if (decide (sa.1<(c.Harts.length:Int)))=true then
  (ak c.Harts sa.1).bind fun xa2 =>
  if (decide ((ac .i64 sa.2 (xa2.length:Int))>4096))=true then
   some (.inr (.inr ()))
  else
   (jy n sa.1 xa2).bind fun ya4 =>
   if (ya4 != 0)=true then
    some (.inr (.inr ()))
   else
    some (.inl ((ac .i64 sa.1 1),(ac .i64 sa.2 (xa2.length:Int))))
 else
  some (.inr (.inl sa.2))
def ia (n:Nat) (c:af) (y7:(List Event)) (sa:Int):Option (Int⊕(Unit⊕Unit)) :=
 if (decide (sa<(y7.length:Int)))=true then
  (jz n c y7 sa).bind fun ya2 =>
  if (!ya2)=true then
   some (.inr (.inr ()))
  else
   some (.inl (ac .i64 sa 1))
 else
  some (.inr (.inl ()))
def bU (n:Nat) (c:af):Option Int :=
 (nL n c.First).bind fun y1 =>
 if (!y1)=true then
  some 2
 else
  if (decide ((c.Harts.length:Int)<1))=true then
   some 2
  else
   if (decide ((c.Harts.length:Int)>8))=true then
    some 2
   else
    (iter (fun s=>gd n c s) n (0,0)).bind fun t5 =>
    match t5 with
    | .inl w6 =>
     (kg n c.First c.Harts c.From c.Order).bind fun y7 =>
     if ((c.From.length:Int) != w6)=true then
      some 2
     else
      (iter (fun s=>ia n c y7 s) n 0).bind fun t9 =>
      match t9 with
      | .inl w10 =>
       (eH n c y7).bind fun y11 =>
       if (!y11)=true then
        some 2
       else
        some 0
      | .inr w10 =>
       some 2
    | .inr w6 =>
     some 2
def ci (n:Nat) (l:List Int):Option (List Int):=grd (Nat.ble (l.length * 8) 140737488355328) (some l)
def sD (n:Nat) (e:Event):Option Event :=
 (ci n e.Deps.Addr).bind fun y1 =>
 (ci n e.Deps.Data).bind fun y2 =>
 (ci n e.Deps.Way).bind fun y3 =>
 some (Event.mk e.Hart e.At e.Kind e.Addr e.Load e.Store e.Aq e.Rl e.Pred e.Succ e.Pair (Deps.mk y1 y2 y3))
def mg (n:Nat) (y3:(List Event)) (sa:(List Event)×Int):Option (((List Event)×Int)⊕((List Event))) :=
 if (decide (sa.2<(y3.length:Int)))=true then
  (ak y3 sa.2).bind fun xa2 =>
  (sD n xa2).bind fun ya3 =>
  grd (Nat.ble ((sa.1.length + 1) * 152) 140737488355328) <|
  some (.inl ((sa.1++([ya3]:List Event)),(ac .i64 sa.2 1)))
 else
  some (.inr sa.1)
def pE (n:Nat) (c:af):Option (List Event) :=
 (bU n c).bind fun y1 =>
 if (y1 != 0)=true then
  some ([]:List Event)
 else
  (kg n c.First c.Harts c.From c.Order).bind fun y3 =>
  (iter (fun s=>mg n y3 s) n (([]:List Event),0)).bind fun t4 =>
  some t4
def oO (n:Nat) (x:Int) (y:Int):Option (Int×Int) :=
 some ((ac .u64 (ac .u64 (iO .u64 (cR .u64 x 32) (cR .u64 y 32)) (cR .u64 (ac .u64 (iO .u64 (cR .u64 x 32) (bg .u64 y 4294967295)) (cR .u64 (iO .u64 (bg .u64 x 4294967295) (bg .u64 y 4294967295)) 32)) 32)) (cR .u64 (ac .u64 (bg .u64 (ac .u64 (iO .u64 (cR .u64 x 32) (bg .u64 y 4294967295)) (cR .u64 (iO .u64 (bg .u64 x 4294967295) (bg .u64 y 4294967295)) 32)) 4294967295) (iO .u64 (bg .u64 x 4294967295) (cR .u64 y 32))) 32)),(iO .u64 x y))
def ib (n:Nat) (x:Int) (y:Int):Option (Int×Int) :=
 (oO n x y).bind fun y1 =>
 some (y1.1,y1.2)
def cy (n:Nat) (sa:(List Int)×Int):Option (((List Int)×Int)⊕((List Int))) :=
 if (decide (sa.2<(sa.1.length:Int)))=true then
  grd (decide ((0:Int)≤sa.2)&&decide (sa.2≤(sa.1.length:Int))) <|
  grd (decide ((0:Int)≤sa.2)&&decide (sa.2≤(sa.1.length:Int))) <|
  grd (Nat.ble ((sa.2).toNat + (sa.1.length - (sa.2).toNat)) sa.1.length) <|
  some (.inl ((sa.1.take ((sa.2).toNat)++(((sa.1.drop 0).take ((sa.2).toNat)).take (sa.1.length - (sa.2).toNat)++sa.1.drop ((sa.2).toNat + min ((sa.1.drop 0).take ((sa.2).toNat)).length (sa.1.length - (sa.2).toNat)))),(ac .i64 sa.2 ((min ((sa.1.drop 0).take ((sa.2).toNat)).length (sa.1.length - (sa.2).toNat):Nat):Int))))
 else
  some (.inr sa.1)
def cj (n:Nat) (x:(List Int)) (count:Int):Option (List Int) :=
 if (decide (count<0))=true then
  none
 else
  (ib n (IntKind.wrap .u64 (x.length:Int)) (IntKind.wrap .u64 count)).bind fun y2 =>
  if (decide (y2.1>0))=true then
   none
  else
   if (decide (y2.2>9223372036854775807))=true then
    none
   else
    grd (decide ((0:Int)≤(IntKind.wrap .i64 y2.2))&&decide ((IntKind.wrap .i64 y2.2)≤(IntKind.wrap .i64 y2.2))&&decide (8 * (IntKind.wrap .i64 y2.2)≤140737488355328)&&decide ((IntKind.wrap .i64 y2.2)≤140737488355328)&&Nat.blt 0 1) <|
    (iter (fun s=>cy n s) n ((x.take (List.replicate ((IntKind.wrap .i64 y2.2)).toNat 0).length++(List.replicate ((IntKind.wrap .i64 y2.2)).toNat 0).drop x.length),((min x.length (List.replicate ((IntKind.wrap .i64 y2.2)).toNat 0).length:Nat):Int))).bind fun t6 =>
    some t6
def iR (n:Nat) (c:af) (sa:(List Int)×Int):Option (((List Int)×Int)⊕((List Int))) :=
 if (decide (sa.2<(c.Order.length:Int)))=true then
  (ak c.Order sa.2).bind fun xa2 =>
  (ak sa.1 xa2).bind fun xa3 =>
  some (.inl ((sa.1.set (xa2).toNat sa.2),(ac .i64 sa.2 1)))
 else
  some (.inr sa.1)
def mh (n:Nat) (c:af):Option (List Int) :=
 (bU n c).bind fun y1 =>
 if (y1 != 0)=true then
  some ([]:List Int)
 else
  (cj n ([(-1)]:List Int) (c.From.length:Int)).bind fun y3 =>
  (iter (fun s=>iR n c s) n (y3,0)).bind fun t4 =>
  some t4
def jV (n:Nat) (oA:(List Cell)) (oB:(List (List Event))) (oC:(List Int)) (oD:(List Int)) (y3:(List Event)) (y4:(List Int)) (sa:(List Int×(List (Option (List Int))))×Int):Option (((List Int×(List (Option (List Int))))×Int)⊕((List Int×(List (Option (List Int)))))) :=
 if (decide (sa.2<(oD.length:Int)))=true then
  (ak oD sa.2).bind fun xa2 =>
  (ak y3 xa2).bind fun xa3 =>
  (bQ n xa3).bind fun ya4 =>
  if ya4=true then
   hJ (dy ey sa.1.1 xa3.Addr) (
    some (.inl (((sa.1.1++[xa3.Addr]),(sa.1.2++[some ([xa2]:List Int)])),(ac .i64 sa.2 1)))) fun za6 =>
    (sa.1.2[za6]?).bind fun xa8 =>
    hJ xa8 (
     some (.inl ((sa.1.1,(sa.1.2.set za6 (some ([xa2]:List Int)))),(ac .i64 sa.2 1)))) fun za9 =>
     grd (Nat.ble ((za9.length + 1) * 8) 140737488355328) <|
     some (.inl ((sa.1.1,(sa.1.2.set za6 (some (za9++([xa2]:List Int))))),(ac .i64 sa.2 1)))
  else
   some (.inl ((sa.1.1,sa.1.2),(ac .i64 sa.2 1)))
 else
  some (.inr (sa.1.1,sa.1.2))
def dU (n:Nat) (oA:(List Cell)) (oB:(List (List Event))) (oC:(List Int)) (oD:(List Int)):Option (Unit⊕((List (Int×(List Int)))×(List Event)×(List Int))) :=
 (bU n (af.mk oA oB oC oD)).bind fun y1 =>
 if (y1 != 0)=true then
  some (.inl ())
 else
  (pE n (af.mk oA oB oC oD)).bind fun y3 =>
  (mh n (af.mk oA oB oC oD)).bind fun y4 =>
  (iter (fun s=>jV n oA oB oC oD y3 y4 s) n ((([]:List Int),([]:List (Option (List Int)))),0)).bind fun t23 =>
  grd (nK t23.2) <|
  some (.inr ((AJ t23.1 t23.2),y3,y4))
def eC (n:Nat) (why:Int) (a:Int) (b:Int):Option aC :=
 some (aC.mk false why a b)
def bG (n:Nat) (oA:(List Cell)) (oB:(List (List Event))) (oC:(List Int)) (oD:(List Int)) (oE:(List Event)) (sa:(List Int)×Int):Option (((List Int)×Int)⊕((List Int))) :=
 if (decide (sa.2<(sa.1.length:Int)))=true then
  grd (decide ((0:Int)≤sa.2)&&decide (sa.2≤(sa.1.length:Int))) <|
  grd (decide ((0:Int)≤sa.2)&&decide (sa.2≤(sa.1.length:Int))) <|
  grd (Nat.ble ((sa.2).toNat + (sa.1.length - (sa.2).toNat)) sa.1.length) <|
  some (.inl ((sa.1.take ((sa.2).toNat)++(((sa.1.drop 0).take ((sa.2).toNat)).take (sa.1.length - (sa.2).toNat)++sa.1.drop ((sa.2).toNat + min ((sa.1.drop 0).take ((sa.2).toNat)).length (sa.1.length - (sa.2).toNat)))),(ac .i64 sa.2 ((min ((sa.1.drop 0).take ((sa.2).toNat)).length (sa.1.length - (sa.2).toNat):Nat):Int))))
 else
  some (.inr sa.1)
def bB (n:Nat) (x:(List Int)) (count:Int) (oA:(List Cell)) (oB:(List (List Event))) (oC:(List Int)) (oD:(List Int)) (oE:(List Event)):Option (List Int) :=
 if (decide (count<0))=true then
  none
 else
  (ib n (IntKind.wrap .u64 (x.length:Int)) (IntKind.wrap .u64 count)).bind fun y2 =>
  if (decide (y2.1>0))=true then
   none
  else
   if (decide (y2.2>9223372036854775807))=true then
    none
   else
    grd (decide ((0:Int)≤(IntKind.wrap .i64 y2.2))&&decide ((IntKind.wrap .i64 y2.2)≤(IntKind.wrap .i64 y2.2))&&decide (8 * (IntKind.wrap .i64 y2.2)≤140737488355328)&&decide ((IntKind.wrap .i64 y2.2)≤140737488355328)&&Nat.blt 0 1) <|
    (iter (fun s=>bG n oA oB oC oD oE s) n ((x.take (List.replicate ((IntKind.wrap .i64 y2.2)).toNat 0).length++(List.replicate ((IntKind.wrap .i64 y2.2)).toNat 0).drop x.length),((min x.length (List.replicate ((IntKind.wrap .i64 y2.2)).toNat 0).length:Nat):Int))).bind fun t6 =>
    some t6
def jA (n:Nat) (c:af) (y3:(List Event)) (xa2:Event) (sb:(List Int)×(List Int)×(List Int)×(List Int)×(List Int)×Int×Int×Int):Option (((List Int)×(List Int)×(List Int)×(List Int)×(List Int)×Int×Int×Int)⊕((List Int)×(List Int)×(List Int)×(List Int)×(List Int)×Int×Int)) :=
 if (decide (sb.2.2.2.2.2.2.1<4))=true then
  if (sb.2.2.2.2.2.2.1==0)=true then
   (ak sb.2.1 sb.2.2.2.2.2.2.2).bind fun xb3 =>
   (ak sb.2.1 (ac .i64 sb.2.2.2.2.2.2.2 1)).bind fun xb4 =>
   if (xa2.Kind==6)=true then
    grd (decide ((0:Int)≤(fG .i64 sb.2.2.2.2.2.2.1 2))) <|
    if ((bg .i64 (cR .i64 xa2.Pred (fG .i64 sb.2.2.2.2.2.2.1 2)) 1)==1)=true then
     grd (decide ((0:Int)≤(cw .i64 sb.2.2.2.2.2.2.1 2))) <|
     if ((bg .i64 (cR .i64 xa2.Succ (cw .i64 sb.2.2.2.2.2.2.1 2)) 1)==1)=true then
      (ak (sb.2.1.set ((ac .i64 sb.2.2.2.2.2.2.2 1)).toNat xb3) (ac .i64 sb.2.2.2.2.2.2.2 1)).bind fun xb10 =>
      some (.inl (sb.1,((sb.2.1.set ((ac .i64 sb.2.2.2.2.2.2.2 1)).toNat xb3).set ((ac .i64 sb.2.2.2.2.2.2.2 1)).toNat (ac .i64 xb10 1)),sb.2.2.1,sb.2.2.2.1,sb.2.2.2.2.1,sb.2.2.2.2.2.1,(ac .i64 sb.2.2.2.2.2.2.1 1),sb.2.2.2.2.2.2.2))
     else
      some (.inl (sb.1,(sb.2.1.set ((ac .i64 sb.2.2.2.2.2.2.2 1)).toNat xb3),sb.2.2.1,sb.2.2.2.1,sb.2.2.2.2.1,sb.2.2.2.2.2.1,(ac .i64 sb.2.2.2.2.2.2.1 1),sb.2.2.2.2.2.2.2))
    else
     some (.inl (sb.1,(sb.2.1.set ((ac .i64 sb.2.2.2.2.2.2.2 1)).toNat xb3),sb.2.2.1,sb.2.2.2.1,sb.2.2.2.2.1,sb.2.2.2.2.2.1,(ac .i64 sb.2.2.2.2.2.2.1 1),sb.2.2.2.2.2.2.2))
   else
    some (.inl (sb.1,(sb.2.1.set ((ac .i64 sb.2.2.2.2.2.2.2 1)).toNat xb3),sb.2.2.1,sb.2.2.2.1,sb.2.2.2.2.1,sb.2.2.2.2.2.1,(ac .i64 sb.2.2.2.2.2.2.1 1),sb.2.2.2.2.2.2.2))
  else
   if (sb.2.2.2.2.2.2.1==1)=true then
    (ak sb.2.2.1 sb.2.2.2.2.2.2.2).bind fun xb3 =>
    (ak sb.2.2.1 (ac .i64 sb.2.2.2.2.2.2.2 1)).bind fun xb4 =>
    if (xa2.Kind==6)=true then
     grd (decide ((0:Int)≤(fG .i64 sb.2.2.2.2.2.2.1 2))) <|
     if ((bg .i64 (cR .i64 xa2.Pred (fG .i64 sb.2.2.2.2.2.2.1 2)) 1)==1)=true then
      grd (decide ((0:Int)≤(cw .i64 sb.2.2.2.2.2.2.1 2))) <|
      if ((bg .i64 (cR .i64 xa2.Succ (cw .i64 sb.2.2.2.2.2.2.1 2)) 1)==1)=true then
       (ak (sb.2.2.1.set ((ac .i64 sb.2.2.2.2.2.2.2 1)).toNat xb3) (ac .i64 sb.2.2.2.2.2.2.2 1)).bind fun xb10 =>
       some (.inl (sb.1,sb.2.1,((sb.2.2.1.set ((ac .i64 sb.2.2.2.2.2.2.2 1)).toNat xb3).set ((ac .i64 sb.2.2.2.2.2.2.2 1)).toNat (ac .i64 xb10 1)),sb.2.2.2.1,sb.2.2.2.2.1,sb.2.2.2.2.2.1,(ac .i64 sb.2.2.2.2.2.2.1 1),sb.2.2.2.2.2.2.2))
      else
       some (.inl (sb.1,sb.2.1,(sb.2.2.1.set ((ac .i64 sb.2.2.2.2.2.2.2 1)).toNat xb3),sb.2.2.2.1,sb.2.2.2.2.1,sb.2.2.2.2.2.1,(ac .i64 sb.2.2.2.2.2.2.1 1),sb.2.2.2.2.2.2.2))
     else
      some (.inl (sb.1,sb.2.1,(sb.2.2.1.set ((ac .i64 sb.2.2.2.2.2.2.2 1)).toNat xb3),sb.2.2.2.1,sb.2.2.2.2.1,sb.2.2.2.2.2.1,(ac .i64 sb.2.2.2.2.2.2.1 1),sb.2.2.2.2.2.2.2))
    else
     some (.inl (sb.1,sb.2.1,(sb.2.2.1.set ((ac .i64 sb.2.2.2.2.2.2.2 1)).toNat xb3),sb.2.2.2.1,sb.2.2.2.2.1,sb.2.2.2.2.2.1,(ac .i64 sb.2.2.2.2.2.2.1 1),sb.2.2.2.2.2.2.2))
   else
    if (sb.2.2.2.2.2.2.1==2)=true then
     (ak sb.2.2.2.1 sb.2.2.2.2.2.2.2).bind fun xb3 =>
     (ak sb.2.2.2.1 (ac .i64 sb.2.2.2.2.2.2.2 1)).bind fun xb4 =>
     if (xa2.Kind==6)=true then
      grd (decide ((0:Int)≤(fG .i64 sb.2.2.2.2.2.2.1 2))) <|
      if ((bg .i64 (cR .i64 xa2.Pred (fG .i64 sb.2.2.2.2.2.2.1 2)) 1)==1)=true then
       grd (decide ((0:Int)≤(cw .i64 sb.2.2.2.2.2.2.1 2))) <|
       if ((bg .i64 (cR .i64 xa2.Succ (cw .i64 sb.2.2.2.2.2.2.1 2)) 1)==1)=true then
        (ak (sb.2.2.2.1.set ((ac .i64 sb.2.2.2.2.2.2.2 1)).toNat xb3) (ac .i64 sb.2.2.2.2.2.2.2 1)).bind fun xb10 =>
        some (.inl (sb.1,sb.2.1,sb.2.2.1,((sb.2.2.2.1.set ((ac .i64 sb.2.2.2.2.2.2.2 1)).toNat xb3).set ((ac .i64 sb.2.2.2.2.2.2.2 1)).toNat (ac .i64 xb10 1)),sb.2.2.2.2.1,sb.2.2.2.2.2.1,(ac .i64 sb.2.2.2.2.2.2.1 1),sb.2.2.2.2.2.2.2))
       else
        some (.inl (sb.1,sb.2.1,sb.2.2.1,(sb.2.2.2.1.set ((ac .i64 sb.2.2.2.2.2.2.2 1)).toNat xb3),sb.2.2.2.2.1,sb.2.2.2.2.2.1,(ac .i64 sb.2.2.2.2.2.2.1 1),sb.2.2.2.2.2.2.2))
      else
       some (.inl (sb.1,sb.2.1,sb.2.2.1,(sb.2.2.2.1.set ((ac .i64 sb.2.2.2.2.2.2.2 1)).toNat xb3),sb.2.2.2.2.1,sb.2.2.2.2.2.1,(ac .i64 sb.2.2.2.2.2.2.1 1),sb.2.2.2.2.2.2.2))
     else
      some (.inl (sb.1,sb.2.1,sb.2.2.1,(sb.2.2.2.1.set ((ac .i64 sb.2.2.2.2.2.2.2 1)).toNat xb3),sb.2.2.2.2.1,sb.2.2.2.2.2.1,(ac .i64 sb.2.2.2.2.2.2.1 1),sb.2.2.2.2.2.2.2))
    else
     if (sb.2.2.2.2.2.2.1==3)=true then
      (ak sb.2.2.2.2.1 sb.2.2.2.2.2.2.2).bind fun xb3 =>
      (ak sb.2.2.2.2.1 (ac .i64 sb.2.2.2.2.2.2.2 1)).bind fun xb4 =>
      if (xa2.Kind==6)=true then
       grd (decide ((0:Int)≤(fG .i64 sb.2.2.2.2.2.2.1 2))) <|
       if ((bg .i64 (cR .i64 xa2.Pred (fG .i64 sb.2.2.2.2.2.2.1 2)) 1)==1)=true then
        grd (decide ((0:Int)≤(cw .i64 sb.2.2.2.2.2.2.1 2))) <|
        if ((bg .i64 (cR .i64 xa2.Succ (cw .i64 sb.2.2.2.2.2.2.1 2)) 1)==1)=true then
         (ak (sb.2.2.2.2.1.set ((ac .i64 sb.2.2.2.2.2.2.2 1)).toNat xb3) (ac .i64 sb.2.2.2.2.2.2.2 1)).bind fun xb10 =>
         some (.inl (sb.1,sb.2.1,sb.2.2.1,sb.2.2.2.1,((sb.2.2.2.2.1.set ((ac .i64 sb.2.2.2.2.2.2.2 1)).toNat xb3).set ((ac .i64 sb.2.2.2.2.2.2.2 1)).toNat (ac .i64 xb10 1)),sb.2.2.2.2.2.1,(ac .i64 sb.2.2.2.2.2.2.1 1),sb.2.2.2.2.2.2.2))
        else
         some (.inl (sb.1,sb.2.1,sb.2.2.1,sb.2.2.2.1,(sb.2.2.2.2.1.set ((ac .i64 sb.2.2.2.2.2.2.2 1)).toNat xb3),sb.2.2.2.2.2.1,(ac .i64 sb.2.2.2.2.2.2.1 1),sb.2.2.2.2.2.2.2))
       else
        some (.inl (sb.1,sb.2.1,sb.2.2.1,sb.2.2.2.1,(sb.2.2.2.2.1.set ((ac .i64 sb.2.2.2.2.2.2.2 1)).toNat xb3),sb.2.2.2.2.2.1,(ac .i64 sb.2.2.2.2.2.2.1 1),sb.2.2.2.2.2.2.2))
      else
       some (.inl (sb.1,sb.2.1,sb.2.2.1,sb.2.2.2.1,(sb.2.2.2.2.1.set ((ac .i64 sb.2.2.2.2.2.2.2 1)).toNat xb3),sb.2.2.2.2.2.1,(ac .i64 sb.2.2.2.2.2.2.1 1),sb.2.2.2.2.2.2.2))
     else
      none
 else
  some (.inr (sb.1,sb.2.1,sb.2.2.1,sb.2.2.2.1,sb.2.2.2.2.1,sb.2.2.2.2.2.1,sb.2.2.2.2.2.2.2))
def jB (n:Nat) (c:af) (y3:(List Event)) (xa2:Event) (sb:(List Int)×(List Int)×(List Int)×(List Int)×(List Int)×Int×Int×Int):Option (((List Int)×(List Int)×(List Int)×(List Int)×(List Int)×Int×Int×Int)⊕((List Int)×(List Int)×(List Int)×(List Int)×(List Int)×Int)) :=
 if (decide (sb.2.2.2.2.2.1<(xa2.Deps.Addr.length:Int)))=true then
  (ak xa2.Deps.Addr sb.2.2.2.2.2.1).bind fun xb2 =>
  (ak sb.1 (ac .i64 (aJ .i64 sb.2.2.2.2.2.2.2 xa2.At) xb2)).bind fun xb3 =>
  some (.inl ((sb.1.set ((ac .i64 (aJ .i64 sb.2.2.2.2.2.2.2 xa2.At) xb2)).toNat (yI xb3 sb.2.2.2.2.2.2.2)),sb.2.1,sb.2.2.1,sb.2.2.2.1,sb.2.2.2.2.1,(ac .i64 sb.2.2.2.2.2.1 1),sb.2.2.2.2.2.2.1,sb.2.2.2.2.2.2.2))
 else
  some (.inr (sb.1,sb.2.1,sb.2.2.1,sb.2.2.2.1,sb.2.2.2.2.1,sb.2.2.2.2.2.2.1))
def m_ (n:Nat) (c:af) (y3:(List Event)) (sa:(List Int)×(List Int)×(List Int)×(List Int)×(List Int)×Int):Option (((List Int)×(List Int)×(List Int)×(List Int)×(List Int)×Int)⊕((List Int)×(List Int)×(List Int)×(List Int)×(List Int))) :=
 if (decide (sa.2.2.2.2.2<(y3.length:Int)))=true then
  (ak y3 sa.2.2.2.2.2).bind fun xa2 =>
  (iter (fun s=>jA n c y3 xa2 s) n (sa.1,sa.2.1,sa.2.2.1,sa.2.2.2.1,sa.2.2.2.2.1,sa.2.2.2.2.2,0,sa.2.2.2.2.2)).bind fun ta3 =>
  (iter (fun s=>jB n c y3 xa2 s) n (ta3.1,ta3.2.1,ta3.2.2.1,ta3.2.2.2.1,ta3.2.2.2.2.1,0,ta3.2.2.2.2.2.1,ta3.2.2.2.2.2.2)).bind fun ta4 =>
  some (.inl (ta4.1,ta4.2.1,ta4.2.2.1,ta4.2.2.2.1,ta4.2.2.2.2.1,(ac .i64 ta4.2.2.2.2.2 1)))
 else
  some (.inr (sa.1,sa.2.1,sa.2.2.1,sa.2.2.2.1,sa.2.2.2.2.1))
def jC (n:Nat) (c:af):Option (Option ai) :=
 (bU n c).bind fun y1 =>
 if (y1 != 0)=true then
  some (none:Option ai)
 else
  (aQ n c.Harts).bind fun y3 =>
  (bB n ([(y3.length:Int)]:List Int) (y3.length:Int) c.First c.Harts c.From c.Order y3).bind fun y4 =>
  grd (decide ((0:Int)≤(ac .i64 (y3.length:Int) 1))&&decide ((ac .i64 (y3.length:Int) 1)≤(ac .i64 (y3.length:Int) 1))&&decide (8 * (ac .i64 (y3.length:Int) 1)≤140737488355328)&&decide ((ac .i64 (y3.length:Int) 1)≤140737488355328)&&Nat.blt 0 1) <|
  grd (decide ((0:Int)≤(ac .i64 (y3.length:Int) 1))&&decide ((ac .i64 (y3.length:Int) 1)≤(ac .i64 (y3.length:Int) 1))&&decide (8 * (ac .i64 (y3.length:Int) 1)≤140737488355328)&&decide ((ac .i64 (y3.length:Int) 1)≤140737488355328)&&Nat.blt 0 1) <|
  grd (decide ((0:Int)≤(ac .i64 (y3.length:Int) 1))&&decide ((ac .i64 (y3.length:Int) 1)≤(ac .i64 (y3.length:Int) 1))&&decide (8 * (ac .i64 (y3.length:Int) 1)≤140737488355328)&&decide ((ac .i64 (y3.length:Int) 1)≤140737488355328)&&Nat.blt 0 1) <|
  grd (decide ((0:Int)≤(ac .i64 (y3.length:Int) 1))&&decide ((ac .i64 (y3.length:Int) 1)≤(ac .i64 (y3.length:Int) 1))&&decide (8 * (ac .i64 (y3.length:Int) 1)≤140737488355328)&&decide ((ac .i64 (y3.length:Int) 1)≤140737488355328)&&Nat.blt 0 1) <|
  (iter (fun s=>m_ n c y3 s) n (y4,(List.replicate ((ac .i64 (y3.length:Int) 1)).toNat 0),(List.replicate ((ac .i64 (y3.length:Int) 1)).toNat 0),(List.replicate ((ac .i64 (y3.length:Int) 1)).toNat 0),(List.replicate ((ac .i64 (y3.length:Int) 1)).toNat 0),0)).bind fun t9 =>
  some (some (ai.mk (some c) y3 (Kb.mk t9.2.1 t9.2.2.1 t9.2.2.2.1 t9.2.2.2.2) t9.1))
def fm (n:Nat) (v:ai) (a:Int) (b:Int):Option Bool :=
 if (decide (a<0))=true then
  some false
 else
  if (decide (b≥(v.all.length:Int)))=true then
   some false
  else
   if (decide (a≥b))=true then
    some false
   else
    (ak v.all a).bind fun x4 =>
    (ak v.all b).bind fun x5 =>
    if (x4.Hart==x5.Hart)=true then
     (fI n x4).bind fun y7 =>
     if y7=true then
      (fI n x5).bind fun y9 =>
      some y9
     else
      some false
    else
     some false
def zw (n:Nat):Option Unit :=
 some ()
def fA (n:Nat) (v:ai) (a:Int) (b:Int) (x:Event) (y:Event):Option Bool :=
 (bQ n y).bind fun y1 =>
 if y1=true then
  some (x.Addr==y.Addr)
 else
  some false
def ic (n:Nat) (m:Event) (a:Int) (a_:Int) (a_A:Int) (a_B:Int) (a_C:Int) (a_D:Int) (a_E:Bool) (a_F:Bool) (a_G:Int) (a_H:Int) (a_I:Int) (a_J:(List Int)) (a_K:(List Int)) (a_L:(List Int)):Option Bool :=
 (bQ n m).bind fun y1 =>
 if y1=true then
  some (m.Addr==a_B)
 else
  some false
def aP (n:Nat) (s_:(List Event)) (f:Int) (f_:Int) (f_A:Int) (f_B:Int) (f_C:Int) (f_D:Int) (f_E:Bool) (f_F:Bool) (f_G:Int) (f_H:Int) (f_I:Int) (f_J:(List Int)) (f_K:(List Int)) (f_L:(List Int)) (sa:Int):Option (Int⊕(Unit⊕Int)) :=
 if (decide (sa<(s_.length:Int)))=true then
  (ak s_ sa).bind fun xa2 =>
  (ic n xa2 f f_ f_A f_B f_C f_D f_E f_F f_G f_H f_I f_J f_K f_L).bind fun ya3 =>
  if ya3=true then
   some (.inr (.inr sa))
  else
   some (.inl (ac .i64 sa 1))
 else
  some (.inr (.inl ()))
def bn (n:Nat) (s_:(List Event)) (f:Int) (f_:Int) (f_A:Int) (f_B:Int) (f_C:Int) (f_D:Int) (f_E:Bool) (f_F:Bool) (f_G:Int) (f_H:Int) (f_I:Int) (f_J:(List Int)) (f_K:(List Int)) (f_L:(List Int)):Option Int :=
 (iter (fun s=>aP n s_ f f_ f_A f_B f_C f_D f_E f_F f_G f_H f_I f_J f_K f_L s) n 0).bind fun t1 =>
 match t1 with
 | .inl w2 =>
  some (-1)
 | .inr w2 =>
  some w2
def a6 (n:Nat) (s_:(List Event)) (f:Int) (f_:Int) (f_A:Int) (f_B:Int) (f_C:Int) (f_D:Int) (f_E:Bool) (f_F:Bool) (f_G:Int) (f_H:Int) (f_I:Int) (f_J:(List Int)) (f_K:(List Int)) (f_L:(List Int)):Option Bool :=
 (bn n s_ f f_ f_A f_B f_C f_D f_E f_F f_G f_H f_I f_J f_K f_L).bind fun y1 =>
 some (decide (y1≥0))
def fB (n:Nat) (v:ai) (a:Int) (b:Int) (x:Event) (y:Event):Option Bool :=
 if (x.Addr != y.Addr)=true then
  some false
 else
  (bi n x).bind fun y2 =>
  if (!y2)=true then
   some false
  else
   (bi n y).bind fun y4 =>
   if (!y4)=true then
    some false
   else
    hJ v.c (
     none) fun z6 =>
     (ak z6.From a).bind fun x8 =>
     hJ v.c (
      none) fun z9 =>
      (ak z9.From b).bind fun x11 =>
      if (x8==x11)=true then
       some false
      else
       grd (decide ((0:Int)≤(ac .i64 a 1))&&decide ((ac .i64 a 1)≤b)&&decide (b≤(v.all.length:Int))) <|
       (a6 n ((v.all.drop ((ac .i64 a 1)).toNat).take ((b).toNat - ((ac .i64 a 1)).toNat)) x.Hart x.At x.Kind x.Addr x.Load x.Store x.Aq x.Rl x.Pred x.Succ x.Pair x.Deps.Addr x.Deps.Data x.Deps.Way).bind fun y14 =>
       some (!y14)
def fC (n:Nat) (v:ai) (a:Int) (b:Int) (x:Event) (y:Event):Option Bool :=
 if (x.Kind==4)=true then
  (bi n y).bind fun y2 =>
  if y2=true then
   hJ v.c (
    none) fun z4 =>
    (ak z4.From b).bind fun x6 =>
    some (x6==a)
  else
   some false
 else
  if (x.Kind==5)=true then
   (bi n y).bind fun y3 =>
   if y3=true then
    hJ v.c (
     none) fun z5 =>
     (ak z5.From b).bind fun x7 =>
     some (x7==a)
   else
    some false
  else
   some false
def jD (n:Nat) (e:Event):Option (List Int) :=
 (bQ n e).bind fun y1 =>
 if y1=true then
  (bi n e).bind fun y3 =>
  if y3=true then
   grd (Nat.ble ((([0]:List Int).length + 1) * 8) 140737488355328) <|
   some (([0]:List Int)++([1]:List Int))
  else
   some ([0]:List Int)
 else
  (bi n e).bind fun y3 =>
  if y3=true then
   some ([1]:List Int)
  else
   some ([]:List Int)
def dV (n:Nat) (v:ai) (a:Int) (b:Int) (y2:(List Int)) (xa2:Int) (ya4:(List Int)) (sb:Int×Int):Option ((Int×Int)⊕(Int⊕Unit)) :=
 if (decide (sb.2<(ya4.length:Int)))=true then
  (ak ya4 sb.2).bind fun xb2 =>
  if ((ac .i64 (iO .i64 2 xa2) xb2)==0)=true then
   (ak v.fences.e0 b).bind fun xb4 =>
   (ak v.fences.e0 a).bind fun xb5 =>
   if (decide (xb4>xb5))=true then
    some (.inr (.inr ()))
   else
    some (.inl (sb.1,(ac .i64 sb.2 1)))
  else
   if ((ac .i64 (iO .i64 2 xa2) xb2)==1)=true then
    (ak v.fences.e1 b).bind fun xb4 =>
    (ak v.fences.e1 a).bind fun xb5 =>
    if (decide (xb4>xb5))=true then
     some (.inr (.inr ()))
    else
     some (.inl (sb.1,(ac .i64 sb.2 1)))
   else
    if ((ac .i64 (iO .i64 2 xa2) xb2)==2)=true then
     (ak v.fences.e2 b).bind fun xb4 =>
     (ak v.fences.e2 a).bind fun xb5 =>
     if (decide (xb4>xb5))=true then
      some (.inr (.inr ()))
     else
      some (.inl (sb.1,(ac .i64 sb.2 1)))
    else
     if ((ac .i64 (iO .i64 2 xa2) xb2)==3)=true then
      (ak v.fences.e3 b).bind fun xb4 =>
      (ak v.fences.e3 a).bind fun xb5 =>
      if (decide (xb4>xb5))=true then
       some (.inr (.inr ()))
      else
       some (.inl (sb.1,(ac .i64 sb.2 1)))
     else
      none
 else
  some (.inr (.inl sb.1))
def dW (n:Nat) (v:ai) (a:Int) (b:Int) (y2:(List Int)) (sa:Int):Option (Int⊕(Unit⊕Unit)) :=
 if (decide (sa<(y2.length:Int)))=true then
  (ak y2 sa).bind fun xa2 =>
  (ak v.all b).bind fun xa3 =>
  (jD n xa3).bind fun ya4 =>
  (iter (fun s=>dV n v a b y2 xa2 ya4 s) n (sa,0)).bind fun ta5 =>
  match ta5 with
  | .inl wa6 =>
   some (.inl (ac .i64 wa6 1))
  | .inr wa6 =>
   some (.inr (.inr ()))
 else
  some (.inr (.inl ()))
def eD (n:Nat) (v:ai) (a:Int) (b:Int):Option Bool :=
 (ak v.all a).bind fun x1 =>
 (jD n x1).bind fun y2 =>
 (iter (fun s=>dW n v a b y2 s) n 0).bind fun t3 =>
 match t3 with
 | .inl w4 =>
  some false
 | .inr w4 =>
  some true
def fD (n:Nat) (v:ai) (a:Int) (b:Int) (x:Event) (y:Event):Option Bool :=
 (eD n v a b).bind fun y1 =>
 some y1
def mi (n:Nat) (v:ai) (a:Int) (b:Int) (x:Event) (y:Event):Option Bool :=
 some x.Aq
def mj (n:Nat) (v:ai) (a:Int) (b:Int) (x:Event) (y:Event):Option Bool :=
 some y.Rl
def fE (n:Nat) (v:ai) (a:Int) (b:Int) (x:Event) (y:Event):Option Bool :=
 if x.Aq=true then
  if y.Aq=true then
   some true
  else
   some y.Rl
 else
  if x.Rl=true then
   if y.Aq=true then
    some true
   else
    some y.Rl
  else
   some false
def iD (n:Nat) (v:ai) (a:Int) (b:Int) (x:Event) (y:Event):Option Bool :=
 if (y.Kind==4)=true then
  some (y.Pair==x.At)
 else
  some false
def cmp_isNaN_int (n:Nat) (x:Int):Option Bool :=
 some (x != x)
def cmp_Less_int (n:Nat) (x:Int) (y:Int):Option Bool :=
 (cmp_isNaN_int n x).bind fun y1 =>
 if y1=true then
  (cmp_isNaN_int n y).bind fun y3 =>
  if (!y3)=true then
   some true
  else
   some (decide (x<y))
 else
  some (decide (x<y))
def jE (n:Nat) (x:Int):Option Bool :=
 some (x != x)
def bp (n:Nat) (x:(List Int)) (target:Int) (sa:Int×Int):Option ((Int×Int)⊕Int) :=
 if (decide (sa.1<sa.2))=true then
  (ak x (IntKind.wrap .i64 (cR .u64 (IntKind.wrap .u64 (ac .i64 sa.1 sa.2)) 1))).bind fun xa2 =>
  (cmp_Less_int n xa2 target).bind fun ya3 =>
  if ya3=true then
   some (.inl ((ac .i64 (IntKind.wrap .i64 (cR .u64 (IntKind.wrap .u64 (ac .i64 sa.1 sa.2)) 1)) 1),sa.2))
  else
   some (.inl (sa.1,(IntKind.wrap .i64 (cR .u64 (IntKind.wrap .u64 (ac .i64 sa.1 sa.2)) 1))))
 else
  some (.inr sa.1)
def cr (n:Nat) (x:(List Int)) (target:Int):Option (Int×Bool) :=
 (iter (fun s=>bp n x target s) n (0,(x.length:Int))).bind fun t1 =>
 if (decide (t1<(x.length:Int)))=true then
  (ak x t1).bind fun x3 =>
  if (x3==target)=true then
   some (t1,true)
  else
   (jE n x3).bind fun y5 =>
   if y5=true then
    (jE n target).bind fun y7 =>
    some (t1,y7)
   else
    some (t1,false)
 else
  some (t1,false)
def mP (n:Nat) (l:(List Int)) (at_:Int):Option Bool :=
 (cr n l at_).bind fun y1 =>
 some y1.2
def fF (n:Nat) (v:ai) (a:Int) (b:Int) (x:Event) (y:Event):Option Bool :=
 (mP n y.Deps.Addr x.At).bind fun y1 =>
 some y1
def eJ (n:Nat) (v:ai) (a:Int) (b:Int) (x:Event) (y:Event):Option Bool :=
 (mP n y.Deps.Data x.At).bind fun y1 =>
 some y1
def eK (n:Nat) (v:ai) (a:Int) (b:Int) (x:Event) (y:Event):Option Bool :=
 (bQ n y).bind fun y1 =>
 if y1=true then
  (mP n y.Deps.Way x.At).bind fun y3 =>
  some y3
 else
  some false
def eM (n:Nat) (v:ai) (a:Int) (b:Int) (x:Event) (y:Event):Option Bool :=
 hJ v.c (
  none) fun z1 =>
  (ak z1.From b).bind fun x3 =>
  (bi n y).bind fun y4 =>
  if y4=true then
   if (decide (x3>a))=true then
    if (decide (x3<b))=true then
     (ak v.all x3).bind fun x8 =>
     (mP n x8.Deps.Addr x.At).bind fun y9 =>
     if y9=true then
      some true
     else
      (mP n x8.Deps.Data x.At).bind fun y11 =>
      some y11
    else
     some false
   else
    some false
  else
   some false
def eO (n:Nat) (v:ai) (a:Int) (b:Int) (x:Event) (y:Event):Option Bool :=
 (bQ n y).bind fun y1 =>
 if y1=true then
  (ak v.hung a).bind fun x3 =>
  some (decide (x3<b))
 else
  some false
def fo (n:Nat) (v:ai) (a:Int) (b:Int) (sa:Int):Option (Int⊕(Unit⊕Int)) :=
 if (decide (sa<13))=true then
  if (sa==0)=true then
   (ak v.all a).bind fun xa3 =>
   (ak v.all b).bind fun xa4 =>
   (fA n v a b xa3 xa4).bind fun ya5 =>
   if ya5=true then
    some (.inr (.inr 1))
   else
    some (.inl 1)
  else
   if (sa==1)=true then
    (ak v.all a).bind fun xa3 =>
    (ak v.all b).bind fun xa4 =>
    (fB n v a b xa3 xa4).bind fun ya5 =>
    if ya5=true then
     some (.inr (.inr 2))
    else
     some (.inl 2)
   else
    if (sa==2)=true then
     (ak v.all a).bind fun xa3 =>
     (ak v.all b).bind fun xa4 =>
     (fC n v a b xa3 xa4).bind fun ya5 =>
     if ya5=true then
      some (.inr (.inr 3))
     else
      some (.inl 3)
    else
     if (sa==3)=true then
      (ak v.all a).bind fun xa3 =>
      (ak v.all b).bind fun xa4 =>
      (fD n v a b xa3 xa4).bind fun ya5 =>
      if ya5=true then
       some (.inr (.inr 4))
      else
       some (.inl 4)
     else
      if (sa==4)=true then
       (ak v.all a).bind fun xa3 =>
       (ak v.all b).bind fun xa4 =>
       (mi n v a b xa3 xa4).bind fun ya5 =>
       if ya5=true then
        some (.inr (.inr 5))
       else
        some (.inl 5)
      else
       if (sa==5)=true then
        (ak v.all a).bind fun xa3 =>
        (ak v.all b).bind fun xa4 =>
        (mj n v a b xa3 xa4).bind fun ya5 =>
        if ya5=true then
         some (.inr (.inr 6))
        else
         some (.inl 6)
       else
        if (sa==6)=true then
         (ak v.all a).bind fun xa3 =>
         (ak v.all b).bind fun xa4 =>
         (fE n v a b xa3 xa4).bind fun ya5 =>
         if ya5=true then
          some (.inr (.inr 7))
         else
          some (.inl 7)
        else
         if (sa==7)=true then
          (ak v.all a).bind fun xa3 =>
          (ak v.all b).bind fun xa4 =>
          (iD n v a b xa3 xa4).bind fun ya5 =>
          if ya5=true then
           some (.inr (.inr 8))
          else
           some (.inl 8)
         else
          if (sa==8)=true then
           (ak v.all a).bind fun xa3 =>
           (ak v.all b).bind fun xa4 =>
           (fF n v a b xa3 xa4).bind fun ya5 =>
           if ya5=true then
            some (.inr (.inr 9))
           else
            some (.inl 9)
          else
           if (sa==9)=true then
            (ak v.all a).bind fun xa3 =>
            (ak v.all b).bind fun xa4 =>
            (eJ n v a b xa3 xa4).bind fun ya5 =>
            if ya5=true then
             some (.inr (.inr 10))
            else
             some (.inl 10)
           else
            if (sa==10)=true then
             (ak v.all a).bind fun xa3 =>
             (ak v.all b).bind fun xa4 =>
             (eK n v a b xa3 xa4).bind fun ya5 =>
             if ya5=true then
              some (.inr (.inr 11))
             else
              some (.inl 11)
            else
             if (sa==11)=true then
              (ak v.all a).bind fun xa3 =>
              (ak v.all b).bind fun xa4 =>
              (eM n v a b xa3 xa4).bind fun ya5 =>
              if ya5=true then
               some (.inr (.inr 12))
              else
               some (.inl 12)
             else
              if (sa==12)=true then
               (ak v.all a).bind fun xa3 =>
               (ak v.all b).bind fun xa4 =>
               (eO n v a b xa3 xa4).bind fun ya5 =>
               if ya5=true then
                some (.inr (.inr 13))
               else
                some (.inl 13)
              else
               if (sa==13)=true then
                none
               else
                none
 else
  some (.inr (.inl ()))
def cT (n:Nat) (v:ai) (a:Int) (b:Int):Option Int :=
 (fm n v a b).bind fun y1 =>
 if (!y1)=true then
  some 0
 else
  (zw n).bind fun y3 =>
  (iter (fun s=>fo n v a b s) n 0).bind fun t4 =>
  match t4 with
  | .inl w5 =>
   some 0
  | .inr w5 =>
   some w5
def kM (n:Nat) (z2:ai) (xa2:Event) (sb:(List (bJ Int))×Int×Int×Int):Option (((List (bJ Int))×Int×Int×Int)⊕((List (bJ Int))×Int)) :=
 if (decide (sb.2.2.2<(z2.all.length:Int)))=true then
  (ak z2.all sb.2.2.2).bind fun xb2 =>
  if (xb2.Hart==xa2.Hart)=true then
   (cT n z2 sb.2.2.1 sb.2.2.2).bind fun yb4 =>
   if (decide (yb4>0))=true then
    grd (Nat.ble ((sb.1.length + 1) * 16) 140737488355328) <|
    some (.inl ((sb.1++([(bJ.mk sb.2.2.1 sb.2.2.2)]:List (bJ Int))),sb.2.1,sb.2.2.1,(ac .i64 sb.2.2.2 1)))
   else
    some (.inl (sb.1,sb.2.1,sb.2.2.1,(ac .i64 sb.2.2.2 1)))
  else
   some (.inr (sb.1,sb.2.1))
 else
  some (.inr (sb.1,sb.2.1))
def kN (n:Nat) (z2:ai) (sa:(List (bJ Int))×Int):Option (((List (bJ Int))×Int)⊕((List (bJ Int)))) :=
 if (decide (sa.2<(z2.all.length:Int)))=true then
  (ak z2.all sa.2).bind fun xa2 =>
  (iter (fun s=>kM n z2 xa2 s) n (sa.1,sa.2,sa.2,(ac .i64 sa.2 1))).bind fun ta3 =>
  some (.inl (ta3.1,(ac .i64 ta3.2 1)))
 else
  some (.inr sa.1)
def jF (n:Nat) (c:af):Option (List (bJ Int)) :=
 (jC n c).bind fun y1 =>
 match y1 with
 | none =>
  some ([]:List (bJ Int))
 | some z2 =>
  (iter (fun s=>kN n z2 s) n (([]:List (bJ Int)),0)).bind fun t3 =>
  some t3
def jG (n:Nat):Option aC :=
 some (aC.mk true 0 (-1) (-1))
def bR (n:Nat) (oA:(List Cell)) (oB:(List (List Event))) (oC:(List Int)) (oD:(List Int)) (oE:(List (Int×(List Int)))) (oF:(List Event)) (oG:(List Int)) (y1:(List (bJ Int))) (sa:Int):Option (Int⊕(Unit⊕(Bool×Int×Int×Int))) :=
 if (decide (sa<(y1.length:Int)))=true then
  (ak y1 sa).bind fun xa2 =>
  (ak oG xa2.e0).bind fun xa3 =>
  (ak oG xa2.e1).bind fun xa4 =>
  if (decide (xa3>xa4))=true then
   (eC n 2 xa2.e0 xa2.e1).bind fun ya6 =>
   some (.inr (.inr (ya6.OK,ya6.Why,ya6.A_,ya6.B)))
  else
   some (.inl (ac .i64 sa 1))
 else
  some (.inr (.inl ()))
def dz (n:Nat) (oA:(List Cell)) (oB:(List (List Event))) (oC:(List Int)) (oD:(List Int)) (oE:(List (Int×(List Int)))) (oF:(List Event)) (oG:(List Int)):Option (Bool×Int×Int×Int) :=
 (jF n (af.mk oA oB oC oD)).bind fun y1 =>
 (iter (fun s=>bR n oA oB oC oD oE oF oG y1 s) n 0).bind fun t2 =>
 match t2 with
 | .inl w3 =>
  (jG n).bind fun y4 =>
  some (y4.OK,y4.Why,y4.A_,y4.B)
 | .inr w3 =>
  some (w3.1,w3.2.1,w3.2.2.1,w3.2.2.2)
def bq (n:Nat) (n_:Int) (oA:(List Cell)) (oB:(List (List Event))) (oC:(List Int)) (oD:(List Int)) (oE:(List (Int×(List Int)))) (oF:(List Event)) (oG:(List Int)) (x1:Event) (sa:(List Int)×Int):Option (((List Int)×Int)⊕(Unit⊕Int)) :=
 if (decide (sa.2≥0))=true then
  (ak sa.1 sa.2).bind fun xa2 =>
  (ak oF xa2).bind fun xa3 =>
  if (xa2 != n_)=true then
   (ak oG xa2).bind fun xa5 =>
   (ak oG n_).bind fun xa6 =>
   if (decide (xa5<xa6))=true then
    some (.inr (.inr xa2))
   else
    if (xa3.Hart==x1.Hart)=true then
     if (decide (xa3.At<x1.At))=true then
      some (.inr (.inr xa2))
     else
      some (.inl (sa.1,(aJ .i64 sa.2 1)))
    else
     some (.inl (sa.1,(aJ .i64 sa.2 1)))
  else
   some (.inl (sa.1,(aJ .i64 sa.2 1)))
 else
  some (.inr (.inl ()))
def ck (n:Nat) (n_:Int) (oA:(List Cell)) (oB:(List (List Event))) (oC:(List Int)) (oD:(List Int)) (oE:(List (Int×(List Int)))) (oF:(List Event)) (oG:(List Int)):Option Int :=
 (ak oF n_).bind fun x1 =>
 hJ (jn ey oE x1.Addr) (
  (iter (fun s=>bq n n_ oA oB oC oD oE oF oG x1 s) n (([]:List Int),(-1))).bind fun t3 =>
  match t3 with
  | .inl w4 =>
   some (-1)
  | .inr w4 =>
   some w4) fun z2 =>
  (iter (fun s=>bq n n_ oA oB oC oD oE oF oG x1 s) n (z2,(aJ .i64 (z2.length:Int) 1))).bind fun t4 =>
  match t4 with
  | .inl w5 =>
   some (-1)
  | .inr w5 =>
   some w5
def bw (n:Nat) (oA:(List Cell)) (oB:(List (List Event))) (oC:(List Int)) (oD:(List Int)) (oE:(List (Int×(List Int)))) (oF:(List Event)) (oG:(List Int)) (sa:Int):Option (Int⊕(Unit⊕(Bool×Int×Int×Int))) :=
 if (decide (sa<(oF.length:Int)))=true then
  (ak oF sa).bind fun xa2 =>
  (bi n xa2).bind fun ya3 =>
  if (!ya3)=true then
   some (.inl (ac .i64 sa 1))
  else
   (ck n sa oA oB oC oD oE oF oG).bind fun ya5 =>
   (ak oC sa).bind fun xa6 =>
   if (ya5 != xa6)=true then
    (eC n 3 sa ya5).bind fun ya8 =>
    some (.inr (.inr (ya8.OK,ya8.Why,ya8.A_,ya8.B)))
   else
    some (.inl (ac .i64 sa 1))
 else
  some (.inr (.inl ()))
def dA (n:Nat) (oA:(List Cell)) (oB:(List (List Event))) (oC:(List Int)) (oD:(List Int)) (oE:(List (Int×(List Int)))) (oF:(List Event)) (oG:(List Int)):Option (Bool×Int×Int×Int) :=
 (iter (fun s=>bw n oA oB oC oD oE oF oG s) n 0).bind fun t1 =>
 match t1 with
 | .inl w2 =>
  (jG n).bind fun y3 =>
  some (y3.OK,y3.Why,y3.A_,y3.B)
 | .inr w2 =>
  some (w2.1,w2.2.1,w2.2.2.1,w2.2.2.2)
def az (n:Nat) (oA:(List Cell)) (oB:(List (List Event))) (oC:(List Int)) (oD:(List Int)) (oE:(List (Int×(List Int)))) (oF:(List Event)) (oG:(List Int)) (xa2:Event) (sb:Int×Int×Int×Int×(List Int)×Int×Int):Option ((Int×Int×Int×Int×(List Int)×Int×Int)⊕(Int⊕(Bool×Int×Int×Int))) :=
 if (decide (sb.2.2.2.2.2.2<sb.2.2.2.2.2.1))=true then
  (ak sb.2.2.2.2.1 sb.2.2.2.2.2.2).bind fun xb2 =>
  (ak oG xb2).bind fun xb3 =>
  if (decide (xb3>sb.2.2.2.1))=true then
   (ak oG sb.2.1).bind fun xb5 =>
   if (decide (xb3<xb5))=true then
    (ak oF xb2).bind fun xb7 =>
    if (xb7.Hart != xa2.Hart)=true then
     (eC n 4 sb.2.2.1 xb2).bind fun yb9 =>
     some (.inr (.inr (yb9.OK,yb9.Why,yb9.A_,yb9.B)))
    else
     some (.inl (sb.1,sb.2.1,sb.2.2.1,sb.2.2.2.1,sb.2.2.2.2.1,sb.2.2.2.2.2.1,(ac .i64 sb.2.2.2.2.2.2 1)))
   else
    some (.inl (sb.1,sb.2.1,sb.2.2.1,sb.2.2.2.1,sb.2.2.2.2.1,sb.2.2.2.2.2.1,(ac .i64 sb.2.2.2.2.2.2 1)))
  else
   some (.inl (sb.1,sb.2.1,sb.2.2.1,sb.2.2.2.1,sb.2.2.2.2.1,sb.2.2.2.2.2.1,(ac .i64 sb.2.2.2.2.2.2 1)))
 else
  some (.inr (.inl sb.1))
def bF (n:Nat) (oA:(List Cell)) (oB:(List (List Event))) (oC:(List Int)) (oD:(List Int)) (oE:(List (Int×(List Int)))) (oF:(List Event)) (oG:(List Int)) (sa:Int):Option (Int⊕(Unit⊕(Bool×Int×Int×Int))) :=
 if (decide (sa<(oF.length:Int)))=true then
  (ak oF sa).bind fun xa2 =>
  if (xa2.Kind != 4)=true then
   some (.inl (ac .i64 sa 1))
  else
   (ak oC (ac .i64 (aJ .i64 sa xa2.At) xa2.Pair)).bind fun xa4 =>
   if (decide (xa4≥0))=true then
    (ak oG xa4).bind fun xa6 =>
    (ak oG sa).bind fun xa7 =>
    if (decide (xa6≥xa7))=true then
     (eC n 4 (ac .i64 (aJ .i64 sa xa2.At) xa2.Pair) xa4).bind fun ya9 =>
     some (.inr (.inr (ya9.OK,ya9.Why,ya9.A_,ya9.B)))
    else
     hJ (jn ey oE xa2.Addr) (
      (iter (fun s=>az n oA oB oC oD oE oF oG xa2 s) n (sa,sa,(ac .i64 (aJ .i64 sa xa2.At) xa2.Pair),xa6,([]:List Int),0,0)).bind fun ta10 =>
      match ta10 with
      | .inl wa11 =>
       some (.inl (ac .i64 wa11 1))
      | .inr wa11 =>
       some (.inr (.inr (wa11.1,wa11.2.1,wa11.2.2.1,wa11.2.2.2)))) fun za9 =>
      (iter (fun s=>az n oA oB oC oD oE oF oG xa2 s) n (sa,sa,(ac .i64 (aJ .i64 sa xa2.At) xa2.Pair),xa6,za9,(za9.length:Int),0)).bind fun ta11 =>
      match ta11 with
      | .inl wa12 =>
       some (.inl (ac .i64 wa12 1))
      | .inr wa12 =>
       some (.inr (.inr (wa12.1,wa12.2.1,wa12.2.2.1,wa12.2.2.2)))
   else
    hJ (jn ey oE xa2.Addr) (
     (iter (fun s=>az n oA oB oC oD oE oF oG xa2 s) n (sa,sa,(ac .i64 (aJ .i64 sa xa2.At) xa2.Pair),(-1),([]:List Int),0,0)).bind fun ta7 =>
     match ta7 with
     | .inl wa8 =>
      some (.inl (ac .i64 wa8 1))
     | .inr wa8 =>
      some (.inr (.inr (wa8.1,wa8.2.1,wa8.2.2.1,wa8.2.2.2)))) fun za6 =>
     (iter (fun s=>az n oA oB oC oD oE oF oG xa2 s) n (sa,sa,(ac .i64 (aJ .i64 sa xa2.At) xa2.Pair),(-1),za6,(za6.length:Int),0)).bind fun ta8 =>
     match ta8 with
     | .inl wa9 =>
      some (.inl (ac .i64 wa9 1))
     | .inr wa9 =>
      some (.inr (.inr (wa9.1,wa9.2.1,wa9.2.2.1,wa9.2.2.2)))
 else
  some (.inr (.inl ()))
def dX (n:Nat) (oA:(List Cell)) (oB:(List (List Event))) (oC:(List Int)) (oD:(List Int)) (oE:(List (Int×(List Int)))) (oF:(List Event)) (oG:(List Int)):Option (Bool×Int×Int×Int) :=
 (iter (fun s=>bF n oA oB oC oD oE oF oG s) n 0).bind fun t1 =>
 match t1 with
 | .inl w2 =>
  (jG n).bind fun y3 =>
  some (y3.OK,y3.Why,y3.A_,y3.B)
 | .inr w2 =>
  some (w2.1,w2.2.1,w2.2.2.1,w2.2.2.2)
def dJ (n:Nat) (c:af):Option aC :=
 (dU n c.First c.Harts c.From c.Order).bind fun y1 =>
 match y1 with
 | .inl wa2 =>
  (eC n 1 (-1) (-1)).bind fun y3 =>
  some y3
 | .inr wb2 =>
  (dz n c.First c.Harts c.From c.Order wb2.1 wb2.2.1 wb2.2.2).bind fun y3 =>
  if (!y3.1)=true then
   some (aC.mk y3.1 y3.2.1 y3.2.2.1 y3.2.2.2)
  else
   (dA n c.First c.Harts c.From c.Order wb2.1 wb2.2.1 wb2.2.2).bind fun y5 =>
   if (!y5.1)=true then
    some (aC.mk y5.1 y5.2.1 y5.2.2.1 y5.2.2.2)
   else
    (dX n c.First c.Harts c.From c.Order wb2.1 wb2.2.1 wb2.2.2).bind fun y7 =>
    if (!y7.1)=true then
     some (aC.mk y7.1 y7.2.1 y7.2.2.1 y7.2.2.2)
    else
     (jG n).bind fun y9 =>
     some y9
def wB:Nat→Nat→List UInt8
| 0,_=>[]
| k + 1,u=>if u<10 then [UInt8.ofNat (48 + u)] else wB k (u / 10)++[UInt8.ofNat (48 + u % 10)]
def qY (n:Int):List UInt8:=if n<0 then 45::wB 20 n.natAbs else wB 20 n.toNat
def wC (why:Int):List UInt8:=if why=1 then [102,111,114,109] else if why=2 then [111,114,100,101,114] else if why=3 then [118,97,108,117,101] else if why=4 then [112,97,105,114] else [111,116,104,101,114]
def wD (ok:Bool) (why a b:Int):List UInt8:=if ok=true then [111,107] else wC why++32::(qY a++32::qY b)
def IJ (a:Int):Bool:=decide (-9223372036854775808≤a)&&decide (a≤9223372036854775807)
def iw (n:Nat) (j:aC):Option ByteArray:=grd (IJ j.A_&&IJ j.B) (some ⟨(wD j.OK j.Why j.A_ j.B).toArray⟩)
def qz (n:Nat):Option Bool :=
 (pD n false).bind fun y1 =>
 (dJ n y1).bind fun y2 =>
 if (aC.beq y2 (aC.mk true 0 (-1) (-1)))=true then
  (pD n true).bind fun y4 =>
  (dJ n y4).bind fun y5 =>
  (iw n y5).bind fun y6 =>
  some (y6.toList==(ByteArray.mk #[111,114,100,101,114,32,48,32,50]).toList)
 else
  some false
def mQ (n:Nat) (d:Deps) (most:Int):Option Bool :=
 if (decide ((d.Addr.length:Int)≤most))=true then
  if (decide ((d.Data.length:Int)≤most))=true then
   some (decide ((d.Way.length:Int)≤most))
  else
   some false
 else
  some false
def fJ (n:Nat) (l:(List Event)) (sa:Int):Option (Int⊕(Unit⊕Unit)) :=
 if (decide (sa<(l.length:Int)))=true then
  (ak l sa).bind fun xa2 =>
  (mQ n xa2.Deps 60).bind fun ya3 =>
  if (!ya3)=true then
   some (.inr (.inr ()))
  else
   some (.inl (ac .i64 sa 1))
 else
  some (.inr (.inl ()))
def ip (n:Nat) (l:(List Event)) (most:Int):Option Bool :=
 if (decide ((l.length:Int)>most))=true then
  some false
 else
  (iter (fun s=>fJ n l s) n 0).bind fun t2 =>
  match t2 with
  | .inl w3 =>
   some true
  | .inr w3 =>
   some false
def gH (n:Nat) (c:af) (most:Int) (sa:Int×Int):Option ((Int×Int)⊕(Int⊕Unit)) :=
 if (decide (sa.2<(c.Harts.length:Int)))=true then
  if (decide (sa.2<10))=true then
   (ak c.Harts sa.2).bind fun xa3 =>
   (ip n xa3 most).bind fun ya4 =>
   if (!ya4)=true then
    some (.inr (.inr ()))
   else
    some (.inl ((ac .i64 sa.1 (xa3.length:Int)),(ac .i64 sa.2 1)))
  else
   some (.inr (.inl sa.1))
 else
  some (.inr (.inl sa.1))
def jW (n:Nat) (c:af) (most:Int):Option Bool :=
 (iter (fun s=>gH n c most s) n (0,0)).bind fun t1 =>
 match t1 with
 | .inl w2 =>
  if (decide ((c.Harts.length:Int)≤9))=true then
   if (decide (w2≤most))=true then
    if (decide ((c.First.length:Int)≤most))=true then
     if (decide ((c.From.length:Int)≤(iO .i64 2 most)))=true then
      some (decide ((c.Order.length:Int)≤(iO .i64 2 most)))
     else
      some false
    else
     some false
   else
    some false
  else
   some false
 | .inr w2 =>
  some false
def kO (n:Nat) (l:(List Cell)):Option (List Cell) :=
 grd (Nat.ble (l.length * 16) 140737488355328) <|
 some l
def ig (n:Nat) (l:(List Int)):Option Unit :=
 grd (Nat.ble (l.length * 8) 140737488355328) <|
 some ()
def gw (n:Nat) (l:(List Int)) (oA:(List Int)):Option Unit :=
 grd (Nat.ble (l.length * 8) 140737488355328) <|
 some ()
def lu (n:Nat) (l:(List Int)) (oA:(List Int)) (oB:(List Int)):Option Unit :=
 grd (Nat.ble (l.length * 8) 140737488355328) <|
 some ()
def ml (n:Nat) (d:Deps):Option Deps :=
 (ig n d.Addr).bind fun y1 =>
 (gw n d.Data d.Addr).bind fun y2 =>
 (lu n d.Way d.Addr d.Data).bind fun y3 =>
 some d
def kP (n:Nat) (e:Event):Option Event :=
 (ml n e.Deps).bind fun y1 =>
 some (Event.mk e.Hart e.At e.Kind e.Addr e.Load e.Store e.Aq e.Rl e.Pred e.Succ e.Pair y1)
def gI (n:Nat) (l:(List Event)) (sa:(List Event)×Int):Option (((List Event)×Int)⊕((List Event))) :=
 if (decide (sa.2<(l.length:Int)))=true then
  (ak l sa.2).bind fun xa2 =>
  (kP n xa2).bind fun ya3 =>
  grd (Nat.ble ((sa.1.length + 1) * 152) 140737488355328) <|
  some (.inl ((sa.1++([ya3]:List Event)),(ac .i64 sa.2 1)))
 else
  some (.inr sa.1)
def ge (n:Nat) (l:(List Event)):Option (List Event) :=
 (iter (fun s=>gI n l s) n (([]:List Event),0)).bind fun t1 =>
 some t1
def gJ (n:Nat) (c:af) (y1:(List Cell)) (sa:(List (List Event))×Int):Option (((List (List Event))×Int)⊕((List (List Event)))) :=
 if (decide (sa.2<(c.Harts.length:Int)))=true then
  (ak c.Harts sa.2).bind fun xa2 =>
  (ge n xa2).bind fun ya3 =>
  grd (Nat.ble ((sa.1.length + 1) * 24) 140737488355328) <|
  some (.inl ((sa.1++([ya3]:List (List Event))),(ac .i64 sa.2 1)))
 else
  some (.inr sa.1)
def jX (n:Nat) (c:af):Option ((List Cell)×(List Int)×(List Int)×(List (List Event))) :=
 (kO n c.First).bind fun y1 =>
 (ig n c.From).bind fun y2 =>
 (gw n c.Order c.From).bind fun y3 =>
 (iter (fun s=>gJ n c y1 s) n (([]:List (List Event)),0)).bind fun t4 =>
 some (y1,c.From,c.Order,t4)
def sE (n:Nat) (n_:Int) (m:Int):Option Int :=
 if (decide (m<1))=true then
  some 0
 else
  grd (decide (IntKind.i64=IntKind.i64)&&!(m==0)) <|
  if (decide ((cw .i64 n_ m)<0))=true then
   some (ac .i64 (cw .i64 n_ m) m)
  else
   some (cw .i64 n_ m)
def kQ (n:Nat) (l:(List Cell)) (sa:Int):Option (Int⊕(Unit⊕Unit)) :=
 if (decide (sa<(l.length:Int)))=true then
  (ak l sa).bind fun xa2 =>
  if ((cw .u64 xa2.Addr 8) != 0)=true then
   some (.inr (.inr ()))
  else
   if (decide (sa>0))=true then
    (ak l (aJ .i64 sa 1)).bind fun xa5 =>
    if (decide (xa5.Addr≥xa2.Addr))=true then
     some (.inr (.inr ()))
    else
     some (.inl (ac .i64 sa 1))
   else
    some (.inl (ac .i64 sa 1))
 else
  some (.inr (.inl ()))
def lg (n:Nat) (l:(List Cell)):Option Bool :=
 (iter (fun s=>kQ n l s) n 0).bind fun t1 =>
 match t1 with
 | .inl w2 =>
  some true
 | .inr w2 =>
  some false
def cL (n:Nat) (e:Event):Option Bool :=
 if (e.Kind==1)=true then
  some true
 else
  if (e.Kind==3)=true then
   some true
  else
   some (e.Kind==5)
def bK (n:Nat) (e:Event):Option Bool :=
 if (e.Kind==2)=true then
  some true
 else
  if (e.Kind==4)=true then
   some true
  else
   some (e.Kind==5)
def dY (n:Nat) (e:Event):Option Bool :=
 (cL n e).bind fun y1 =>
 if y1=true then
  some true
 else
  (bK n e).bind fun y3 =>
  some y3
def dK (n:Nat) (l:(List Int)) (sa:Int):Option (Int⊕(Unit⊕Unit)) :=
 if (decide (sa<(l.length:Int)))=true then
  (ak l sa).bind fun xa2 =>
  if (decide (xa2<0))=true then
   some (.inr (.inr ()))
  else
   if (decide (sa>0))=true then
    (ak l (aJ .i64 sa 1)).bind fun xa5 =>
    if (decide (xa5≥xa2))=true then
     some (.inr (.inr ()))
    else
     some (.inl (ac .i64 sa 1))
   else
    some (.inl (ac .i64 sa 1))
 else
  some (.inr (.inl ()))
def nN (n:Nat) (l:(List Int)):Option Bool :=
 (iter (fun s=>dK n l s) n 0).bind fun t1 =>
 match t1 with
 | .inl w2 =>
  some true
 | .inr w2 =>
  some false
def lh (n:Nat) (l:(List Int)) (at_:Int):Option Bool :=
 (nN n l).bind fun y1 =>
 if y1=true then
  if ((l.length:Int)==0)=true then
   some true
  else
   (ak l (aJ .i64 (l.length:Int) 1)).bind fun x4 =>
   some (decide (x4<at_))
 else
  some false
def ah (n:Nat) (sa:Bool):Option Int :=
 if (!sa)=true then
  some 2
 else
  some 0
def aM (n:Nat) (e:Event) (sd:Bool):Option Bool :=
 if sd=true then
  (lh n e.Deps.Addr e.At).bind fun yd2 =>
  if yd2=true then
   (lh n e.Deps.Data e.At).bind fun yd4 =>
   if yd4=true then
    (lh n e.Deps.Way e.At).bind fun yd6 =>
    if yd6=true then
     (bK n e).bind fun yd8 =>
     if yd8=true then
      some true
     else
      some ((e.Deps.Data.length:Int)==0)
    else
     some false
   else
    some false
  else
   some false
 else
  some false
def aZ (n:Nat) (e:Event) (sb:Bool):Option Bool :=
 if sb=true then
  if (e.Kind==4)=true then
   if (decide (e.Pair≥0))=true then
    if (decide (e.Pair<e.At))=true then
     (aM n e true).bind fun tb5 =>
     some tb5
    else
     if (e.Kind != 4)=true then
      (aM n e (e.Pair==0)).bind fun tb6 =>
      some tb6
     else
      (aM n e false).bind fun tb6 =>
      some tb6
   else
    if (e.Kind != 4)=true then
     (aM n e (e.Pair==0)).bind fun tb5 =>
     some tb5
    else
     (aM n e false).bind fun tb5 =>
     some tb5
  else
   if (e.Kind != 4)=true then
    (aM n e (e.Pair==0)).bind fun tb4 =>
    some tb4
   else
    (aM n e false).bind fun tb4 =>
    some tb4
 else
  (aM n e false).bind fun tb2 =>
  some tb2
def ar (n:Nat) (e:Event) (sa:Bool):Option Bool :=
 if sa=true then
  if (e.Kind != 1)=true then
   if (e.Kind != 2)=true then
    (aZ n e true).bind fun ta4 =>
    some ta4
   else
    if (!e.Aq)=true then
     (aZ n e (!e.Rl)).bind fun ta5 =>
     some ta5
    else
     (aZ n e false).bind fun ta5 =>
     some ta5
  else
   if (!e.Aq)=true then
    (aZ n e (!e.Rl)).bind fun ta4 =>
    some ta4
   else
    (aZ n e false).bind fun ta4 =>
    some ta4
 else
  (aZ n e false).bind fun ta2 =>
  some ta2
def fK (n:Nat) (e:Event):Option Int :=
 if (decide (e.Hart≥0))=true then
  if (decide (e.Hart<8))=true then
   if (e.Kind==6)=true then
    if (decide (e.At≥0))=true then
     if (e.Addr==0)=true then
      if (e.Load==0)=true then
       if (e.Store==0)=true then
        if (!e.Aq)=true then
         if (!e.Rl)=true then
          if (e.Pair==0)=true then
           if ((ac .i64 (ac .i64 (e.Deps.Addr.length:Int) (e.Deps.Data.length:Int)) (e.Deps.Way.length:Int))==0)=true then
            if (decide (e.Pred≥0))=true then
             if (decide (e.Pred≤15))=true then
              if (decide (e.Succ≥0))=true then
               (ah n (decide (e.Succ≤15))).bind fun t15 =>
               some t15
              else
               (ah n false).bind fun t15 =>
               some t15
             else
              (ah n false).bind fun t14 =>
              some t14
            else
             (ah n false).bind fun t13 =>
             some t13
           else
            (ah n false).bind fun t12 =>
            some t12
          else
           (ah n false).bind fun t11 =>
           some t11
         else
          (ah n false).bind fun t10 =>
          some t10
        else
         (ah n false).bind fun t9 =>
         some t9
       else
        (ah n false).bind fun t8 =>
        some t8
      else
       (ah n false).bind fun t7 =>
       some t7
     else
      (ah n false).bind fun t6 =>
      some t6
    else
     (ah n false).bind fun t5 =>
     some t5
   else
    if (decide (e.At≥0))=true then
     (dY n e).bind fun y5 =>
     if y5=true then
      if ((cw .u64 e.Addr 8)==0)=true then
       (cL n e).bind fun y8 =>
       if y8=true then
        (bK n e).bind fun y10 =>
        if y10=true then
         if (e.Pred==0)=true then
          (ar n e (e.Succ==0)).bind fun t13 =>
          (ah n t13).bind fun t14 =>
          some t14
         else
          (ar n e false).bind fun t13 =>
          (ah n t13).bind fun t14 =>
          some t14
        else
         if (e.Store==0)=true then
          if (e.Pred==0)=true then
           (ar n e (e.Succ==0)).bind fun t14 =>
           (ah n t14).bind fun t15 =>
           some t15
          else
           (ar n e false).bind fun t14 =>
           (ah n t14).bind fun t15 =>
           some t15
         else
          (ar n e false).bind fun t13 =>
          (ah n t13).bind fun t14 =>
          some t14
       else
        if (e.Load==0)=true then
         (bK n e).bind fun y11 =>
         if y11=true then
          if (e.Pred==0)=true then
           (ar n e (e.Succ==0)).bind fun t14 =>
           (ah n t14).bind fun t15 =>
           some t15
          else
           (ar n e false).bind fun t14 =>
           (ah n t14).bind fun t15 =>
           some t15
         else
          if (e.Store==0)=true then
           if (e.Pred==0)=true then
            (ar n e (e.Succ==0)).bind fun t15 =>
            (ah n t15).bind fun t16 =>
            some t16
           else
            (ar n e false).bind fun t15 =>
            (ah n t15).bind fun t16 =>
            some t16
          else
           (ar n e false).bind fun t14 =>
           (ah n t14).bind fun t15 =>
           some t15
        else
         (ar n e false).bind fun t11 =>
         (ah n t11).bind fun t12 =>
         some t12
      else
       (ar n e false).bind fun t8 =>
       (ah n t8).bind fun t9 =>
       some t9
     else
      (ar n e false).bind fun t7 =>
      (ah n t7).bind fun t8 =>
      some t8
    else
     (ar n e false).bind fun t5 =>
     (ah n t5).bind fun t6 =>
     some t6
  else
   if (e.Kind==6)=true then
    (ah n false).bind fun t4 =>
    some t4
   else
    (ar n e false).bind fun t4 =>
    (ah n t4).bind fun t5 =>
    some t5
 else
  if (e.Kind==6)=true then
   (ah n false).bind fun t3 =>
   some t3
  else
   (ar n e false).bind fun t3 =>
   (ah n t3).bind fun t4 =>
   some t4
def lv (n:Nat) (hart:Int) (l:(List Event)) (xa2:Event) (xa8:Event) (sb:Int×Bool×Int×Int):Option ((Int×Bool×Int×Int)⊕((Int×Bool×Int)⊕Unit)) :=
 if (decide (sb.2.2.2<sb.2.2.1))=true then
  (ak l sb.2.2.2).bind fun xb2 =>
  if (xb2.Kind==3)=true then
   some (.inr (.inr ()))
  else
   if (xb2.Kind==4)=true then
    some (.inr (.inr ()))
   else
    some (.inl (sb.1,sb.2.1,sb.2.2.1,(ac .i64 sb.2.2.2 1)))
 else
  some (.inr (.inl (sb.1,sb.2.1,sb.2.2.1)))
def lw (n:Nat) (hart:Int) (l:(List Event)) (sa:Int):Option (Int⊕(Unit⊕Unit)) :=
 if (decide (sa<(l.length:Int)))=true then
  (ak l sa).bind fun xa2 =>
  (fK n xa2).bind fun ya3 =>
  if (ya3 != 0)=true then
   some (.inr (.inr ()))
  else
   if (xa2.Hart != hart)=true then
    some (.inr (.inr ()))
   else
    if (xa2.At != sa)=true then
     some (.inr (.inr ()))
    else
     if (xa2.Kind != 4)=true then
      some (.inl (ac .i64 sa 1))
     else
      (ak l xa2.Pair).bind fun xa8 =>
      if (xa8.Kind != 3)=true then
       some (.inr (.inr ()))
      else
       if (xa8.Addr != xa2.Addr)=true then
        some (.inr (.inr ()))
       else
        (iter (fun s=>lv n hart l xa2 xa8 s) n (sa,(xa2.At != sa),sa,(ac .i64 xa2.Pair 1))).bind fun ta11 =>
        match ta11 with
        | .inl wa12 =>
         some (.inl (ac .i64 wa12.2.2 1))
        | .inr wa12 =>
         some (.inr (.inr ()))
 else
  some (.inr (.inl ()))
def nO (n:Nat) (hart:Int) (l:(List Event)):Option Int :=
 (iter (fun s=>lw n hart l s) n 0).bind fun t1 =>
 match t1 with
 | .inl w2 =>
  some 0
 | .inr w2 =>
  some 4
def sF (n:Nat) (d:Deps):Option Deps :=
 grd (Nat.ble (d.Addr.length * 8) 140737488355328) <|
 grd (Nat.ble (d.Data.length * 8) 140737488355328) <|
 grd (Nat.ble (d.Way.length * 8) 140737488355328) <|
 some d
def mm (n:Nat) (c:af) (sb:(List Event)×Int×Int):Option (((List Event)×Int×Int)⊕((List Event)×Int)) :=
 (ak c.Harts sb.2.1).bind fun xb1 =>
 if (decide (sb.2.2<(xb1.length:Int)))=true then
  (ak xb1 sb.2.2).bind fun xb3 =>
  (sF n xb3.Deps).bind fun yb4 =>
  grd (Nat.ble ((sb.1.length + 1) * 152) 140737488355328) <|
  some (.inl ((sb.1++([(Event.mk xb3.Hart xb3.At xb3.Kind xb3.Addr xb3.Load xb3.Store xb3.Aq xb3.Rl xb3.Pred xb3.Succ xb3.Pair yb4)]:List Event)),sb.2.1,(ac .i64 sb.2.2 1)))
 else
  some (.inr (sb.1,sb.2.1))
def mn (n:Nat) (c:af) (sa:(List Event)×Int):Option (((List Event)×Int)⊕((List Event))) :=
 if (decide (sa.2<(c.Harts.length:Int)))=true then
  (iter (fun s=>mm n c s) n (sa.1,sa.2,0)).bind fun ta2 =>
  some (.inl (ta2.1,(ac .i64 ta2.2 1)))
 else
  some (.inr sa.1)
def ly (n:Nat) (c:af):Option (List Event) :=
 (iter (fun s=>mn n c s) n (([]:List Event),0)).bind fun t1 =>
 some t1
def kR (n:Nat) (l:(List Cell)) (addr:Int) (sa:Int):Option (Int⊕(Unit⊕Int)) :=
 if (decide (sa<(l.length:Int)))=true then
  (ak l sa).bind fun xa2 =>
  if (xa2.Addr==addr)=true then
   some (.inr (.inr xa2.Value))
  else
   some (.inl (ac .i64 sa 1))
 else
  some (.inr (.inl ()))
def na (n:Nat) (l:(List Cell)) (addr:Int):Option Int :=
 (iter (fun s=>kR n l addr s) n 0).bind fun t1 =>
 match t1 with
 | .inl w2 =>
  some 0
 | .inr w2 =>
  some w2
def cJ (n:Nat) (c:af) (all:(List Event)) (n_:Int):Option Bool :=
 (ak all n_).bind fun x1 =>
 (ak c.From n_).bind fun x2 =>
 (cL n x1).bind fun y3 =>
 if (!y3)=true then
  some (x2==(-1))
 else
  if (x2==(-1))=true then
   (na n c.First x1.Addr).bind fun y6 =>
   some (x1.Load==y6)
  else
   if (decide (x2<0))=true then
    some false
   else
    if (decide (x2≥(all.length:Int)))=true then
     some false
    else
     if (x2==n_)=true then
      some false
     else
      (ak all x2).bind fun x9 =>
      (bK n x9).bind fun y10 =>
      if y10=true then
       if (x9.Addr==x1.Addr)=true then
        some (x9.Store==x1.Load)
       else
        some false
      else
       some false
def iS (n:Nat) (c:af) (sa:Int×Int):Option ((Int×Int)⊕(Int⊕Unit)) :=
 if (decide (sa.2<(c.Harts.length:Int)))=true then
  (ak c.Harts sa.2).bind fun xa2 =>
  if (decide ((ac .i64 sa.1 (xa2.length:Int))>4096))=true then
   some (.inr (.inr ()))
  else
   (nO n sa.2 xa2).bind fun ya4 =>
   if (ya4 != 0)=true then
    some (.inr (.inr ()))
   else
    some (.inl ((ac .i64 sa.1 (xa2.length:Int)),(ac .i64 sa.2 1)))
 else
  some (.inr (.inl sa.1))
def iT (n:Nat) (c:af) (w6:Int) (y7:(List Event)) (sa:Int×Int):Option ((Int×Int)⊕(Int⊕Unit)) :=
 if (decide (sa.2<w6))=true then
  (cJ n c y7 sa.2).bind fun ya2 =>
  if (!ya2)=true then
   some (.inr (.inr ()))
  else
   (ak y7 sa.2).bind fun xa4 =>
   (dY n xa4).bind fun ya5 =>
   if ya5=true then
    some (.inl ((ac .i64 sa.1 1),(ac .i64 sa.2 1)))
   else
    some (.inl (sa.1,(ac .i64 sa.2 1)))
 else
  some (.inr (.inl sa.1))
def iU (n:Nat) (c:af) (w6:Int) (y7:(List Event)) (w10:Int) (sa:(List Bool)×Int):Option (((List Bool)×Int)⊕(Unit⊕Unit)) :=
 if (decide (sa.2<(c.Order.length:Int)))=true then
  (ak c.Order sa.2).bind fun xa2 =>
  if (decide (xa2<0))=true then
   some (.inr (.inr ()))
  else
   if (decide (xa2≥w6))=true then
    some (.inr (.inr ()))
   else
    (ak sa.1 xa2).bind fun xa5 =>
    if xa5=true then
     some (.inr (.inr ()))
    else
     (ak y7 xa2).bind fun xa7 =>
     (dY n xa7).bind fun ya8 =>
     if (!ya8)=true then
      some (.inr (.inr ()))
     else
      some (.inl ((sa.1.set (xa2).toNat true),(ac .i64 sa.2 1)))
 else
  some (.inr (.inl ()))
def eE (n:Nat) (c:af):Option Int :=
 (lg n c.First).bind fun y1 =>
 if (!y1)=true then
  some 2
 else
  if (decide ((c.Harts.length:Int)<1))=true then
   some 2
  else
   if (decide ((c.Harts.length:Int)>8))=true then
    some 2
   else
    (iter (fun s=>iS n c s) n (0,0)).bind fun t5 =>
    match t5 with
    | .inl w6 =>
     (ly n c).bind fun y7 =>
     if ((c.From.length:Int) != w6)=true then
      some 2
     else
      (iter (fun s=>iT n c w6 y7 s) n (0,0)).bind fun t9 =>
      match t9 with
      | .inl w10 =>
       grd (decide ((0:Int)≤w6)&&decide (w6≤w6)&&decide (1 * w6≤140737488355328)&&decide (w6≤140737488355328)&&Nat.blt 0 1) <|
       (iter (fun s=>iU n c w6 y7 w10 s) n ((List.replicate (w6).toNat false),0)).bind fun t12 =>
       match t12 with
       | .inl w13 =>
        if ((c.Order.length:Int) != w10)=true then
         some 2
        else
         some 0
       | .inr w13 =>
        some 2
      | .inr w10 =>
       some 2
    | .inr w6 =>
     some 2
def sG (n:Nat) (c:af):Option (List Event) :=
 (eE n c).bind fun y1 =>
 if (y1 != 0)=true then
  some ([]:List Event)
 else
  (ly n c).bind fun y3 =>
  some y3
def mR (n:Nat) (c:af):Option (ab×Bool) :=
 (sG n c).bind fun y1 =>
 (eE n c).bind fun y2 =>
 some ((ab.mk c y1),(y2==0))
def qA (n:Nat) (why:Int) (a:Int) (b:Int):Option aC :=
 some (aC.mk false why a b)
def jY (n:Nat) (c:af) (sa:(List Int)×Int):Option (((List Int)×Int)⊕((List Int))) :=
 if (decide (sa.2<(sa.1.length:Int)))=true then
  (ak sa.1 sa.2).bind fun xa2 =>
  some (.inl ((sa.1.set (sa.2).toNat (-1)),(ac .i64 sa.2 1)))
 else
  some (.inr sa.1)
def jZ (n:Nat) (c:af) (sa:(List Int)×Int):Option (((List Int)×Int)⊕((List Int))) :=
 if (decide (sa.2<(c.Order.length:Int)))=true then
  (ak c.Order sa.2).bind fun xa2 =>
  (ak sa.1 xa2).bind fun xa3 =>
  some (.inl ((sa.1.set (xa2).toNat sa.2),(ac .i64 sa.2 1)))
 else
  some (.inr sa.1)
def jH (n:Nat) (c:af):Option (List Int) :=
 (eE n c).bind fun y1 =>
 if (y1 != 0)=true then
  some ([]:List Int)
 else
  grd (decide ((0:Int)≤(c.From.length:Int))&&decide ((c.From.length:Int)≤(c.From.length:Int))&&decide (8 * (c.From.length:Int)≤140737488355328)&&decide ((c.From.length:Int)≤140737488355328)&&Nat.blt 0 1) <|
  (iter (fun s=>jY n c s) n ((List.replicate ((c.From.length:Int)).toNat 0),0)).bind fun t4 =>
  (iter (fun s=>jZ n c s) n (t4,0)).bind fun t5 =>
  some t5
def bX (n:Nat) (v:ab) (a:Int) (b:Int):Option Bool :=
 if (decide (a<0))=true then
  some false
 else
  if (decide (b<0))=true then
   some false
  else
   if (decide (a≥(v.All.length:Int)))=true then
    some false
   else
    if (decide (b≥(v.All.length:Int)))=true then
     some false
    else
     (ak v.All a).bind fun x5 =>
     (ak v.All b).bind fun x6 =>
     if (x5.Hart==x6.Hart)=true then
      if (decide (x5.At<x6.At))=true then
       (dY n x5).bind fun y9 =>
       if y9=true then
        (dY n x6).bind fun y11 =>
        some y11
       else
        some false
      else
       some false
     else
      some false
def pF (n:Nat) (part:Int) (e:Event):Option Bool :=
 if ((cw .i64 (fG .i64 part 2) 2)==1)=true then
  (cL n e).bind fun y2 =>
  if y2=true then
   some true
  else
   if ((cw .i64 (fG .i64 part 1) 2)==1)=true then
    (bK n e).bind fun y5 =>
    some y5
   else
    some false
 else
  if ((cw .i64 (fG .i64 part 1) 2)==1)=true then
   (bK n e).bind fun y3 =>
   some y3
  else
   some false
def qB (n:Nat) (l:(List Int)) (n_:Int) (sa:Int):Option (Int⊕(Unit⊕Unit)) :=
 if (decide (sa<(l.length:Int)))=true then
  (ak l sa).bind fun xa2 =>
  if (xa2==n_)=true then
   some (.inr (.inr ()))
  else
   some (.inl (ac .i64 sa 1))
 else
  some (.inr (.inl ()))
def nP (n:Nat) (l:(List Int)) (n_:Int):Option Bool :=
 (iter (fun s=>qB n l n_ s) n 0).bind fun t1 =>
 match t1 with
 | .inl w2 =>
  some false
 | .inr w2 =>
  some true
def eP (n:Nat) (v:ab) (a:Int) (b:Int) (x3:Event) (x4:Event) (sa:Int):Option (Int⊕(Unit⊕Unit)) :=
 if (decide (sa<b))=true then
  (ak v.All sa).bind fun xa2 =>
  (bK n xa2).bind fun ya3 =>
  if ya3=true then
   if (xa2.Addr==x3.Addr)=true then
    some (.inr (.inr ()))
   else
    some (.inl (ac .i64 sa 1))
  else
   some (.inl (ac .i64 sa 1))
 else
  some (.inr (.inl ()))
def eQ (n:Nat) (v:ab) (b:Int) (x3:Event) (x4:Event) (sa:Int):Option (Int⊕(Unit⊕Unit)) :=
 if (decide (sa<b))=true then
  (ak v.All sa).bind fun xa2 =>
  if (xa2.Kind==6)=true then
   (pF n xa2.Pred x3).bind fun ya4 =>
   if ya4=true then
    (pF n xa2.Succ x4).bind fun ya6 =>
    if ya6=true then
     some (.inr (.inr ()))
    else
     some (.inl (ac .i64 sa 1))
   else
    some (.inl (ac .i64 sa 1))
  else
   some (.inl (ac .i64 sa 1))
 else
  some (.inr (.inl ()))
def eR (n:Nat) (v:ab) (b:Int) (x3:Event) (x4:Event) (sa:Int):Option (Int⊕(Unit⊕Unit)) :=
 if (decide (sa<b))=true then
  (ak v.All sa).bind fun xa2 =>
  (cL n x4).bind fun ya3 =>
  if ya3=true then
   (ak v.C_.From b).bind fun xa5 =>
   if (xa5==sa)=true then
    (bK n xa2).bind fun ya7 =>
    if ya7=true then
     (nP n xa2.Deps.Addr x3.At).bind fun ya9 =>
     if ya9=true then
      some (.inr (.inr ()))
     else
      (nP n xa2.Deps.Data x3.At).bind fun ya11 =>
      if ya11=true then
       some (.inr (.inr ()))
      else
       some (.inl (ac .i64 sa 1))
    else
     some (.inl (ac .i64 sa 1))
   else
    some (.inl (ac .i64 sa 1))
  else
   some (.inl (ac .i64 sa 1))
 else
  some (.inr (.inl ()))
def eT (n:Nat) (v:ab) (b:Int) (x3:Event) (x4:Event) (sa:Int):Option (Int⊕(Unit⊕Unit)) :=
 if (decide (sa<b))=true then
  (ak v.All sa).bind fun xa2 =>
  (bK n x4).bind fun ya3 =>
  if ya3=true then
   (dY n xa2).bind fun ya5 =>
   if ya5=true then
    (nP n xa2.Deps.Addr x3.At).bind fun ya7 =>
    if ya7=true then
     some (.inr (.inr ()))
    else
     some (.inl (ac .i64 sa 1))
   else
    some (.inl (ac .i64 sa 1))
  else
   some (.inl (ac .i64 sa 1))
 else
  some (.inr (.inl ()))
def cZ (n:Nat) (v:ab) (a:Int) (b:Int) (rule:Int):Option Bool :=
 (bX n v a b).bind fun y1 =>
 if (!y1)=true then
  some false
 else
  (ak v.All a).bind fun x3 =>
  (ak v.All b).bind fun x4 =>
  if (rule==1)=true then
   (bK n x4).bind fun y6 =>
   if y6=true then
    some (x3.Addr==x4.Addr)
   else
    some false
  else
   if (rule==2)=true then
    (iter (fun s=>eP n v a b x3 x4 s) n (ac .i64 a 1)).bind fun t7 =>
    match t7 with
    | .inl w8 =>
     (cL n x3).bind fun y9 =>
     if y9=true then
      (cL n x4).bind fun y11 =>
      if y11=true then
       if (x3.Addr==x4.Addr)=true then
        (ak v.C_.From a).bind fun x14 =>
        (ak v.C_.From b).bind fun x15 =>
        some (x14 != x15)
       else
        some false
      else
       some false
     else
      some false
    | .inr w8 =>
     some false
   else
    if (rule==3)=true then
     if (x3.Kind==4)=true then
      (cL n x4).bind fun y9 =>
      if y9=true then
       (ak v.C_.From b).bind fun x11 =>
       some (x11==a)
      else
       some false
     else
      if (x3.Kind==5)=true then
       (cL n x4).bind fun y10 =>
       if y10=true then
        (ak v.C_.From b).bind fun x12 =>
        some (x12==a)
       else
        some false
      else
       some false
    else
     if (rule==4)=true then
      (iter (fun s=>eQ n v b x3 x4 s) n (ac .i64 a 1)).bind fun t9 =>
      match t9 with
      | .inl w10 =>
       some false
      | .inr w10 =>
       some true
     else
      if (rule==5)=true then
       some x3.Aq
      else
       if (rule==6)=true then
        some x4.Rl
       else
        if (rule==7)=true then
         if x3.Aq=true then
          if x4.Aq=true then
           some true
          else
           some x4.Rl
         else
          if x3.Rl=true then
           if x4.Aq=true then
            some true
           else
            some x4.Rl
          else
           some false
        else
         if (rule==8)=true then
          if (x4.Kind==4)=true then
           some (x4.Pair==x3.At)
          else
           some false
         else
          if (rule==9)=true then
           (nP n x4.Deps.Addr x3.At).bind fun y14 =>
           some y14
          else
           if (rule==10)=true then
            (nP n x4.Deps.Data x3.At).bind fun y15 =>
            some y15
           else
            if (rule==11)=true then
             (bK n x4).bind fun y16 =>
             if y16=true then
              (nP n x4.Deps.Way x3.At).bind fun y18 =>
              some y18
             else
              some false
            else
             if (rule==12)=true then
              (iter (fun s=>eR n v b x3 x4 s) n (ac .i64 a 1)).bind fun t17 =>
              match t17 with
              | .inl w18 =>
               some false
              | .inr w18 =>
               some true
             else
              if (rule==13)=true then
               (iter (fun s=>eT n v b x3 x4 s) n (ac .i64 a 1)).bind fun t18 =>
               match t18 with
               | .inl w19 =>
                some false
               | .inr w19 =>
                some true
              else
               some false
def fp (n:Nat) (v:ab) (a:Int) (b:Int) (sa:Int):Option (Int⊕(Unit⊕Int)) :=
 if (decide (sa≤13))=true then
  (cZ n v a b sa).bind fun ya2 =>
  if ya2=true then
   some (.inr (.inr sa))
  else
   some (.inl (ac .i64 sa 1))
 else
  some (.inr (.inl ()))
def dL (n:Nat) (v:ab) (a:Int) (b:Int):Option Int :=
 (iter (fun s=>fp n v a b s) n 1).bind fun t1 =>
 match t1 with
 | .inl w2 =>
  some 0
 | .inr w2 =>
  some w2
def kS (n:Nat) (y1:ab×Bool) (sb:(List (bJ Int))×Int×Int):Option (((List (bJ Int))×Int×Int)⊕((List (bJ Int))×Int)) :=
 if (decide (sb.2.2<(y1.1.All.length:Int)))=true then
  (ak y1.1.All sb.2.2).bind fun xb2 =>
  (ak y1.1.All sb.2.1).bind fun xb3 =>
  if (xb2.Hart==xb3.Hart)=true then
   (dL n y1.1 sb.2.1 sb.2.2).bind fun yb5 =>
   if (decide (yb5>0))=true then
    grd (Nat.ble ((sb.1.length + 1) * 16) 140737488355328) <|
    some (.inl ((sb.1++([(bJ.mk sb.2.1 sb.2.2)]:List (bJ Int))),sb.2.1,(ac .i64 sb.2.2 1)))
   else
    some (.inl (sb.1,sb.2.1,(ac .i64 sb.2.2 1)))
  else
   some (.inr (sb.1,sb.2.1))
 else
  some (.inr (sb.1,sb.2.1))
def iV (n:Nat) (y1:ab×Bool) (sa:(List (bJ Int))×Int):Option (((List (bJ Int))×Int)⊕((List (bJ Int)))) :=
 if (decide (sa.2<(y1.1.All.length:Int)))=true then
  if y1.2=true then
   (iter (fun s=>kS n y1 s) n (sa.1,sa.2,(ac .i64 sa.2 1))).bind fun ta3 =>
   some (.inl (ta3.1,(ac .i64 ta3.2 1)))
  else
   some (.inr sa.1)
 else
  some (.inr sa.1)
def qC (n:Nat) (c:af):Option (List (bJ Int)) :=
 (mR n c).bind fun y1 =>
 (iter (fun s=>iV n y1 s) n (([]:List (bJ Int)),0)).bind fun t2 =>
 some t2
def j0 (n:Nat) (v:ab) (places:(List Int)) (n_:Int) (x1:Event) (sa:Int×Int):Option ((Int×Int)⊕Int) :=
 if (decide (sa.2<(v.All.length:Int)))=true then
  (ak v.All sa.2).bind fun xa2 =>
  if (sa.2==n_)=true then
   some (.inl (sa.1,(ac .i64 sa.2 1)))
  else
   (bK n xa2).bind fun ya4 =>
   if (!ya4)=true then
    some (.inl (sa.1,(ac .i64 sa.2 1)))
   else
    if (xa2.Addr != x1.Addr)=true then
     some (.inl (sa.1,(ac .i64 sa.2 1)))
    else
     if (xa2.Hart==x1.Hart)=true then
      if (decide (xa2.At<x1.At))=true then
       if (decide (sa.1<0))=true then
        some (.inl (sa.2,(ac .i64 sa.2 1)))
       else
        (ak places sa.1).bind fun xa10 =>
        (ak places sa.2).bind fun xa11 =>
        if (decide (xa10<xa11))=true then
         some (.inl (sa.2,(ac .i64 sa.2 1)))
        else
         some (.inl (sa.1,(ac .i64 sa.2 1)))
      else
       (ak places sa.2).bind fun xa9 =>
       (ak places n_).bind fun xa10 =>
       if (decide (xa9<xa10))=true then
        if (decide (sa.1<0))=true then
         some (.inl (sa.2,(ac .i64 sa.2 1)))
        else
         (ak places sa.1).bind fun xa13 =>
         if (decide (xa13<xa9))=true then
          some (.inl (sa.2,(ac .i64 sa.2 1)))
         else
          some (.inl (sa.1,(ac .i64 sa.2 1)))
       else
        some (.inl (sa.1,(ac .i64 sa.2 1)))
     else
      (ak places sa.2).bind fun xa8 =>
      (ak places n_).bind fun xa9 =>
      if (decide (xa8<xa9))=true then
       if (decide (sa.1<0))=true then
        some (.inl (sa.2,(ac .i64 sa.2 1)))
       else
        (ak places sa.1).bind fun xa12 =>
        if (decide (xa12<xa8))=true then
         some (.inl (sa.2,(ac .i64 sa.2 1)))
        else
         some (.inl (sa.1,(ac .i64 sa.2 1)))
      else
       some (.inl (sa.1,(ac .i64 sa.2 1)))
 else
  some (.inr sa.1)
def jI (n:Nat) (v:ab) (places:(List Int)) (n_:Int):Option Int :=
 (ak v.All n_).bind fun x1 =>
 (iter (fun s=>j0 n v places n_ x1 s) n ((-1),0)).bind fun t2 =>
 some t2
def c_ (n:Nat) (v:ab) (places:(List Int)) (n_:Int) (x1:Event) (sa:Int):Option (Int⊕(Unit⊕Int)) :=
 (ak places n_).bind fun xa1 =>
 if (decide (sa<xa1))=true then
  (ak v.C_.Order sa).bind fun xa3 =>
  (ak v.All xa3).bind fun xa4 =>
  if (xa4.Hart != x1.Hart)=true then
   (bK n xa4).bind fun ya6 =>
   if ya6=true then
    if (xa4.Addr==x1.Addr)=true then
     some (.inr (.inr xa3))
    else
     some (.inl (ac .i64 sa 1))
   else
    some (.inl (ac .i64 sa 1))
  else
   some (.inl (ac .i64 sa 1))
 else
  some (.inr (.inl ()))
def sH (n:Nat) (v:ab) (places:(List Int)) (n_:Int):Option (Int×Int) :=
 (ak v.All n_).bind fun x1 =>
 (ak v.C_.From (aJ .i64 n_ (aJ .i64 x1.At x1.Pair))).bind fun x2 =>
 if (decide (x2≥0))=true then
  (ak places x2).bind fun x4 =>
  (ak places n_).bind fun x5 =>
  if (decide (x4≥x5))=true then
   some ((aJ .i64 n_ (aJ .i64 x1.At x1.Pair)),x2)
  else
   (iter (fun s=>c_ n v places n_ x1 s) n (ac .i64 x4 1)).bind fun t7 =>
   match t7 with
   | .inl w8 =>
    some ((aJ .i64 n_ (aJ .i64 x1.At x1.Pair)),(-1))
   | .inr w8 =>
    some ((aJ .i64 n_ (aJ .i64 x1.At x1.Pair)),w8)
 else
  (iter (fun s=>c_ n v places n_ x1 s) n 0).bind fun t4 =>
  match t4 with
  | .inl w5 =>
   some ((aJ .i64 n_ (aJ .i64 x1.At x1.Pair)),(-1))
  | .inr w5 =>
   some ((aJ .i64 n_ (aJ .i64 x1.At x1.Pair)),w5)
def eU (n:Nat) (c:af) (y1:ab×Bool) (y3:(List Int)) (y4:(List (bJ Int))) (sa:Int):Option (Int⊕(Unit⊕(Bool×Int×Int×Int))) :=
 if (decide (sa<(y4.length:Int)))=true then
  (ak y4 sa).bind fun xa2 =>
  (ak y3 xa2.e0).bind fun xa3 =>
  (ak y3 xa2.e1).bind fun xa4 =>
  if (decide (xa3>xa4))=true then
   (qA n 2 xa2.e0 xa2.e1).bind fun ya6 =>
   some (.inr (.inr (ya6.OK,ya6.Why,ya6.A_,ya6.B)))
  else
   some (.inl (ac .i64 sa 1))
 else
  some (.inr (.inl ()))
def dD (n:Nat) (c:af) (y1:ab×Bool) (y3:(List Int)) (sa:Int):Option (Int⊕(Unit⊕(Bool×Int×Int×Int))) :=
 if (decide (sa<(y1.1.All.length:Int)))=true then
  (ak y1.1.All sa).bind fun xa2 =>
  (cL n xa2).bind fun ya3 =>
  if (!ya3)=true then
   some (.inl (ac .i64 sa 1))
  else
   (jI n y1.1 y3 sa).bind fun ya5 =>
   (ak c.From sa).bind fun xa6 =>
   if (ya5 != xa6)=true then
    (qA n 3 sa ya5).bind fun ya8 =>
    some (.inr (.inr (ya8.OK,ya8.Why,ya8.A_,ya8.B)))
   else
    some (.inl (ac .i64 sa 1))
 else
  some (.inr (.inl ()))
def dE (n:Nat) (y1:ab×Bool) (y3:(List Int)) (sa:Int):Option (Int⊕(Unit⊕(Bool×Int×Int×Int))) :=
 if (decide (sa<(y1.1.All.length:Int)))=true then
  (ak y1.1.All sa).bind fun xa2 =>
  if (xa2.Kind != 4)=true then
   some (.inl (ac .i64 sa 1))
  else
   (sH n y1.1 y3 sa).bind fun ya4 =>
   if (decide (ya4.2≥0))=true then
    (qA n 4 ya4.1 ya4.2).bind fun ya6 =>
    some (.inr (.inr (ya6.OK,ya6.Why,ya6.A_,ya6.B)))
   else
    some (.inl (ac .i64 sa 1))
 else
  some (.inr (.inl ()))
def nd (n:Nat) (c:af):Option aC :=
 (mR n c).bind fun y1 =>
 if (!y1.2)=true then
  (qA n 1 (-1) (-1)).bind fun y3 =>
  some y3
 else
  (jH n c).bind fun y3 =>
  (qC n c).bind fun y4 =>
  (iter (fun s=>eU n c y1 y3 y4 s) n 0).bind fun t5 =>
  match t5 with
  | .inl w6 =>
   (iter (fun s=>dD n c y1 y3 s) n 0).bind fun t7 =>
   match t7 with
   | .inl w8 =>
    (iter (fun s=>dE n y1 y3 s) n 0).bind fun t9 =>
    match t9 with
    | .inl w10 =>
     some (aC.mk true 0 (-1) (-1))
    | .inr w10 =>
     some (aC.mk w10.1 w10.2.1 w10.2.2.1 w10.2.2.2)
   | .inr w8 =>
    some (aC.mk w8.1 w8.2.1 w8.2.2.1 w8.2.2.2)
  | .inr w6 =>
   some (aC.mk w6.1 w6.2.1 w6.2.2.1 w6.2.2.2)
def wE (n:Nat) (c:af):Option Bool :=
 (dJ n c).bind fun y1 =>
 some y1.OK
def DF (n:Nat) (c:af):Option Bool :=
 (nd n c).bind fun y1 =>
 some y1.OK
def bY (n:Nat) (n_:Int) (oA:(List Cell)) (oB:(List (List Event))) (oC:(List Int)) (oD:(List Int)) (oE:(List (Int×(List Int)))) (oF:(List Event)) (oG:(List Int)) (x1:Event) (sa:(List Int)×Int):Option (((List Int)×Int)⊕(Unit⊕Int)) :=
 if (decide (sa.2≥0))=true then
  (ak sa.1 sa.2).bind fun xa2 =>
  (ak oF xa2).bind fun xa3 =>
  if (xa2 != n_)=true then
   (ak oG xa2).bind fun xa5 =>
   (ak oG n_).bind fun xa6 =>
   if (decide (xa5<xa6))=true then
    some (.inr (.inr xa2))
   else
    if (xa3.Hart==x1.Hart)=true then
     if (decide (xa3.At<x1.At))=true then
      some (.inr (.inr xa2))
     else
      some (.inl (sa.1,(aJ .i64 sa.2 1)))
    else
     some (.inl (sa.1,(aJ .i64 sa.2 1)))
  else
   some (.inl (sa.1,(aJ .i64 sa.2 1)))
 else
  some (.inr (.inl ()))
def gm (n:Nat) (n_:Int) (oA:(List Cell)) (oB:(List (List Event))) (oC:(List Int)) (oD:(List Int)) (oE:(List (Int×(List Int)))) (oF:(List Event)) (oG:(List Int)):Option Int :=
 (ak oF n_).bind fun x1 =>
 hJ (jn ey oE x1.Addr) (
  (iter (fun s=>bY n n_ oA oB oC oD oE oF oG x1 s) n (([]:List Int),(-1))).bind fun t3 =>
  match t3 with
  | .inl w4 =>
   some (-1)
  | .inr w4 =>
   some w4) fun z2 =>
  (iter (fun s=>bY n n_ oA oB oC oD oE oF oG x1 s) n (z2,(aJ .i64 (z2.length:Int) 1))).bind fun t4 =>
  match t4 with
  | .inl w5 =>
   some (-1)
  | .inr w5 =>
   some w5
def iW (n:Nat) (c:af) (n_:Int):Option Int :=
 (dU n c.First c.Harts c.From c.Order).bind fun y1 =>
 match y1 with
 | .inl wa2 =>
  some (-1)
 | .inr wb2 =>
  if (decide (n_<0))=true then
   some (-1)
  else
   if (decide (n_≥(wb2.2.1.length:Int)))=true then
    some (-1)
   else
    (ak wb2.2.1 n_).bind fun x5 =>
    (bi n x5).bind fun y6 =>
    if (!y6)=true then
     some (-1)
    else
     (gm n n_ c.First c.Harts c.From c.Order wb2.1 wb2.2.1 wb2.2.2).bind fun y8 =>
     some y8
def lz (n:Nat) (c:af) (n_:Int):Option Int :=
 (mR n c).bind fun y1 =>
 if (!y1.2)=true then
  some (-1)
 else
  if (decide (n_<0))=true then
   some (-1)
  else
   if (decide (n_≥(y1.1.All.length:Int)))=true then
    some (-1)
   else
    (ak y1.1.All n_).bind fun x5 =>
    (cL n x5).bind fun y6 =>
    if (!y6)=true then
     some (-1)
    else
     (jH n c).bind fun y8 =>
     (jI n y1.1 y8 n_).bind fun y9 =>
     some y9
def gf:Nat→Int→Option ByteArray
| 0,_=>none
| n + 1,n_ =>
 if (decide (n_>9))=true then
  (gf n (fG .u64 n_ 10)).bind fun y2 =>
  (gf n (cw .u64 n_ 10)).bind fun y3 =>
  grd (decide (((y2.size + y3.size:Nat):Int)≤9223372036854775807)) <|
  some (y2++y3)
 else
  grd (decide ((0:Int)≤n_)&&decide (n_≤(ac .u64 n_ 1))&&decide ((ac .u64 n_ 1)≤((ByteArray.mk #[48,49,50,51,52,53,54,55,56,57]).size:Int))) <|
  some ((ByteArray.mk #[48,49,50,51,52,53,54,55,56,57]).extract (n_).toNat ((ac .u64 n_ 1)).toNat)
def dZ (n:Nat) (n_:Int):Option ByteArray :=
 if (decide (n_<0))=true then
  (gf n (IntKind.wrap .u64 (aJ .i64 0 n_))).bind fun y2 =>
  grd (decide ((((ByteArray.mk #[45]).size + y2.size:Nat):Int)≤9223372036854775807)) <|
  some ((ByteArray.mk #[45])++y2)
 else
  (gf n (IntKind.wrap .u64 n_)).bind fun y2 =>
  some y2
def pG (n:Nat) (j:aC):Option ByteArray :=
 if j.OK=true then
  some (ByteArray.mk #[111,107])
 else
  if (decide (j.Why≥1))=true then
   if (decide (j.Why≤4))=true then
    (ak ([(ByteArray.mk #[111,116,104,101,114]),(ByteArray.mk #[102,111,114,109]),(ByteArray.mk #[111,114,100,101,114]),(ByteArray.mk #[118,97,108,117,101]),(ByteArray.mk #[112,97,105,114])]:List ByteArray) j.Why).bind fun x4 =>
    grd (decide (((x4.size + (ByteArray.mk #[32]).size:Nat):Int)≤9223372036854775807)) <|
    (dZ n j.A_).bind fun y6 =>
    grd (decide ((((x4++(ByteArray.mk #[32])).size + y6.size:Nat):Int)≤9223372036854775807)) <|
    grd (decide (((((x4++(ByteArray.mk #[32]))++y6).size + (ByteArray.mk #[32]).size:Nat):Int)≤9223372036854775807)) <|
    (dZ n j.B).bind fun y9 =>
    grd (decide ((((((x4++(ByteArray.mk #[32]))++y6)++(ByteArray.mk #[32])).size + y9.size:Nat):Int)≤9223372036854775807)) <|
    some ((((x4++(ByteArray.mk #[32]))++y6)++(ByteArray.mk #[32]))++y9)
   else
    grd (decide ((((ByteArray.mk #[111,116,104,101,114]).size + (ByteArray.mk #[32]).size:Nat):Int)≤9223372036854775807)) <|
    (dZ n j.A_).bind fun y5 =>
    grd (decide (((((ByteArray.mk #[111,116,104,101,114])++(ByteArray.mk #[32])).size + y5.size:Nat):Int)≤9223372036854775807)) <|
    grd (decide ((((((ByteArray.mk #[111,116,104,101,114])++(ByteArray.mk #[32]))++y5).size + (ByteArray.mk #[32]).size:Nat):Int)≤9223372036854775807)) <|
    (dZ n j.B).bind fun y8 =>
    grd (decide (((((((ByteArray.mk #[111,116,104,101,114])++(ByteArray.mk #[32]))++y5)++(ByteArray.mk #[32])).size + y8.size:Nat):Int)≤9223372036854775807)) <|
    some (((((ByteArray.mk #[111,116,104,101,114])++(ByteArray.mk #[32]))++y5)++(ByteArray.mk #[32]))++y8)
  else
   grd (decide ((((ByteArray.mk #[111,116,104,101,114]).size + (ByteArray.mk #[32]).size:Nat):Int)≤9223372036854775807)) <|
   (dZ n j.A_).bind fun y4 =>
   grd (decide (((((ByteArray.mk #[111,116,104,101,114])++(ByteArray.mk #[32])).size + y4.size:Nat):Int)≤9223372036854775807)) <|
   grd (decide ((((((ByteArray.mk #[111,116,104,101,114])++(ByteArray.mk #[32]))++y4).size + (ByteArray.mk #[32]).size:Nat):Int)≤9223372036854775807)) <|
   (dZ n j.B).bind fun y7 =>
   grd (decide (((((((ByteArray.mk #[111,116,104,101,114])++(ByteArray.mk #[32]))++y4)++(ByteArray.mk #[32])).size + y7.size:Nat):Int)≤9223372036854775807)) <|
   some (((((ByteArray.mk #[111,116,104,101,114])++(ByteArray.mk #[32]))++y4)++(ByteArray.mk #[32]))++y7)
def iq (n:Nat) (a:(List Int)) (b:(List Int)) (sa:Int):Option (Int⊕(Unit⊕Unit)) :=
 if (decide (sa<(a.length:Int)))=true then
  (ak a sa).bind fun xa2 =>
  (ak b sa).bind fun xa3 =>
  if (xa2 != xa3)=true then
   some (.inr (.inr ()))
  else
   some (.inl (ac .i64 sa 1))
 else
  some (.inr (.inl ()))
def dG (n:Nat) (a:(List Int)) (b:(List Int)):Option Bool :=
 if ((a.length:Int) != (b.length:Int))=true then
  some false
 else
  (iter (fun s=>iq n a b s) n 0).bind fun t2 =>
  match t2 with
  | .inl w3 =>
   some true
  | .inr w3 =>
   some false
def wF (n:Nat) (a:Deps) (b:Deps):Option Bool :=
 (dG n a.Addr b.Addr).bind fun y1 =>
 if y1=true then
  (dG n a.Data b.Data).bind fun y3 =>
  if y3=true then
   (dG n a.Way b.Way).bind fun y5 =>
   some y5
  else
   some false
 else
  some false
def qD (n:Nat) (a:Event) (b:Event):Option Bool :=
 (wF n a.Deps b.Deps).bind fun y1 =>
 if y1=true then
  if (a.Hart==b.Hart)=true then
   if (a.At==b.At)=true then
    if (a.Kind==b.Kind)=true then
     if (a.Addr==b.Addr)=true then
      if (a.Load==b.Load)=true then
       if (a.Store==b.Store)=true then
        if (a.Aq==b.Aq)=true then
         if (a.Rl==b.Rl)=true then
          if (a.Pred==b.Pred)=true then
           if (a.Succ==b.Succ)=true then
            some (a.Pair==b.Pair)
           else
            some false
          else
           some false
         else
          some false
        else
         some false
       else
        some false
      else
       some false
     else
      some false
    else
     some false
   else
    some false
  else
   some false
 else
  some false
def gg (n:Nat) (a:(List Event)) (b:(List Event)) (sa:Int):Option (Int⊕(Unit⊕Unit)) :=
 if (decide (sa<(a.length:Int)))=true then
  (ak a sa).bind fun xa2 =>
  (ak b sa).bind fun xa3 =>
  (qD n xa2 xa3).bind fun ya4 =>
  if (!ya4)=true then
   some (.inr (.inr ()))
  else
   some (.inl (ac .i64 sa 1))
 else
  some (.inr (.inl ()))
def nQ (n:Nat) (a:(List Event)) (b:(List Event)):Option Bool :=
 if ((a.length:Int) != (b.length:Int))=true then
  some false
 else
  (iter (fun s=>gg n a b s) n 0).bind fun t2 =>
  match t2 with
  | .inl w3 =>
   some true
  | .inr w3 =>
   some false
def dO (n:Nat) (a:(List Cell)) (b:(List Cell)) (sa:Int):Option (Int⊕(Unit⊕Unit)) :=
 if (decide (sa<(a.length:Int)))=true then
  (ak a sa).bind fun xa2 =>
  (ak b sa).bind fun xa3 =>
  if (!(Cell.beq xa2 xa3))=true then
   some (.inr (.inr ()))
  else
   some (.inl (ac .i64 sa 1))
 else
  some (.inr (.inl ()))
def j3 (n:Nat) (a:(List Cell)) (b:(List Cell)):Option Bool :=
 if ((a.length:Int) != (b.length:Int))=true then
  some false
 else
  (iter (fun s=>dO n a b s) n 0).bind fun t2 =>
  match t2 with
  | .inl w3 =>
   some true
  | .inr w3 =>
   some false
def iE (n:Nat) (a:af) (b:af) (sa:Int):Option (Int⊕(Unit⊕Unit)) :=
 if (decide (sa<(a.Harts.length:Int)))=true then
  (ak a.Harts sa).bind fun xa2 =>
  (ak b.Harts sa).bind fun xa3 =>
  (nQ n xa2 xa3).bind fun ya4 =>
  if (!ya4)=true then
   some (.inr (.inr ()))
  else
   some (.inl (ac .i64 sa 1))
 else
  some (.inr (.inl ()))
def sI (n:Nat) (a:af) (b:af):Option Bool :=
 if ((a.Harts.length:Int) != (b.Harts.length:Int))=true then
  some false
 else
  (iter (fun s=>iE n a b s) n 0).bind fun t2 =>
  match t2 with
  | .inl w3 =>
   (j3 n a.First b.First).bind fun y4 =>
   if y4=true then
    (dG n a.From b.From).bind fun y6 =>
    if y6=true then
     (dG n a.Order b.Order).bind fun y8 =>
     some y8
    else
     some false
   else
    some false
  | .inr w3 =>
   some false
def iX (n:Nat) (c:af) (n_:Int) (j:aC):Option Bool :=
 (qz n).bind fun y1 =>
 if (!y1)=true then
  some false
 else
  (jW n c 30).bind fun y3 =>
  if (!y3)=true then
   some true
  else
   (jX n c).bind fun y5 =>
   (sE n n_ (ac .i64 (c.From.length:Int) 2)).bind fun y6 =>
   (dJ n (af.mk y5.1 y5.2.2.2 y5.2.1 y5.2.2.1)).bind fun y7 =>
   (nd n c).bind fun y8 =>
   if (aC.beq y7 y8)=true then
    (wE n (af.mk y5.1 y5.2.2.2 y5.2.1 y5.2.2.1)).bind fun y10 =>
    (DF n c).bind fun y11 =>
    if (y10==y11)=true then
     (iW n (af.mk y5.1 y5.2.2.2 y5.2.1 y5.2.2.1) n_).bind fun y13 =>
     (lz n c n_).bind fun y14 =>
     if (y13==y14)=true then
      (iW n (af.mk y5.1 y5.2.2.2 y5.2.1 y5.2.2.1) (aJ .i64 y6 1)).bind fun y16 =>
      (lz n c (aJ .i64 y6 1)).bind fun y17 =>
      if (y16==y17)=true then
       (iw n j).bind fun y19 =>
       (pG n j).bind fun y20 =>
       if (y19.toList==y20.toList)=true then
        (sI n (af.mk y5.1 y5.2.2.2 y5.2.1 y5.2.2.1) c).bind fun y22 =>
        some y22
       else
        some false
      else
       some false
     else
      some false
    else
     some false
   else
    some false

end Go.Proofs.YtomahedcdcnnhaaGreatDoor
