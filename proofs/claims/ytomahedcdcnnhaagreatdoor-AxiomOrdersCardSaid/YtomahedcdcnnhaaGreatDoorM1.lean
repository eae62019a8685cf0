/- What the functions compute, as functions on lists and numbers. Printed by a program from the code; nothing is claimed here. -/
import Derived.Test.YtomahedcdcnnhaaGreatDoorM0
namespace Go.Proofs.YtomahedcdcnnhaaGreatDoor
open Go A
set_option linter.unusedVariables false

structure b_ (α:Type) where
  mk ::
  e0:α
  e1:α
structure Ma (α:Type) where
  mk ::
  e0:α
  e1:α
  e2:α
  e3:α
structure OM (α:Type) where
  mk ::
  e0:α
  e1:α
  e2:α
  e3:α
  e4:α
  e5:α
  e6:α
  e7:α
  e8:α
  e9:α
  e10:α
  e11:α
  e12:α
structure Cell where
  mk ::
  Addr:Int
  Value:Int
structure dg where
  mk ::
  Addr:(List Int)
  Data:(List Int)
  Way:(List Int)
structure Event where
  mk ::
  Hart:Int
  At:Int
  Kind:Int
  Addr:Int
  Load:Int
  Store:Int
  Aq:Bool
  Rl:Bool
  Pred:Int
  Succ:Int
  Pair:Int
  dg:dg
structure af where
  mk ::
  gc:(List Cell)
  am:(List (List Event))
  la:(List Int)
  bt:(List Int)
structure bg where
  mk ::
  OK:Bool
  Why:Int
  A_:Int
  B:Int
structure aU where
  mk ::
  hart:Int
  at_:Int
  kind:Int
  pred:Int
  succ:Int
  pair:Int
  addr:Int
  load:Int
  store:Int
  aq:Bool
  rl:Bool
structure ai where
  mk ::
  c:(Option af)
  all:(List Event)
  fences:(Ma (List Int))
  hung:(List Int)
structure ac where
  mk ::
  C_:af
  All:(List Event)
def bg.beq (x y:bg):Bool:=((x.OK==y.OK)&&((x.Why==y.Why)&&((x.A_==y.A_)&&(x.B==y.B))))
theorem bg.beq_eq {x y:bg} (h:bg.beq x y=true):x=y:=by
  obtain ⟨a1,a2,a3,a4⟩:=x
  obtain ⟨b5,b6,b7,b8⟩:=y
  unfold bg.beq at h
  simp only [Bool.and_eq_true,beq_iff_eq] at h
  simp_all
theorem bg.beq_refl (x:bg):bg.beq x x=true:=by
  unfold bg.beq
  simp
def aU.beq (x y:aU):Bool:=((x.hart==y.hart)&&((x.at_==y.at_)&&((x.kind==y.kind)&&((x.pred==y.pred)&&((x.succ==y.succ)&&((x.pair==y.pair)&&((x.addr==y.addr)&&((x.load==y.load)&&((x.store==y.store)&&((x.aq==y.aq)&&(x.rl==y.rl)))))))))))
theorem aU.beq_eq {x y:aU} (h:aU.beq x y=true):x=y:=by
  obtain ⟨a9,a10,a11,a12,a13,a14,a15,a16,a17,a18,a19⟩:=x
  obtain ⟨b20,b21,b22,b23,b24,b25,b26,b27,b28,b29,b30⟩:=y
  unfold aU.beq at h
  simp only [Bool.and_eq_true,beq_iff_eq] at h
  simp_all
theorem aU.beq_refl (x:aU):aU.beq x x=true:=by
  unfold aU.beq
  simp
def Cell.wf (x:Cell):Prop:=(zC .u64 x.Addr)∧(zC .u64 x.Value)
def dg.wf (x:dg):Prop:=(x.Addr.length≤maxLen∧∀ z∈x.Addr,zC .i64 z)∧(x.Data.length≤maxLen∧∀ z∈x.Data,zC .i64 z)∧(x.Way.length≤maxLen∧∀ z∈x.Way,zC .i64 z)
def Event.wf (x:Event):Prop:=(zC .i64 x.Hart)∧(zC .i64 x.At)∧(zC .i64 x.Kind)∧(zC .u64 x.Addr)∧(zC .u64 x.Load)∧(zC .u64 x.Store)∧(True)∧(True)∧(zC .i64 x.Pred)∧(zC .i64 x.Succ)∧(zC .i64 x.Pair)∧(dg.wf x.dg)
def af.wf (x:af):Prop:=(x.gc.length≤maxLen∧∀ z∈x.gc,Cell.wf z)∧(x.am.length≤maxLen∧∀ z∈x.am,z.length≤maxLen∧∀ zz∈z,Event.wf zz)∧(x.la.length≤maxLen∧∀ z∈x.la,zC .i64 z)∧(x.bt.length≤maxLen∧∀ z∈x.bt,zC .i64 z)
def mA (n:Nat) (fences:Bool):Option af :=
 if (!fences)=true then
 some (af.mk ([]:List Cell) ([([(Event.mk 0 0 2 8 0 1 false false 0 0 0 (dg.mk ([]:List Int) ([]:List Int) ([]:List Int))),(Event.mk 0 1 2 16 0 1 false false 0 0 0 (dg.mk ([]:List Int) ([]:List Int) ([]:List Int)))]:List Event),([(Event.mk 1 0 1 16 1 0 false false 0 0 0 (dg.mk ([]:List Int) ([]:List Int) ([]:List Int))),(Event.mk 1 1 1 8 0 0 false false 0 0 0 (dg.mk ([]:List Int) ([]:List Int) ([]:List Int)))]:List Event)]:List (List Event)) ([(-1),(-1),1,(-1)]:List Int) ([1,2,3,0]:List Int))
 else
 some (af.mk ([]:List Cell) ([([(Event.mk 0 0 2 8 0 1 false false 0 0 0 (dg.mk ([]:List Int) ([]:List Int) ([]:List Int))),(Event.mk 0 1 6 0 0 0 false false 1 1 0 (dg.mk ([]:List Int) ([]:List Int) ([]:List Int))),(Event.mk 0 2 2 16 0 1 false false 0 0 0 (dg.mk ([]:List Int) ([]:List Int) ([]:List Int)))]:List Event),([(Event.mk 1 0 1 16 1 0 false false 0 0 0 (dg.mk ([]:List Int) ([]:List Int) ([]:List Int))),(Event.mk 1 1 6 0 0 0 false false 2 2 0 (dg.mk ([]:List Int) ([]:List Int) ([]:List Int))),(Event.mk 1 2 1 8 0 0 false false 0 0 0 (dg.mk ([]:List Int) ([]:List Int) ([]:List Int)))]:List Event)]:List (List Event)) ([(-1),(-1),(-1),2,(-1),(-1)]:List Int) ([2,3,5,0]:List Int))
def mY (n:Nat) (l:(List Cell)) (sa:Int):Option (Int⊕(Unit⊕Unit)) :=
 if (decide (sa<(l.length:Int)))=true then
 (au l sa).bind fun xa2 =>
 if ((gi .u64 xa2.Addr 8) != 0)=true then
 some (.inr (.inr ()))
 else
 if (decide (sa>0))=true then
 (au l (dM .i64 sa 1)).bind fun xa5 =>
 if (decide (xa5.Addr≥xa2.Addr))=true then
 some (.inr (.inr ()))
 else
 some (.inl (ah .i64 sa 1))
 else
 some (.inl (ah .i64 sa 1))
 else
 some (.inr (.inl ()))
def lL (n:Nat) (l:(List Cell)):Option Bool :=
 (iter (fun s=>mY n l s) n 0).bind fun t1 =>
 match t1 with
 | .inl w2 =>
  some true
 | .inr w2 =>
  some false
def jN (n:Nat) (kind:Int):Option Int :=
 if (decide (kind<1))=true then
 some 0
 else
 if (decide (kind>6))=true then
 some 0
 else
 if (kind==0)=true then
 some 0
 else
 if (kind==1)=true then
 some 1
 else
 if (kind==2)=true then
 some 2
 else
 if (kind==3)=true then
 some 5
 else
 if (kind==4)=true then
 some 14
 else
 if (kind==5)=true then
 some 7
 else
 if (kind==6)=true then
 some 16
 else
 none
def bn (n:Nat) (s1_:(List Int)) (s2_:(List Int)) (sa:Int):Option (Int⊕(Unit⊕Unit)) :=
 if (decide (sa<(s1_.length:Int)))=true then
 (au s1_ sa).bind fun xa2 =>
 (au s2_ sa).bind fun xa3 =>
 if (xa2 != xa3)=true then
 some (.inr (.inr ()))
 else
 some (.inl (ah .i64 sa 1))
 else
 some (.inr (.inl ()))
def bV (n:Nat) (s1_:(List Int)) (s2_:(List Int)):Option Bool :=
 if ((s1_.length:Int) != (s2_.length:Int))=true then
 some false
 else
 (iter (fun s=>bn n s1_ s2_ s) n 0).bind fun t2 =>
 match t2 with
 | .inl w3 =>
  some true
 | .inr w3 =>
  some false
def i6 (n:Nat) (e:Event):Option aU :=
 some (aU.mk e.Hart e.At e.Kind e.Pred e.Succ e.Pair e.Addr e.Load e.Store e.Aq e.Rl)
def lM (n:Nat) (a:Event) (b:Event):Option Bool :=
 (bV n a.dg.Addr b.dg.Addr).bind fun y1 =>
 if (!y1)=true then
 some false
 else
 (bV n a.dg.Data b.dg.Data).bind fun y3 =>
 if (!y3)=true then
 some false
 else
 (bV n a.dg.Way b.dg.Way).bind fun y5 =>
 if (!y5)=true then
 some false
 else
 (i6 n a).bind fun y7 =>
 (i6 n b).bind fun y8 =>
 if (aU.beq y7 y8)=true then
 some true
 else
 some false
def cT (n:Nat) (l:(List Int)) (sa:Int×Int):Option ((Int×Int)⊕(Unit⊕Unit)) :=
 if (decide (sa.2<(l.length:Int)))=true then
 (au l sa.2).bind fun xa2 =>
 if (decide (xa2≤sa.1))=true then
 some (.inr (.inr ()))
 else
 some (.inl (xa2,(ah .i64 sa.2 1)))
 else
 some (.inr (.inl ()))
def i7 (n:Nat) (l:(List Int)):Option Bool :=
 (iter (fun s=>cT n l s) n ((-1),0)).bind fun t1 =>
 match t1 with
 | .inl w2 =>
  some true
 | .inr w2 =>
  some false
def d_ (n:Nat) (l:(List Int)) (at_:Int):Option Bool :=
 (i7 n l).bind fun y1 =>
 if y1=true then
 if ((l.length:Int)==0)=true then
 some true
 else
 (au l (dM .i64 (l.length:Int) 1)).bind fun x4 =>
 some (decide (x4<at_))
 else
 some false
def dr (n:Nat) (e:Event) (y1:Int) (sf:Int×(List Int)×(List Int)×(List Int)×Int×Int×Int×Bool×Bool×Int×Int):Option Int :=
 if (y1==0)=true then
 some 2
 else
 if (decide (e.Hart<0))=true then
 some 2
 else
 if (decide (e.Hart≥8))=true then
 some 2
 else
 if (decide (e.At<0))=true then
 some 2
 else
 (lM n (Event.mk e.Hart e.At e.Kind sf.2.2.2.2.1 sf.2.2.2.2.2.1 sf.2.2.2.2.2.2.1 sf.2.2.2.2.2.2.2.1 sf.2.2.2.2.2.2.2.2.1 sf.2.2.2.2.2.2.2.2.2.1 sf.2.2.2.2.2.2.2.2.2.2 sf.1 (dg.mk sf.2.1 sf.2.2.1 sf.2.2.2.1)) e).bind fun yf5 =>
 if (!yf5)=true then
 some 2
 else
 if ((gi .u64 e.Addr 8) != 0)=true then
 some 2
 else
 if (decide (e.Pred<0))=true then
 some 2
 else
 if (decide (e.Pred>15))=true then
 some 2
 else
 if (decide (e.Succ<0))=true then
 some 2
 else
 if (decide (e.Succ>15))=true then
 some 2
 else
 if ((cy .u64 y1 8) != 0)=true then
 if (decide (e.Pair<0))=true then
 some 2
 else
 if (decide (e.Pair≥e.At))=true then
 some 2
 else
 (d_ n e.dg.Addr e.At).bind fun yf15 =>
 if (!yf15)=true then
 some 2
 else
 (d_ n e.dg.Data e.At).bind fun yf17 =>
 if (!yf17)=true then
 some 2
 else
 (d_ n e.dg.Way e.At).bind fun yf19 =>
 if (!yf19)=true then
 some 2
 else
 some 0
 else
 (d_ n e.dg.Addr e.At).bind fun yf13 =>
 if (!yf13)=true then
 some 2
 else
 (d_ n e.dg.Data e.At).bind fun yf15 =>
 if (!yf15)=true then
 some 2
 else
 (d_ n e.dg.Way e.At).bind fun yf17 =>
 if (!yf17)=true then
 some 2
 else
 some 0
def ez (n:Nat) (e:Event) (y1:Int) (se:(List Int)×(List Int)×(List Int)×Int×Int×Int×Bool×Bool×Int×Int):Option Int :=
 if ((cy .u64 y1 8) != 0)=true then
 (dr n e y1 (e.Pair,se.1,se.2.1,se.2.2.1,se.2.2.2.1,se.2.2.2.2.1,se.2.2.2.2.2.1,se.2.2.2.2.2.2.1,se.2.2.2.2.2.2.2.1,se.2.2.2.2.2.2.2.2.1,se.2.2.2.2.2.2.2.2.2)).bind fun te2 =>
 some te2
 else
 (dr n e y1 (0,se.1,se.2.1,se.2.2.1,se.2.2.2.1,se.2.2.2.2.1,se.2.2.2.2.2.1,se.2.2.2.2.2.2.1,se.2.2.2.2.2.2.2.1,se.2.2.2.2.2.2.2.2.1,se.2.2.2.2.2.2.2.2.2)).bind fun te2 =>
 some te2
def eA (n:Nat) (e:Event) (y1:Int) (sd:(List Int)×(List Int)×(List Int)×Int×Int×Int×Int×Int):Option Int :=
 if ((cy .u64 y1 4) != 0)=true then
 (ez n e y1 (sd.1,sd.2.1,sd.2.2.1,sd.2.2.2.1,sd.2.2.2.2.1,sd.2.2.2.2.2.1,e.Aq,e.Rl,sd.2.2.2.2.2.2.1,sd.2.2.2.2.2.2.2)).bind fun td2 =>
 some td2
 else
 (ez n e y1 (sd.1,sd.2.1,sd.2.2.1,sd.2.2.2.1,sd.2.2.2.2.1,sd.2.2.2.2.2.1,false,false,sd.2.2.2.2.2.2.1,sd.2.2.2.2.2.2.2)).bind fun td2 =>
 some td2
def eB (n:Nat) (e:Event) (y1:Int) (sb:(List Int)×(List Int)×Int×Int×Int×Int):Option Int :=
 if ((cy .u64 y1 2) != 0)=true then
 (eA n e y1 (sb.1,e.dg.Data,sb.2.1,sb.2.2.1,sb.2.2.2.1,e.Store,sb.2.2.2.2.1,sb.2.2.2.2.2)).bind fun tb2 =>
 some tb2
 else
 (eA n e y1 (sb.1,([]:List Int),sb.2.1,sb.2.2.1,sb.2.2.2.1,0,sb.2.2.2.2.1,sb.2.2.2.2.2)).bind fun tb2 =>
 some tb2
def eC (n:Nat) (e:Event) (y1:Int) (sa:(List Int)×(List Int)×Int×Int×Int):Option Int :=
 if ((cy .u64 y1 1) != 0)=true then
 (eB n e y1 (sa.1,sa.2.1,sa.2.2.1,e.Load,sa.2.2.2.1,sa.2.2.2.2)).bind fun ta2 =>
 some ta2
 else
 (eB n e y1 (sa.1,sa.2.1,sa.2.2.1,0,sa.2.2.2.1,sa.2.2.2.2)).bind fun ta2 =>
 some ta2
def iL (n:Nat) (e:Event):Option Int :=
 (jN n e.Kind).bind fun y1 =>
 if ((cy .u64 y1 16) != 0)=true then
 (eC n e y1 (([]:List Int),([]:List Int),0,e.Pred,e.Succ)).bind fun t3 =>
 some t3
 else
 (eC n e y1 (e.dg.Addr,e.dg.Way,e.Addr,0,0)).bind fun t3 =>
 some t3
def i8 (n:Nat) (hart:Int) (l:(List Event)) (sa:Int×Int):Option ((Int×Int)⊕(Unit⊕Unit)) :=
 if (decide (sa.1<(l.length:Int)))=true then
 (au l sa.1).bind fun xa2 =>
 (iL n xa2).bind fun ya3 =>
 if (ya3 != 0)=true then
 some (.inr (.inr ()))
 else
 if (xa2.Hart != hart)=true then
 some (.inr (.inr ()))
 else
 if (xa2.At != sa.1)=true then
 some (.inr (.inr ()))
 else
 if (xa2.Kind==3)=true then
 some (.inl ((ah .i64 sa.1 1),sa.1))
 else
 if (xa2.Kind==4)=true then
 if (xa2.Pair != sa.2)=true then
 some (.inr (.inr ()))
 else
 (au l sa.2).bind fun xa10 =>
 if (xa10.Addr != xa2.Addr)=true then
 some (.inr (.inr ()))
 else
 some (.inl ((ah .i64 sa.1 1),(-1)))
 else
 some (.inl ((ah .i64 sa.1 1),sa.2))
 else
 some (.inr (.inl ()))
def iM (n:Nat) (hart:Int) (l:(List Event)):Option Int :=
 (iter (fun s=>i8 n hart l s) n (0,(-1))).bind fun t1 =>
 match t1 with
 | .inl w2 =>
  some 0
 | .inr w2 =>
  some 4
def bJ (n:Nat) (n_:Int):Option ((Nat×Nat×Nat×(List Event))⊕Unit) :=
 if (decide (n_<0))=true then
 none
 else
 if (decide ((dM .i64 n_ 0)>0))=true then
 grd (Nat.blt 0 14&&Nat.blt 0 152&&decide (0<(dM .i64 n_ 0))&&decide ((dM .i64 n_ 0) * 152≤140737488355328)&&decide ((dM .i64 n_ 0)≤140737488355328)) <|
 grd (decide ((0:Int)≤0)&&decide (0≤(((dM .i64 n_ 0)).toNat:Int))) <|
 some (.inl (0,0,((dM .i64 n_ 0)).toNat,(List.replicate ((dM .i64 n_ 0)).toNat (Event.mk 0 0 0 0 0 0 false false 0 0 0 (dg.mk ([]:List Int) ([]:List Int) ([]:List Int))))))
 else
 some (.inr ())
def bC (n:Nat) (slices:(List (List Event))) (sa:Int×Int):Option ((Int×Int)⊕Int) :=
 if (decide (sa.1<(slices.length:Int)))=true then
 (au slices sa.1).bind fun xa2 =>
 if (decide ((ah .i64 sa.2 (xa2.length:Int))<0))=true then
 none
 else
 some (.inl ((ah .i64 sa.1 1),(ah .i64 sa.2 (xa2.length:Int))))
 else
 some (.inr sa.2)
def bD (n:Nat) (slices:(List (List Event))) (wa3:Nat×Nat×Nat×(List Event)) (sa:Nat×Nat×(List Event)×Int):Option ((Nat×Nat×(List Event)×Int)⊕(Nat×Nat×(List Event))) :=
 if (decide (sa.2.2.2<(slices.length:Int)))=true then
 (au slices sa.2.2.2).bind fun xa2 =>
 grd (Nat.ble xa2.length sa.2.1) <|
 grd (Nat.ble (wa3.1 + sa.1 + sa.2.1) sa.2.2.1.length) <|
 some (.inl ((sa.1 + xa2.length),(sa.2.1 - xa2.length),(sa.2.2.1.take (wa3.1 + sa.1)++(xa2++sa.2.2.1.drop (wa3.1 + sa.1 + xa2.length))),(ah .i64 sa.2.2.2 1)))
 else
 some (.inr (sa.1,sa.2.1,sa.2.2.1))
def bh (n:Nat) (slices:(List (List Event))) (sa:(List Event)×Int):Option (((List Event)×Int)⊕((List Event))) :=
 if (decide (sa.2<(slices.length:Int)))=true then
 (au slices sa.2).bind fun xa2 =>
 grd (Nat.ble ((sa.1.length + xa2.length) * 152) 140737488355328) <|
 some (.inl ((sa.1++xa2),(ah .i64 sa.2 1)))
 else
 some (.inr sa.1)
def aW (n:Nat) (slices:(List (List Event))):Option (List Event) :=
 (iter (fun s=>bC n slices s) n (0,0)).bind fun t1 =>
 (bJ n t1).bind fun y2 =>
 match y2 with
 | .inl wa3 =>
  (iter (fun s=>bD n slices wa3 s) n (wa3.2.1,wa3.2.2.1,wa3.2.2.2,0)).bind fun t4 =>
  some ((t4.2.2.drop wa3.1).take t4.1)
 | .inr wb3 =>
  (iter (fun s=>bh n slices s) n (([]:List Event),0)).bind fun t4 =>
  some t4
def iN (n:Nat) (oA:(List Cell)) (oB:(List (List Event))) (oC:(List Int)) (oD:(List Int)):Option (List Event) :=
 (aW n oB).bind fun y1 =>
 some y1
def bN (n:Nat) (e:Event):Option Bool :=
 (jN n e.Kind).bind fun y1 =>
 some ((cy .u64 y1 1) != 0)
def fG (n:Nat) (x:Int):Option Bool :=
 some (x != x)
def eD (n:Nat) (x:Int) (y:Int):Option Int :=
 (fG n x).bind fun y1 =>
 (fG n y).bind fun y2 =>
 if y1=true then
 if y2=true then
 some 0
 else
 some (-1)
 else
 if y2=true then
 some 1
 else
 if (decide (x<y))=true then
 some (-1)
 else
 if (decide (x>y))=true then
 some 1
 else
 some 0
def gR (n:Nat) (x:Cell) (a:Int):Option Int :=
 (eD n x.Addr a).bind fun y1 =>
 some y1
def aJ (n:Nat) (x:(List Cell)) (target:Int) (sa:Int×Int):Option ((Int×Int)⊕Int) :=
 if (decide (sa.2<sa.1))=true then
 (au x (IntKind.wrap .i64 (iC .u64 (IntKind.wrap .u64 (ah .i64 sa.2 sa.1)) 1))).bind fun xa2 =>
 (gR n xa2 target).bind fun ya3 =>
 if (decide (ya3<0))=true then
 some (.inl (sa.1,(ah .i64 (IntKind.wrap .i64 (iC .u64 (IntKind.wrap .u64 (ah .i64 sa.2 sa.1)) 1)) 1)))
 else
 some (.inl ((IntKind.wrap .i64 (iC .u64 (IntKind.wrap .u64 (ah .i64 sa.2 sa.1)) 1)),sa.2))
 else
 some (.inr sa.2)
def a8 (n:Nat) (x:(List Cell)) (target:Int):Option (Int×Bool) :=
 (iter (fun s=>aJ n x target s) n ((x.length:Int),0)).bind fun t1 =>
 if (decide (t1<(x.length:Int)))=true then
 (au x t1).bind fun x3 =>
 (gR n x3 target).bind fun y4 =>
 some (t1,(y4==0))
 else
 some (t1,false)
def jO (n:Nat) (l:(List Cell)) (addr:Int):Option Int :=
 (a8 n l addr).bind fun y1 =>
 if (!y1.2)=true then
 some 0
 else
 (au l y1.1).bind fun x3 =>
 some x3.Value
def cr (n:Nat) (e:Event):Option Bool :=
 (jN n e.Kind).bind fun y1 =>
 some ((cy .u64 y1 2) != 0)
def iO (n:Nat) (c:af) (all:(List Event)) (n_:Int):Option Bool :=
 (au all n_).bind fun x1 =>
 (au c.la n_).bind fun x2 =>
 (bN n x1).bind fun y3 =>
 if (!y3)=true then
 some (x2==(-1))
 else
 if (x2==(-1))=true then
 (jO n c.gc x1.Addr).bind fun y6 =>
 some (x1.Load==y6)
 else
 if (decide (x2<0))=true then
 some false
 else
 if (decide (x2≥(all.length:Int)))=true then
 some false
 else
 if (x2==n_)=true then
 some false
 else
 (au all x2).bind fun x9 =>
 (cr n x9).bind fun y10 =>
 if y10=true then
 if (x9.Addr==x1.Addr)=true then
 some (x9.Store==x1.Load)
 else
 some false
 else
 some false
def fX (n:Nat) (e:Event):Option Bool :=
 (bN n e).bind fun y1 =>
 if y1=true then
 some true
 else
 (cr n e).bind fun y3 =>
 some y3
def gm (n:Nat) (c:af) (all:(List Event)) (sa:(List Bool)×Int×Int):Option (((List Bool)×Int×Int)⊕((List Bool)×Int)) :=
 if (decide (sa.2.1<(all.length:Int)))=true then
 (au all sa.2.1).bind fun xa2 =>
 (fX n xa2).bind fun ya3 =>
 if ya3=true then
 (au sa.1 sa.2.1).bind fun xa5 =>
 some (.inl ((sa.1.set (sa.2.1).toNat true),(ah .i64 sa.2.1 1),(ah .i64 sa.2.2 1)))
 else
 some (.inl (sa.1,(ah .i64 sa.2.1 1),sa.2.2))
 else
 some (.inr (sa.1,sa.2.2))
def gn (n:Nat) (c:af) (sa:(List Bool)×Int×Int):Option (((List Bool)×Int×Int)⊕(Int⊕Unit)) :=
 if (decide (sa.2.1<(c.bt.length:Int)))=true then
 (au c.bt sa.2.1).bind fun xa2 =>
 if (decide (xa2<0))=true then
 some (.inr (.inr ()))
 else
 if (decide (xa2≥(sa.1.length:Int)))=true then
 some (.inr (.inr ()))
 else
 (au sa.1 xa2).bind fun xa5 =>
 if (!xa5)=true then
 some (.inr (.inr ()))
 else
 some (.inl ((sa.1.set (xa2).toNat false),(ah .i64 sa.2.1 1),(dM .i64 sa.2.2 1)))
 else
 some (.inr (.inl sa.2.2))
def dU (n:Nat) (c:af) (all:(List Event)):Option Bool :=
 grd (decide ((0:Int)≤(all.length:Int))&&decide ((all.length:Int)≤(all.length:Int))&&decide (1 * (all.length:Int)≤140737488355328)&&decide ((all.length:Int)≤140737488355328)&&Nat.blt 0 1) <|
 (iter (fun s=>gm n c all s) n ((List.replicate ((all.length:Int)).toNat false),0,0)).bind fun t2 =>
 (iter (fun s=>gn n c s) n (t2.1,0,t2.2)).bind fun t3 =>
 match t3 with
 | .inl w4 =>
  some (w4==0)
 | .inr w4 =>
  some false
def gw (n:Nat) (c:af) (sa:Int×Int):Option ((Int×Int)⊕(Int⊕Unit)) :=
 if (decide (sa.1<(c.am.length:Int)))=true then
 (au c.am sa.1).bind fun xa2 =>
 if (decide ((ah .i64 sa.2 (xa2.length:Int))>4096))=true then
 some (.inr (.inr ()))
 else
 (iM n sa.1 xa2).bind fun ya4 =>
 if (ya4 != 0)=true then
 some (.inr (.inr ()))
 else
 some (.inl ((ah .i64 sa.1 1),(ah .i64 sa.2 (xa2.length:Int))))
 else
 some (.inr (.inl sa.2))
def ik (n:Nat) (c:af) (y7:(List Event)) (sa:Int):Option (Int⊕(Unit⊕Unit)) :=
 if (decide (sa<(y7.length:Int)))=true then
 (iO n c y7 sa).bind fun ya2 =>
 if (!ya2)=true then
 some (.inr (.inr ()))
 else
 some (.inl (ah .i64 sa 1))
 else
 some (.inr (.inl ()))
def ci (n:Nat) (c:af):Option Int :=
 (lL n c.gc).bind fun y1 =>
 if (!y1)=true then
 some 2
 else
 if (decide ((c.am.length:Int)<1))=true then
 some 2
 else
 if (decide ((c.am.length:Int)>8))=true then
 some 2
 else
 (iter (fun s=>gw n c s) n (0,0)).bind fun t5 =>
 match t5 with
 | .inl w6 =>
  (iN n c.gc c.am c.la c.bt).bind fun y7 =>
  if ((c.la.length:Int) != w6)=true then
  some 2
  else
  (iter (fun s=>ik n c y7 s) n 0).bind fun t9 =>
  match t9 with
  | .inl w10 =>
   (dU n c y7).bind fun y11 =>
   if (!y11)=true then
   some 2
   else
   some 0
  | .inr w10 =>
   some 2
 | .inr w6 =>
  some 2
def bW (n:Nat) (l:List Int):Option (List Int):=grd (Nat.ble (l.length * 8) 140737488355328) (some l)
def pm (n:Nat) (e:Event):Option Event :=
 (bW n e.dg.Addr).bind fun y1 =>
 (bW n e.dg.Data).bind fun y2 =>
 (bW n e.dg.Way).bind fun y3 =>
 some (Event.mk e.Hart e.At e.Kind e.Addr e.Load e.Store e.Aq e.Rl e.Pred e.Succ e.Pair (dg.mk y1 y2 y3))
def mB (n:Nat) (y3:(List Event)) (sa:(List Event)×Int):Option (((List Event)×Int)⊕((List Event))) :=
 if (decide (sa.2<(y3.length:Int)))=true then
 (au y3 sa.2).bind fun xa2 =>
 (pm n xa2).bind fun ya3 =>
 grd (Nat.ble ((sa.1.length + 1) * 152) 140737488355328) <|
 some (.inl ((sa.1++([ya3]:List Event)),(ah .i64 sa.2 1)))
 else
 some (.inr sa.1)
def np (n:Nat) (c:af):Option (List Event) :=
 (ci n c).bind fun y1 =>
 if (y1 != 0)=true then
 some ([]:List Event)
 else
 (iN n c.gc c.am c.la c.bt).bind fun y3 =>
 (iter (fun s=>mB n y3 s) n (([]:List Event),0)).bind fun t4 =>
 some t4
def kV (n:Nat) (x:Int) (y:Int):Option (Int×Int) :=
 some ((ah .u64 (ah .u64 (nn .u64 (iC .u64 x 32) (iC .u64 y 32)) (iC .u64 (ah .u64 (nn .u64 (iC .u64 x 32) (cy .u64 y 4294967295)) (iC .u64 (nn .u64 (cy .u64 x 4294967295) (cy .u64 y 4294967295)) 32)) 32)) (iC .u64 (ah .u64 (cy .u64 (ah .u64 (nn .u64 (iC .u64 x 32) (cy .u64 y 4294967295)) (iC .u64 (nn .u64 (cy .u64 x 4294967295) (cy .u64 y 4294967295)) 32)) 4294967295) (nn .u64 (cy .u64 x 4294967295) (iC .u64 y 32))) 32)),(nn .u64 x y))
def gx (n:Nat) (x:Int) (y:Int):Option (Int×Int) :=
 (kV n x y).bind fun y1 =>
 some (y1.1,y1.2)
def cN (n:Nat) (sa:(List Int)×Int):Option (((List Int)×Int)⊕((List Int))) :=
 if (decide (sa.2<(sa.1.length:Int)))=true then
 grd (decide ((0:Int)≤sa.2)&&decide (sa.2≤(sa.1.length:Int))) <|
 grd (decide ((0:Int)≤sa.2)&&decide (sa.2≤(sa.1.length:Int))) <|
 grd (Nat.ble ((sa.2).toNat + (sa.1.length - (sa.2).toNat)) sa.1.length) <|
 some (.inl ((sa.1.take ((sa.2).toNat)++(((sa.1.drop 0).take ((sa.2).toNat)).take (sa.1.length - (sa.2).toNat)++sa.1.drop ((sa.2).toNat + min ((sa.1.drop 0).take ((sa.2).toNat)).length (sa.1.length - (sa.2).toNat)))),(ah .i64 sa.2 ((min ((sa.1.drop 0).take ((sa.2).toNat)).length (sa.1.length - (sa.2).toNat):Nat):Int))))
 else
 some (.inr sa.1)
def bT (n:Nat) (x:(List Int)) (count:Int):Option (List Int) :=
 if (decide (count<0))=true then
 none
 else
 (gx n (IntKind.wrap .u64 (x.length:Int)) (IntKind.wrap .u64 count)).bind fun y2 =>
 if (decide (y2.1>0))=true then
 none
 else
 if (decide (y2.2>9223372036854775807))=true then
 none
 else
 grd (decide ((0:Int)≤(IntKind.wrap .i64 y2.2))&&decide ((IntKind.wrap .i64 y2.2)≤(IntKind.wrap .i64 y2.2))&&decide (8 * (IntKind.wrap .i64 y2.2)≤140737488355328)&&decide ((IntKind.wrap .i64 y2.2)≤140737488355328)&&Nat.blt 0 1) <|
 (iter (fun s=>cN n s) n ((x.take (List.replicate ((IntKind.wrap .i64 y2.2)).toNat 0).length++(List.replicate ((IntKind.wrap .i64 y2.2)).toNat 0).drop x.length),((min x.length (List.replicate ((IntKind.wrap .i64 y2.2)).toNat 0).length:Nat):Int))).bind fun t6 =>
 some t6
def i9 (n:Nat) (c:af) (sa:(List Int)×Int):Option (((List Int)×Int)⊕((List Int))) :=
 if (decide (sa.2<(c.bt.length:Int)))=true then
 (au c.bt sa.2).bind fun xa2 =>
 (au sa.1 xa2).bind fun xa3 =>
 some (.inl ((sa.1.set (xa2).toNat sa.2),(ah .i64 sa.2 1)))
 else
 some (.inr sa.1)
def kC (n:Nat) (c:af):Option (List Int) :=
 (ci n c).bind fun y1 =>
 if (y1 != 0)=true then
 some ([]:List Int)
 else
 (bT n ([(-1)]:List Int) (c.la.length:Int)).bind fun y3 =>
 (iter (fun s=>i9 n c s) n (y3,0)).bind fun t4 =>
 some t4
def kp (n:Nat) (oA:(List Cell)) (oB:(List (List Event))) (oC:(List Int)) (oD:(List Int)) (y3:(List Event)) (y4:(List Int)) (sa:(List Int×(List (Option (List Int))))×Int):Option (((List Int×(List (Option (List Int))))×Int)⊕((List Int×(List (Option (List Int)))))) :=
 if (decide (sa.2<(oD.length:Int)))=true then
 (au oD sa.2).bind fun xa2 =>
 (au y3 xa2).bind fun xa3 =>
 (cr n xa3).bind fun ya4 =>
 if ya4=true then
 i5 (dZ gl sa.1.1 xa3.Addr) (
 some (.inl (((sa.1.1++[xa3.Addr]),(sa.1.2++[some ([xa2]:List Int)])),(ah .i64 sa.2 1)))) fun za6 =>
 (sa.1.2[za6]?).bind fun xa8 =>
 i5 xa8 (
 some (.inl ((sa.1.1,(sa.1.2.set za6 (some ([xa2]:List Int)))),(ah .i64 sa.2 1)))) fun za9 =>
 grd (Nat.ble ((za9.length + 1) * 8) 140737488355328) <|
 some (.inl ((sa.1.1,(sa.1.2.set za6 (some (za9++([xa2]:List Int))))),(ah .i64 sa.2 1)))
 else
 some (.inl ((sa.1.1,sa.1.2),(ah .i64 sa.2 1)))
 else
 some (.inr (sa.1.1,sa.1.2))
def iD (n:Nat) (oA:(List Cell)) (oB:(List (List Event))) (oC:(List Int)) (oD:(List Int)):Option (Unit⊕((List (Int×(List Int)))×(List Event)×(List Int))) :=
 (ci n (af.mk oA oB oC oD)).bind fun y1 =>
 if (y1 != 0)=true then
 some (.inl ())
 else
 (np n (af.mk oA oB oC oD)).bind fun y3 =>
 (kC n (af.mk oA oB oC oD)).bind fun y4 =>
 (iter (fun s=>kp n oA oB oC oD y3 y4 s) n ((([]:List Int),([]:List (Option (List Int)))),0)).bind fun t23 =>
 grd (pg t23.2) <|
 some (.inr ((BZ t23.1 t23.2),y3,y4))
def eU (n:Nat) (why:Int) (a:Int) (b:Int):Option bg :=
 some (bg.mk false why a b)
def bP (n:Nat) (oA:(List Cell)) (oB:(List (List Event))) (oC:(List Int)) (oD:(List Int)) (oE:(List Event)) (sa:(List Int)×Int):Option (((List Int)×Int)⊕((List Int))) :=
 if (decide (sa.2<(sa.1.length:Int)))=true then
 grd (decide ((0:Int)≤sa.2)&&decide (sa.2≤(sa.1.length:Int))) <|
 grd (decide ((0:Int)≤sa.2)&&decide (sa.2≤(sa.1.length:Int))) <|
 grd (Nat.ble ((sa.2).toNat + (sa.1.length - (sa.2).toNat)) sa.1.length) <|
 some (.inl ((sa.1.take ((sa.2).toNat)++(((sa.1.drop 0).take ((sa.2).toNat)).take (sa.1.length - (sa.2).toNat)++sa.1.drop ((sa.2).toNat + min ((sa.1.drop 0).take ((sa.2).toNat)).length (sa.1.length - (sa.2).toNat)))),(ah .i64 sa.2 ((min ((sa.1.drop 0).take ((sa.2).toNat)).length (sa.1.length - (sa.2).toNat):Nat):Int))))
 else
 some (.inr sa.1)
def bu (n:Nat) (x:(List Int)) (count:Int) (oA:(List Cell)) (oB:(List (List Event))) (oC:(List Int)) (oD:(List Int)) (oE:(List Event)):Option (List Int) :=
 if (decide (count<0))=true then
 none
 else
 (gx n (IntKind.wrap .u64 (x.length:Int)) (IntKind.wrap .u64 count)).bind fun y2 =>
 if (decide (y2.1>0))=true then
 none
 else
 if (decide (y2.2>9223372036854775807))=true then
 none
 else
 grd (decide ((0:Int)≤(IntKind.wrap .i64 y2.2))&&decide ((IntKind.wrap .i64 y2.2)≤(IntKind.wrap .i64 y2.2))&&decide (8 * (IntKind.wrap .i64 y2.2)≤140737488355328)&&decide ((IntKind.wrap .i64 y2.2)≤140737488355328)&&Nat.blt 0 1) <|
 (iter (fun s=>bP n oA oB oC oD oE s) n ((x.take (List.replicate ((IntKind.wrap .i64 y2.2)).toNat 0).length++(List.replicate ((IntKind.wrap .i64 y2.2)).toNat 0).drop x.length),((min x.length (List.replicate ((IntKind.wrap .i64 y2.2)).toNat 0).length:Nat):Int))).bind fun t6 =>
 some t6
def jP (n:Nat) (c:af) (y3:(List Event)) (xa2:Event) (sb:(List Int)×(List Int)×(List Int)×(List Int)×(List Int)×Int×Int×Int):Option (((List Int)×(List Int)×(List Int)×(List Int)×(List Int)×Int×Int×Int)⊕((List Int)×(List Int)×(List Int)×(List Int)×(List Int)×Int×Int)) :=
 if (decide (sb.2.2.2.2.2.2.1<4))=true then
 if (sb.2.2.2.2.2.2.1==0)=true then
 (au sb.2.1 sb.2.2.2.2.2.2.2).bind fun xb3 =>
 (au sb.2.1 (ah .i64 sb.2.2.2.2.2.2.2 1)).bind fun xb4 =>
 if (xa2.Kind==6)=true then
 grd (decide ((0:Int)≤(lj .i64 sb.2.2.2.2.2.2.1 2))) <|
 if ((cy .i64 (iC .i64 xa2.Pred (lj .i64 sb.2.2.2.2.2.2.1 2)) 1)==1)=true then
 grd (decide ((0:Int)≤(gi .i64 sb.2.2.2.2.2.2.1 2))) <|
 if ((cy .i64 (iC .i64 xa2.Succ (gi .i64 sb.2.2.2.2.2.2.1 2)) 1)==1)=true then
 (au (sb.2.1.set ((ah .i64 sb.2.2.2.2.2.2.2 1)).toNat xb3) (ah .i64 sb.2.2.2.2.2.2.2 1)).bind fun xb10 =>
 some (.inl (sb.1,((sb.2.1.set ((ah .i64 sb.2.2.2.2.2.2.2 1)).toNat xb3).set ((ah .i64 sb.2.2.2.2.2.2.2 1)).toNat (ah .i64 xb10 1)),sb.2.2.1,sb.2.2.2.1,sb.2.2.2.2.1,sb.2.2.2.2.2.1,(ah .i64 sb.2.2.2.2.2.2.1 1),sb.2.2.2.2.2.2.2))
 else
 some (.inl (sb.1,(sb.2.1.set ((ah .i64 sb.2.2.2.2.2.2.2 1)).toNat xb3),sb.2.2.1,sb.2.2.2.1,sb.2.2.2.2.1,sb.2.2.2.2.2.1,(ah .i64 sb.2.2.2.2.2.2.1 1),sb.2.2.2.2.2.2.2))
 else
 some (.inl (sb.1,(sb.2.1.set ((ah .i64 sb.2.2.2.2.2.2.2 1)).toNat xb3),sb.2.2.1,sb.2.2.2.1,sb.2.2.2.2.1,sb.2.2.2.2.2.1,(ah .i64 sb.2.2.2.2.2.2.1 1),sb.2.2.2.2.2.2.2))
 else
 some (.inl (sb.1,(sb.2.1.set ((ah .i64 sb.2.2.2.2.2.2.2 1)).toNat xb3),sb.2.2.1,sb.2.2.2.1,sb.2.2.2.2.1,sb.2.2.2.2.2.1,(ah .i64 sb.2.2.2.2.2.2.1 1),sb.2.2.2.2.2.2.2))
 else
 if (sb.2.2.2.2.2.2.1==1)=true then
 (au sb.2.2.1 sb.2.2.2.2.2.2.2).bind fun xb3 =>
 (au sb.2.2.1 (ah .i64 sb.2.2.2.2.2.2.2 1)).bind fun xb4 =>
 if (xa2.Kind==6)=true then
 grd (decide ((0:Int)≤(lj .i64 sb.2.2.2.2.2.2.1 2))) <|
 if ((cy .i64 (iC .i64 xa2.Pred (lj .i64 sb.2.2.2.2.2.2.1 2)) 1)==1)=true then
 grd (decide ((0:Int)≤(gi .i64 sb.2.2.2.2.2.2.1 2))) <|
 if ((cy .i64 (iC .i64 xa2.Succ (gi .i64 sb.2.2.2.2.2.2.1 2)) 1)==1)=true then
 (au (sb.2.2.1.set ((ah .i64 sb.2.2.2.2.2.2.2 1)).toNat xb3) (ah .i64 sb.2.2.2.2.2.2.2 1)).bind fun xb10 =>
 some (.inl (sb.1,sb.2.1,((sb.2.2.1.set ((ah .i64 sb.2.2.2.2.2.2.2 1)).toNat xb3).set ((ah .i64 sb.2.2.2.2.2.2.2 1)).toNat (ah .i64 xb10 1)),sb.2.2.2.1,sb.2.2.2.2.1,sb.2.2.2.2.2.1,(ah .i64 sb.2.2.2.2.2.2.1 1),sb.2.2.2.2.2.2.2))
 else
 some (.inl (sb.1,sb.2.1,(sb.2.2.1.set ((ah .i64 sb.2.2.2.2.2.2.2 1)).toNat xb3),sb.2.2.2.1,sb.2.2.2.2.1,sb.2.2.2.2.2.1,(ah .i64 sb.2.2.2.2.2.2.1 1),sb.2.2.2.2.2.2.2))
 else
 some (.inl (sb.1,sb.2.1,(sb.2.2.1.set ((ah .i64 sb.2.2.2.2.2.2.2 1)).toNat xb3),sb.2.2.2.1,sb.2.2.2.2.1,sb.2.2.2.2.2.1,(ah .i64 sb.2.2.2.2.2.2.1 1),sb.2.2.2.2.2.2.2))
 else
 some (.inl (sb.1,sb.2.1,(sb.2.2.1.set ((ah .i64 sb.2.2.2.2.2.2.2 1)).toNat xb3),sb.2.2.2.1,sb.2.2.2.2.1,sb.2.2.2.2.2.1,(ah .i64 sb.2.2.2.2.2.2.1 1),sb.2.2.2.2.2.2.2))
 else
 if (sb.2.2.2.2.2.2.1==2)=true then
 (au sb.2.2.2.1 sb.2.2.2.2.2.2.2).bind fun xb3 =>
 (au sb.2.2.2.1 (ah .i64 sb.2.2.2.2.2.2.2 1)).bind fun xb4 =>
 if (xa2.Kind==6)=true then
 grd (decide ((0:Int)≤(lj .i64 sb.2.2.2.2.2.2.1 2))) <|
 if ((cy .i64 (iC .i64 xa2.Pred (lj .i64 sb.2.2.2.2.2.2.1 2)) 1)==1)=true then
 grd (decide ((0:Int)≤(gi .i64 sb.2.2.2.2.2.2.1 2))) <|
 if ((cy .i64 (iC .i64 xa2.Succ (gi .i64 sb.2.2.2.2.2.2.1 2)) 1)==1)=true then
 (au (sb.2.2.2.1.set ((ah .i64 sb.2.2.2.2.2.2.2 1)).toNat xb3) (ah .i64 sb.2.2.2.2.2.2.2 1)).bind fun xb10 =>
 some (.inl (sb.1,sb.2.1,sb.2.2.1,((sb.2.2.2.1.set ((ah .i64 sb.2.2.2.2.2.2.2 1)).toNat xb3).set ((ah .i64 sb.2.2.2.2.2.2.2 1)).toNat (ah .i64 xb10 1)),sb.2.2.2.2.1,sb.2.2.2.2.2.1,(ah .i64 sb.2.2.2.2.2.2.1 1),sb.2.2.2.2.2.2.2))
 else
 some (.inl (sb.1,sb.2.1,sb.2.2.1,(sb.2.2.2.1.set ((ah .i64 sb.2.2.2.2.2.2.2 1)).toNat xb3),sb.2.2.2.2.1,sb.2.2.2.2.2.1,(ah .i64 sb.2.2.2.2.2.2.1 1),sb.2.2.2.2.2.2.2))
 else
 some (.inl (sb.1,sb.2.1,sb.2.2.1,(sb.2.2.2.1.set ((ah .i64 sb.2.2.2.2.2.2.2 1)).toNat xb3),sb.2.2.2.2.1,sb.2.2.2.2.2.1,(ah .i64 sb.2.2.2.2.2.2.1 1),sb.2.2.2.2.2.2.2))
 else
 some (.inl (sb.1,sb.2.1,sb.2.2.1,(sb.2.2.2.1.set ((ah .i64 sb.2.2.2.2.2.2.2 1)).toNat xb3),sb.2.2.2.2.1,sb.2.2.2.2.2.1,(ah .i64 sb.2.2.2.2.2.2.1 1),sb.2.2.2.2.2.2.2))
 else
 if (sb.2.2.2.2.2.2.1==3)=true then
 (au sb.2.2.2.2.1 sb.2.2.2.2.2.2.2).bind fun xb3 =>
 (au sb.2.2.2.2.1 (ah .i64 sb.2.2.2.2.2.2.2 1)).bind fun xb4 =>
 if (xa2.Kind==6)=true then
 grd (decide ((0:Int)≤(lj .i64 sb.2.2.2.2.2.2.1 2))) <|
 if ((cy .i64 (iC .i64 xa2.Pred (lj .i64 sb.2.2.2.2.2.2.1 2)) 1)==1)=true then
 grd (decide ((0:Int)≤(gi .i64 sb.2.2.2.2.2.2.1 2))) <|
 if ((cy .i64 (iC .i64 xa2.Succ (gi .i64 sb.2.2.2.2.2.2.1 2)) 1)==1)=true then
 (au (sb.2.2.2.2.1.set ((ah .i64 sb.2.2.2.2.2.2.2 1)).toNat xb3) (ah .i64 sb.2.2.2.2.2.2.2 1)).bind fun xb10 =>
 some (.inl (sb.1,sb.2.1,sb.2.2.1,sb.2.2.2.1,((sb.2.2.2.2.1.set ((ah .i64 sb.2.2.2.2.2.2.2 1)).toNat xb3).set ((ah .i64 sb.2.2.2.2.2.2.2 1)).toNat (ah .i64 xb10 1)),sb.2.2.2.2.2.1,(ah .i64 sb.2.2.2.2.2.2.1 1),sb.2.2.2.2.2.2.2))
 else
 some (.inl (sb.1,sb.2.1,sb.2.2.1,sb.2.2.2.1,(sb.2.2.2.2.1.set ((ah .i64 sb.2.2.2.2.2.2.2 1)).toNat xb3),sb.2.2.2.2.2.1,(ah .i64 sb.2.2.2.2.2.2.1 1),sb.2.2.2.2.2.2.2))
 else
 some (.inl (sb.1,sb.2.1,sb.2.2.1,sb.2.2.2.1,(sb.2.2.2.2.1.set ((ah .i64 sb.2.2.2.2.2.2.2 1)).toNat xb3),sb.2.2.2.2.2.1,(ah .i64 sb.2.2.2.2.2.2.1 1),sb.2.2.2.2.2.2.2))
 else
 some (.inl (sb.1,sb.2.1,sb.2.2.1,sb.2.2.2.1,(sb.2.2.2.2.1.set ((ah .i64 sb.2.2.2.2.2.2.2 1)).toNat xb3),sb.2.2.2.2.2.1,(ah .i64 sb.2.2.2.2.2.2.1 1),sb.2.2.2.2.2.2.2))
 else
 none
 else
 some (.inr (sb.1,sb.2.1,sb.2.2.1,sb.2.2.2.1,sb.2.2.2.2.1,sb.2.2.2.2.2.1,sb.2.2.2.2.2.2.2))
def jQ (n:Nat) (c:af) (y3:(List Event)) (xa2:Event) (sb:(List Int)×(List Int)×(List Int)×(List Int)×(List Int)×Int×Int×Int):Option (((List Int)×(List Int)×(List Int)×(List Int)×(List Int)×Int×Int×Int)⊕((List Int)×(List Int)×(List Int)×(List Int)×(List Int)×Int)) :=
 if (decide (sb.2.2.2.2.2.1<(xa2.dg.Addr.length:Int)))=true then
 (au xa2.dg.Addr sb.2.2.2.2.2.1).bind fun xb2 =>
 (au sb.1 (ah .i64 (dM .i64 sb.2.2.2.2.2.2.2 xa2.At) xb2)).bind fun xb3 =>
 some (.inl ((sb.1.set ((ah .i64 (dM .i64 sb.2.2.2.2.2.2.2 xa2.At) xb2)).toNat (lk xb3 sb.2.2.2.2.2.2.2)),sb.2.1,sb.2.2.1,sb.2.2.2.1,sb.2.2.2.2.1,(ah .i64 sb.2.2.2.2.2.1 1),sb.2.2.2.2.2.2.1,sb.2.2.2.2.2.2.2))
 else
 some (.inr (sb.1,sb.2.1,sb.2.2.1,sb.2.2.2.1,sb.2.2.2.2.1,sb.2.2.2.2.2.2.1))
def nq (n:Nat) (c:af) (y3:(List Event)) (sa:(List Int)×(List Int)×(List Int)×(List Int)×(List Int)×Int):Option (((List Int)×(List Int)×(List Int)×(List Int)×(List Int)×Int)⊕((List Int)×(List Int)×(List Int)×(List Int)×(List Int))) :=
 if (decide (sa.2.2.2.2.2<(y3.length:Int)))=true then
 (au y3 sa.2.2.2.2.2).bind fun xa2 =>
 (iter (fun s=>jP n c y3 xa2 s) n (sa.1,sa.2.1,sa.2.2.1,sa.2.2.2.1,sa.2.2.2.2.1,sa.2.2.2.2.2,0,sa.2.2.2.2.2)).bind fun ta3 =>
 (iter (fun s=>jQ n c y3 xa2 s) n (ta3.1,ta3.2.1,ta3.2.2.1,ta3.2.2.2.1,ta3.2.2.2.2.1,0,ta3.2.2.2.2.2.1,ta3.2.2.2.2.2.2)).bind fun ta4 =>
 some (.inl (ta4.1,ta4.2.1,ta4.2.2.1,ta4.2.2.2.1,ta4.2.2.2.2.1,(ah .i64 ta4.2.2.2.2.2 1)))
 else
 some (.inr (sa.1,sa.2.1,sa.2.2.1,sa.2.2.2.1,sa.2.2.2.2.1))
def lN (n:Nat) (c:af):Option (Option ai) :=
 (ci n c).bind fun y1 =>
 if (y1 != 0)=true then
 some (none:Option ai)
 else
 (aW n c.am).bind fun y3 =>
 (bu n ([(y3.length:Int)]:List Int) (y3.length:Int) c.gc c.am c.la c.bt y3).bind fun y4 =>
 grd (decide ((0:Int)≤(ah .i64 (y3.length:Int) 1))&&decide ((ah .i64 (y3.length:Int) 1)≤(ah .i64 (y3.length:Int) 1))&&decide (8 * (ah .i64 (y3.length:Int) 1)≤140737488355328)&&decide ((ah .i64 (y3.length:Int) 1)≤140737488355328)&&Nat.blt 0 1) <|
 grd (decide ((0:Int)≤(ah .i64 (y3.length:Int) 1))&&decide ((ah .i64 (y3.length:Int) 1)≤(ah .i64 (y3.length:Int) 1))&&decide (8 * (ah .i64 (y3.length:Int) 1)≤140737488355328)&&decide ((ah .i64 (y3.length:Int) 1)≤140737488355328)&&Nat.blt 0 1) <|
 grd (decide ((0:Int)≤(ah .i64 (y3.length:Int) 1))&&decide ((ah .i64 (y3.length:Int) 1)≤(ah .i64 (y3.length:Int) 1))&&decide (8 * (ah .i64 (y3.length:Int) 1)≤140737488355328)&&decide ((ah .i64 (y3.length:Int) 1)≤140737488355328)&&Nat.blt 0 1) <|
 grd (decide ((0:Int)≤(ah .i64 (y3.length:Int) 1))&&decide ((ah .i64 (y3.length:Int) 1)≤(ah .i64 (y3.length:Int) 1))&&decide (8 * (ah .i64 (y3.length:Int) 1)≤140737488355328)&&decide ((ah .i64 (y3.length:Int) 1)≤140737488355328)&&Nat.blt 0 1) <|
 (iter (fun s=>nq n c y3 s) n (y4,(List.replicate ((ah .i64 (y3.length:Int) 1)).toNat 0),(List.replicate ((ah .i64 (y3.length:Int) 1)).toNat 0),(List.replicate ((ah .i64 (y3.length:Int) 1)).toNat 0),(List.replicate ((ah .i64 (y3.length:Int) 1)).toNat 0),0)).bind fun t9 =>
 some (some (ai.mk (some c) y3 (Ma.mk t9.2.1 t9.2.2.1 t9.2.2.2.1 t9.2.2.2.2) t9.1))
def eE (n:Nat) (v:ai) (a:Int) (b:Int):Option Bool :=
 if (decide (a<0))=true then
 some false
 else
 if (decide (b≥(v.all.length:Int)))=true then
 some false
 else
 if (decide (a≥b))=true then
 some false
 else
 (au v.all a).bind fun x4 =>
 (au v.all b).bind fun x5 =>
 if (x4.Hart==x5.Hart)=true then
 (fX n x4).bind fun y7 =>
 if y7=true then
 (fX n x5).bind fun y9 =>
 some y9
 else
 some false
 else
 some false
def tU (n:Nat):Option Unit :=
 some ()
def fR (n:Nat) (v:ai) (a:Int) (b:Int) (x:Event) (y:Event):Option Bool :=
 (cr n y).bind fun y1 =>
 if y1=true then
 some (x.Addr==y.Addr)
 else
 some false
def il (n:Nat) (m:Event) (a:Int) (a_:Int) (a_A:Int) (a_B:Int) (a_C:Int) (a_D:Int) (a_E:Bool) (a_F:Bool) (a_G:Int) (a_H:Int) (a_I:Int) (a_J:(List Int)) (a_K:(List Int)) (a_L:(List Int)):Option Bool :=
 (cr n m).bind fun y1 =>
 if y1=true then
 some (m.Addr==a_B)
 else
 some false
def bc (n:Nat) (s_:(List Event)) (f:Int) (f_:Int) (f_A:Int) (f_B:Int) (f_C:Int) (f_D:Int) (f_E:Bool) (f_F:Bool) (f_G:Int) (f_H:Int) (f_I:Int) (f_J:(List Int)) (f_K:(List Int)) (f_L:(List Int)) (sa:Int):Option (Int⊕(Unit⊕Int)) :=
 if (decide (sa<(s_.length:Int)))=true then
 (au s_ sa).bind fun xa2 =>
 (il n xa2 f f_ f_A f_B f_C f_D f_E f_F f_G f_H f_I f_J f_K f_L).bind fun ya3 =>
 if ya3=true then
 some (.inr (.inr sa))
 else
 some (.inl (ah .i64 sa 1))
 else
 some (.inr (.inl ()))
def bi (n:Nat) (s_:(List Event)) (f:Int) (f_:Int) (f_A:Int) (f_B:Int) (f_C:Int) (f_D:Int) (f_E:Bool) (f_F:Bool) (f_G:Int) (f_H:Int) (f_I:Int) (f_J:(List Int)) (f_K:(List Int)) (f_L:(List Int)):Option Int :=
 (iter (fun s=>bc n s_ f f_ f_A f_B f_C f_D f_E f_F f_G f_H f_I f_J f_K f_L s) n 0).bind fun t1 =>
 match t1 with
 | .inl w2 =>
  some (-1)
 | .inr w2 =>
  some w2
def bd (n:Nat) (s_:(List Event)) (f:Int) (f_:Int) (f_A:Int) (f_B:Int) (f_C:Int) (f_D:Int) (f_E:Bool) (f_F:Bool) (f_G:Int) (f_H:Int) (f_I:Int) (f_J:(List Int)) (f_K:(List Int)) (f_L:(List Int)):Option Bool :=
 (bi n s_ f f_ f_A f_B f_C f_D f_E f_F f_G f_H f_I f_J f_K f_L).bind fun y1 =>
 some (decide (y1≥0))
def fS (n:Nat) (v:ai) (a:Int) (b:Int) (x:Event) (y:Event):Option Bool :=
 if (x.Addr != y.Addr)=true then
 some false
 else
 (bN n x).bind fun y2 =>
 if (!y2)=true then
 some false
 else
 (bN n y).bind fun y4 =>
 if (!y4)=true then
 some false
 else
 i5 v.c (
 none) fun z6 =>
 (au z6.la a).bind fun x8 =>
 i5 v.c (
 none) fun z9 =>
 (au z9.la b).bind fun x11 =>
 if (x8==x11)=true then
 some false
 else
 grd (decide ((0:Int)≤(ah .i64 a 1))&&decide ((ah .i64 a 1)≤b)&&decide (b≤(v.all.length:Int))) <|
 (bd n ((v.all.drop ((ah .i64 a 1)).toNat).take ((b).toNat - ((ah .i64 a 1)).toNat)) x.Hart x.At x.Kind x.Addr x.Load x.Store x.Aq x.Rl x.Pred x.Succ x.Pair x.dg.Addr x.dg.Data x.dg.Way).bind fun y14 =>
 some (!y14)
def fT (n:Nat) (v:ai) (a:Int) (b:Int) (x:Event) (y:Event):Option Bool :=
 if (x.Kind==4)=true then
 (bN n y).bind fun y2 =>
 if y2=true then
 i5 v.c (
 none) fun z4 =>
 (au z4.la b).bind fun x6 =>
 some (x6==a)
 else
 some false
 else
 if (x.Kind==5)=true then
 (bN n y).bind fun y3 =>
 if y3=true then
 i5 v.c (
 none) fun z5 =>
 (au z5.la b).bind fun x7 =>
 some (x7==a)
 else
 some false
 else
 some false
def iP (n:Nat) (e:Event):Option (List Int) :=
 (cr n e).bind fun y1 =>
 if y1=true then
 (bN n e).bind fun y3 =>
 if y3=true then
 grd (Nat.ble ((([0]:List Int).length + 1) * 8) 140737488355328) <|
 some (([0]:List Int)++([1]:List Int))
 else
 some ([0]:List Int)
 else
 (bN n e).bind fun y3 =>
 if y3=true then
 some ([1]:List Int)
 else
 some ([]:List Int)
def eF (n:Nat) (v:ai) (a:Int) (b:Int) (y2:(List Int)) (xa2:Int) (ya4:(List Int)) (sb:Int×Int):Option ((Int×Int)⊕(Int⊕Unit)) :=
 if (decide (sb.2<(ya4.length:Int)))=true then
 (au ya4 sb.2).bind fun xb2 =>
 if ((ah .i64 (nn .i64 2 xa2) xb2)==0)=true then
 (au v.fences.e0 b).bind fun xb4 =>
 (au v.fences.e0 a).bind fun xb5 =>
 if (decide (xb4>xb5))=true then
 some (.inr (.inr ()))
 else
 some (.inl (sb.1,(ah .i64 sb.2 1)))
 else
 if ((ah .i64 (nn .i64 2 xa2) xb2)==1)=true then
 (au v.fences.e1 b).bind fun xb4 =>
 (au v.fences.e1 a).bind fun xb5 =>
 if (decide (xb4>xb5))=true then
 some (.inr (.inr ()))
 else
 some (.inl (sb.1,(ah .i64 sb.2 1)))
 else
 if ((ah .i64 (nn .i64 2 xa2) xb2)==2)=true then
 (au v.fences.e2 b).bind fun xb4 =>
 (au v.fences.e2 a).bind fun xb5 =>
 if (decide (xb4>xb5))=true then
 some (.inr (.inr ()))
 else
 some (.inl (sb.1,(ah .i64 sb.2 1)))
 else
 if ((ah .i64 (nn .i64 2 xa2) xb2)==3)=true then
 (au v.fences.e3 b).bind fun xb4 =>
 (au v.fences.e3 a).bind fun xb5 =>
 if (decide (xb4>xb5))=true then
 some (.inr (.inr ()))
 else
 some (.inl (sb.1,(ah .i64 sb.2 1)))
 else
 none
 else
 some (.inr (.inl sb.1))
def eG (n:Nat) (v:ai) (a:Int) (b:Int) (y2:(List Int)) (sa:Int):Option (Int⊕(Unit⊕Unit)) :=
 if (decide (sa<(y2.length:Int)))=true then
 (au y2 sa).bind fun xa2 =>
 (au v.all b).bind fun xa3 =>
 (iP n xa3).bind fun ya4 =>
 (iter (fun s=>eF n v a b y2 xa2 ya4 s) n (sa,0)).bind fun ta5 =>
 match ta5 with
 | .inl wa6 =>
  some (.inl (ah .i64 wa6 1))
 | .inr wa6 =>
  some (.inr (.inr ()))
 else
 some (.inr (.inl ()))
def dN (n:Nat) (v:ai) (a:Int) (b:Int):Option Bool :=
 (au v.all a).bind fun x1 =>
 (iP n x1).bind fun y2 =>
 (iter (fun s=>eG n v a b y2 s) n 0).bind fun t3 =>
 match t3 with
 | .inl w4 =>
  some false
 | .inr w4 =>
  some true
def fU (n:Nat) (v:ai) (a:Int) (b:Int) (x:Event) (y:Event):Option Bool :=
 (dN n v a b).bind fun y1 =>
 some y1
def mC (n:Nat) (v:ai) (a:Int) (b:Int) (x:Event) (y:Event):Option Bool :=
 some x.Aq
def mD (n:Nat) (v:ai) (a:Int) (b:Int) (x:Event) (y:Event):Option Bool :=
 some y.Rl
def fV (n:Nat) (v:ai) (a:Int) (b:Int) (x:Event) (y:Event):Option Bool :=
 if x.Aq=true then
 if y.Aq=true then
 some true
 else
 some y.Rl
 else
 if x.Rl=true then
 if y.Aq=true then
 some true
 else
 some y.Rl
 else
 some false
def iQ (n:Nat) (v:ai) (a:Int) (b:Int) (x:Event) (y:Event):Option Bool :=
 if (y.Kind==4)=true then
 some (y.Pair==x.At)
 else
 some false
def cmp_isNaN_int (n:Nat) (x:Int):Option Bool :=
 some (x != x)
def cmp_Less_int (n:Nat) (x:Int) (y:Int):Option Bool :=
 (cmp_isNaN_int n x).bind fun y1 =>
 if y1=true then
 (cmp_isNaN_int n y).bind fun y3 =>
 if (!y3)=true then
 some true
 else
 some (decide (x<y))
 else
 some (decide (x<y))
def gS (n:Nat) (x:Int):Option Bool :=
 some (x != x)
def bE (n:Nat) (x:(List Int)) (target:Int) (sa:Int×Int):Option ((Int×Int)⊕Int) :=
 if (decide (sa.1<sa.2))=true then
 (au x (IntKind.wrap .i64 (iC .u64 (IntKind.wrap .u64 (ah .i64 sa.1 sa.2)) 1))).bind fun xa2 =>
 (cmp_Less_int n xa2 target).bind fun ya3 =>
 if ya3=true then
 some (.inl ((ah .i64 (IntKind.wrap .i64 (iC .u64 (IntKind.wrap .u64 (ah .i64 sa.1 sa.2)) 1)) 1),sa.2))
 else
 some (.inl (sa.1,(IntKind.wrap .i64 (iC .u64 (IntKind.wrap .u64 (ah .i64 sa.1 sa.2)) 1))))
 else
 some (.inr sa.1)
def bQ (n:Nat) (x:(List Int)) (target:Int):Option (Int×Bool) :=
 (iter (fun s=>bE n x target s) n (0,(x.length:Int))).bind fun t1 =>
 if (decide (t1<(x.length:Int)))=true then
 (au x t1).bind fun x3 =>
 if (x3==target)=true then
 some (t1,true)
 else
 (gS n x3).bind fun y5 =>
 if y5=true then
 (gS n target).bind fun y7 =>
 some (t1,y7)
 else
 some (t1,false)
 else
 some (t1,false)
def lO (n:Nat) (l:(List Int)) (at_:Int):Option Bool :=
 (bQ n l at_).bind fun y1 =>
 some y1.2
def fW (n:Nat) (v:ai) (a:Int) (b:Int) (x:Event) (y:Event):Option Bool :=
 (lO n y.dg.Addr x.At).bind fun y1 =>
 some y1
def eY (n:Nat) (v:ai) (a:Int) (b:Int) (x:Event) (y:Event):Option Bool :=
 (lO n y.dg.Data x.At).bind fun y1 =>
 some y1
def eZ (n:Nat) (v:ai) (a:Int) (b:Int) (x:Event) (y:Event):Option Bool :=
 (cr n y).bind fun y1 =>
 if y1=true then
 (lO n y.dg.Way x.At).bind fun y3 =>
 some y3
 else
 some false
def e_ (n:Nat) (v:ai) (a:Int) (b:Int) (x:Event) (y:Event):Option Bool :=
 i5 v.c (
 none) fun z1 =>
 (au z1.la b).bind fun x3 =>
 (bN n y).bind fun y4 =>
 if y4=true then
 if (decide (x3>a))=true then
 if (decide (x3<b))=true then
 (au v.all x3).bind fun x8 =>
 (lO n x8.dg.Addr x.At).bind fun y9 =>
 if y9=true then
 some true
 else
 (lO n x8.dg.Data x.At).bind fun y11 =>
 some y11
 else
 some false
 else
 some false
 else
 some false
def fc (n:Nat) (v:ai) (a:Int) (b:Int) (x:Event) (y:Event):Option Bool :=
 (cr n y).bind fun y1 =>
 if y1=true then
 (au v.hung a).bind fun x3 =>
 some (decide (x3<b))
 else
 some false
def fH (n:Nat) (v:ai) (a:Int) (b:Int) (sa:Int):Option (Int⊕(Unit⊕Int)) :=
 if (decide (sa<13))=true then
 if (sa==0)=true then
 (au v.all a).bind fun xa3 =>
 (au v.all b).bind fun xa4 =>
 (fR n v a b xa3 xa4).bind fun ya5 =>
 if ya5=true then
 some (.inr (.inr 1))
 else
 some (.inl 1)
 else
 if (sa==1)=true then
 (au v.all a).bind fun xa3 =>
 (au v.all b).bind fun xa4 =>
 (fS n v a b xa3 xa4).bind fun ya5 =>
 if ya5=true then
 some (.inr (.inr 2))
 else
 some (.inl 2)
 else
 if (sa==2)=true then
 (au v.all a).bind fun xa3 =>
 (au v.all b).bind fun xa4 =>
 (fT n v a b xa3 xa4).bind fun ya5 =>
 if ya5=true then
 some (.inr (.inr 3))
 else
 some (.inl 3)
 else
 if (sa==3)=true then
 (au v.all a).bind fun xa3 =>
 (au v.all b).bind fun xa4 =>
 (fU n v a b xa3 xa4).bind fun ya5 =>
 if ya5=true then
 some (.inr (.inr 4))
 else
 some (.inl 4)
 else
 if (sa==4)=true then
 (au v.all a).bind fun xa3 =>
 (au v.all b).bind fun xa4 =>
 (mC n v a b xa3 xa4).bind fun ya5 =>
 if ya5=true then
 some (.inr (.inr 5))
 else
 some (.inl 5)
 else
 if (sa==5)=true then
 (au v.all a).bind fun xa3 =>
 (au v.all b).bind fun xa4 =>
 (mD n v a b xa3 xa4).bind fun ya5 =>
 if ya5=true then
 some (.inr (.inr 6))
 else
 some (.inl 6)
 else
 if (sa==6)=true then
 (au v.all a).bind fun xa3 =>
 (au v.all b).bind fun xa4 =>
 (fV n v a b xa3 xa4).bind fun ya5 =>
 if ya5=true then
 some (.inr (.inr 7))
 else
 some (.inl 7)
 else
 if (sa==7)=true then
 (au v.all a).bind fun xa3 =>
 (au v.all b).bind fun xa4 =>
 (iQ n v a b xa3 xa4).bind fun ya5 =>
 if ya5=true then
 some (.inr (.inr 8))
 else
 some (.inl 8)
 else
 if (sa==8)=true then
 (au v.all a).bind fun xa3 =>
 (au v.all b).bind fun xa4 =>
 (fW n v a b xa3 xa4).bind fun ya5 =>
 if ya5=true then
 some (.inr (.inr 9))
 else
 some (.inl 9)
 else
 if (sa==9)=true then
 (au v.all a).bind fun xa3 =>
 (au v.all b).bind fun xa4 =>
 (eY n v a b xa3 xa4).bind fun ya5 =>
 if ya5=true then
 some (.inr (.inr 10))
 else
 some (.inl 10)
 else
 if (sa==10)=true then
 (au v.all a).bind fun xa3 =>
 (au v.all b).bind fun xa4 =>
 (eZ n v a b xa3 xa4).bind fun ya5 =>
 if ya5=true then
 some (.inr (.inr 11))
 else
 some (.inl 11)
 else
 if (sa==11)=true then
 (au v.all a).bind fun xa3 =>
 (au v.all b).bind fun xa4 =>
 (e_ n v a b xa3 xa4).bind fun ya5 =>
 if ya5=true then
 some (.inr (.inr 12))
 else
 some (.inl 12)
 else
 if (sa==12)=true then
 (au v.all a).bind fun xa3 =>
 (au v.all b).bind fun xa4 =>
 (fc n v a b xa3 xa4).bind fun ya5 =>
 if ya5=true then
 some (.inr (.inr 13))
 else
 some (.inl 13)
 else
 if (sa==13)=true then
 none
 else
 none
 else
 some (.inr (.inl ()))
def cM (n:Nat) (v:ai) (a:Int) (b:Int):Option Int :=
 (eE n v a b).bind fun y1 =>
 if (!y1)=true then
 some 0
 else
 (tU n).bind fun y3 =>
 (iter (fun s=>fH n v a b s) n 0).bind fun t4 =>
 match t4 with
 | .inl w5 =>
  some 0
 | .inr w5 =>
  some w5
def lm (n:Nat) (z2:ai) (xa2:Event) (sb:(List (b_ Int))×Int×Int×Int):Option (((List (b_ Int))×Int×Int×Int)⊕((List (b_ Int))×Int)) :=
 if (decide (sb.2.2.2<(z2.all.length:Int)))=true then
 (au z2.all sb.2.2.2).bind fun xb2 =>
 if (xb2.Hart==xa2.Hart)=true then
 (cM n z2 sb.2.2.1 sb.2.2.2).bind fun yb4 =>
 if (decide (yb4>0))=true then
 grd (Nat.ble ((sb.1.length + 1) * 16) 140737488355328) <|
 some (.inl ((sb.1++([(b_.mk sb.2.2.1 sb.2.2.2)]:List (b_ Int))),sb.2.1,sb.2.2.1,(ah .i64 sb.2.2.2 1)))
 else
 some (.inl (sb.1,sb.2.1,sb.2.2.1,(ah .i64 sb.2.2.2 1)))
 else
 some (.inr (sb.1,sb.2.1))
 else
 some (.inr (sb.1,sb.2.1))
def ln (n:Nat) (z2:ai) (sa:(List (b_ Int))×Int):Option (((List (b_ Int))×Int)⊕((List (b_ Int)))) :=
 if (decide (sa.2<(z2.all.length:Int)))=true then
 (au z2.all sa.2).bind fun xa2 =>
 (iter (fun s=>lm n z2 xa2 s) n (sa.1,sa.2,sa.2,(ah .i64 sa.2 1))).bind fun ta3 =>
 some (.inl (ta3.1,(ah .i64 ta3.2 1)))
 else
 some (.inr sa.1)
def lE (n:Nat) (c:af):Option (List (b_ Int)) :=
 (lN n c).bind fun y1 =>
 match y1 with
 | none =>
  some ([]:List (b_ Int))
 | some z2 =>
  (iter (fun s=>ln n z2 s) n (([]:List (b_ Int)),0)).bind fun t3 =>
  some t3
def iE (n:Nat):Option bg :=
 some (bg.mk true 0 (-1) (-1))
def dV (n:Nat) (oA:(List Cell)) (oB:(List (List Event))) (oC:(List Int)) (oD:(List Int)) (oE:(List (Int×(List Int)))) (oF:(List Event)) (oG:(List Int)) (y1:(List (b_ Int))) (sa:Int):Option (Int⊕(Unit⊕(Bool×Int×Int×Int))) :=
 if (decide (sa<(y1.length:Int)))=true then
 (au y1 sa).bind fun xa2 =>
 (au oG xa2.e0).bind fun xa3 =>
 (au oG xa2.e1).bind fun xa4 =>
 if (decide (xa3>xa4))=true then
 (eU n 2 xa2.e0 xa2.e1).bind fun ya6 =>
 some (.inr (.inr (ya6.OK,ya6.Why,ya6.A_,ya6.B)))
 else
 some (.inl (ah .i64 sa 1))
 else
 some (.inr (.inl ()))
def dQ (n:Nat) (oA:(List Cell)) (oB:(List (List Event))) (oC:(List Int)) (oD:(List Int)) (oE:(List (Int×(List Int)))) (oF:(List Event)) (oG:(List Int)):Option (Bool×Int×Int×Int) :=
 (lE n (af.mk oA oB oC oD)).bind fun y1 =>
 (iter (fun s=>dV n oA oB oC oD oE oF oG y1 s) n 0).bind fun t2 =>
 match t2 with
 | .inl w3 =>
  (iE n).bind fun y4 =>
  some (y4.OK,y4.Why,y4.A_,y4.B)
 | .inr w3 =>
  some (w3.1,w3.2.1,w3.2.2.1,w3.2.2.2)
def bU (n:Nat) (n_:Int) (oA:(List Cell)) (oB:(List (List Event))) (oC:(List Int)) (oD:(List Int)) (oE:(List (Int×(List Int)))) (oF:(List Event)) (oG:(List Int)) (x1:Event) (sa:(List Int)×Int):Option (((List Int)×Int)⊕(Unit⊕Int)) :=
 if (decide (sa.2≥0))=true then
 (au sa.1 sa.2).bind fun xa2 =>
 (au oF xa2).bind fun xa3 =>
 if (xa2 != n_)=true then
 (au oG xa2).bind fun xa5 =>
 (au oG n_).bind fun xa6 =>
 if (decide (xa5<xa6))=true then
 some (.inr (.inr xa2))
 else
 if (xa3.Hart==x1.Hart)=true then
 if (decide (xa3.At<x1.At))=true then
 some (.inr (.inr xa2))
 else
 some (.inl (sa.1,(dM .i64 sa.2 1)))
 else
 some (.inl (sa.1,(dM .i64 sa.2 1)))
 else
 some (.inl (sa.1,(dM .i64 sa.2 1)))
 else
 some (.inr (.inl ()))
def cz (n:Nat) (n_:Int) (oA:(List Cell)) (oB:(List (List Event))) (oC:(List Int)) (oD:(List Int)) (oE:(List (Int×(List Int)))) (oF:(List Event)) (oG:(List Int)):Option Int :=
 (au oF n_).bind fun x1 =>
 i5 (ll gl oE x1.Addr) (
 (iter (fun s=>bU n n_ oA oB oC oD oE oF oG x1 s) n (([]:List Int),(-1))).bind fun t3 =>
 match t3 with
 | .inl w4 =>
  some (-1)
 | .inr w4 =>
  some w4) fun z2 =>
 (iter (fun s=>bU n n_ oA oB oC oD oE oF oG x1 s) n (z2,(dM .i64 (z2.length:Int) 1))).bind fun t4 =>
 match t4 with
 | .inl w5 =>
  some (-1)
 | .inr w5 =>
  some w5
def dW (n:Nat) (oA:(List Cell)) (oB:(List (List Event))) (oC:(List Int)) (oD:(List Int)) (oE:(List (Int×(List Int)))) (oF:(List Event)) (oG:(List Int)) (sa:Int):Option (Int⊕(Unit⊕(Bool×Int×Int×Int))) :=
 if (decide (sa<(oF.length:Int)))=true then
 (au oF sa).bind fun xa2 =>
 (bN n xa2).bind fun ya3 =>
 if (!ya3)=true then
 some (.inl (ah .i64 sa 1))
 else
 (cz n sa oA oB oC oD oE oF oG).bind fun ya5 =>
 (au oC sa).bind fun xa6 =>
 if (ya5 != xa6)=true then
 (eU n 3 sa ya5).bind fun ya8 =>
 some (.inr (.inr (ya8.OK,ya8.Why,ya8.A_,ya8.B)))
 else
 some (.inl (ah .i64 sa 1))
 else
 some (.inr (.inl ()))
def dS (n:Nat) (oA:(List Cell)) (oB:(List (List Event))) (oC:(List Int)) (oD:(List Int)) (oE:(List (Int×(List Int)))) (oF:(List Event)) (oG:(List Int)):Option (Bool×Int×Int×Int) :=
 (iter (fun s=>dW n oA oB oC oD oE oF oG s) n 0).bind fun t1 =>
 match t1 with
 | .inl w2 =>
  (iE n).bind fun y3 =>
  some (y3.OK,y3.Why,y3.A_,y3.B)
 | .inr w2 =>
  some (w2.1,w2.2.1,w2.2.2.1,w2.2.2.2)
def bm (n:Nat) (oA:(List Cell)) (oB:(List (List Event))) (oC:(List Int)) (oD:(List Int)) (oE:(List (Int×(List Int)))) (oF:(List Event)) (oG:(List Int)) (xa2:Event) (sb:Int×Int×Int×Int×(List Int)×Int×Int):Option ((Int×Int×Int×Int×(List Int)×Int×Int)⊕(Int⊕(Bool×Int×Int×Int))) :=
 if (decide (sb.2.2.2.2.2.2<sb.2.2.2.2.2.1))=true then
 (au sb.2.2.2.2.1 sb.2.2.2.2.2.2).bind fun xb2 =>
 (au oG xb2).bind fun xb3 =>
 if (decide (xb3>sb.2.2.2.1))=true then
 (au oG sb.2.1).bind fun xb5 =>
 if (decide (xb3<xb5))=true then
 (au oF xb2).bind fun xb7 =>
 if (xb7.Hart != xa2.Hart)=true then
 (eU n 4 sb.2.2.1 xb2).bind fun yb9 =>
 some (.inr (.inr (yb9.OK,yb9.Why,yb9.A_,yb9.B)))
 else
 some (.inl (sb.1,sb.2.1,sb.2.2.1,sb.2.2.2.1,sb.2.2.2.2.1,sb.2.2.2.2.2.1,(ah .i64 sb.2.2.2.2.2.2 1)))
 else
 some (.inl (sb.1,sb.2.1,sb.2.2.1,sb.2.2.2.1,sb.2.2.2.2.1,sb.2.2.2.2.2.1,(ah .i64 sb.2.2.2.2.2.2 1)))
 else
 some (.inl (sb.1,sb.2.1,sb.2.2.1,sb.2.2.2.1,sb.2.2.2.2.1,sb.2.2.2.2.2.1,(ah .i64 sb.2.2.2.2.2.2 1)))
 else
 some (.inr (.inl sb.1))
def eQ (n:Nat) (oA:(List Cell)) (oB:(List (List Event))) (oC:(List Int)) (oD:(List Int)) (oE:(List (Int×(List Int)))) (oF:(List Event)) (oG:(List Int)) (sa:Int):Option (Int⊕(Unit⊕(Bool×Int×Int×Int))) :=
 if (decide (sa<(oF.length:Int)))=true then
 (au oF sa).bind fun xa2 =>
 if (xa2.Kind != 4)=true then
 some (.inl (ah .i64 sa 1))
 else
 (au oC (ah .i64 (dM .i64 sa xa2.At) xa2.Pair)).bind fun xa4 =>
 if (decide (xa4≥0))=true then
 (au oG xa4).bind fun xa6 =>
 (au oG sa).bind fun xa7 =>
 if (decide (xa6≥xa7))=true then
 (eU n 4 (ah .i64 (dM .i64 sa xa2.At) xa2.Pair) xa4).bind fun ya9 =>
 some (.inr (.inr (ya9.OK,ya9.Why,ya9.A_,ya9.B)))
 else
 i5 (ll gl oE xa2.Addr) (
 (iter (fun s=>bm n oA oB oC oD oE oF oG xa2 s) n (sa,sa,(ah .i64 (dM .i64 sa xa2.At) xa2.Pair),xa6,([]:List Int),0,0)).bind fun ta10 =>
 match ta10 with
 | .inl wa11 =>
  some (.inl (ah .i64 wa11 1))
 | .inr wa11 =>
  some (.inr (.inr (wa11.1,wa11.2.1,wa11.2.2.1,wa11.2.2.2)))) fun za9 =>
 (iter (fun s=>bm n oA oB oC oD oE oF oG xa2 s) n (sa,sa,(ah .i64 (dM .i64 sa xa2.At) xa2.Pair),xa6,za9,(za9.length:Int),0)).bind fun ta11 =>
 match ta11 with
 | .inl wa12 =>
  some (.inl (ah .i64 wa12 1))
 | .inr wa12 =>
  some (.inr (.inr (wa12.1,wa12.2.1,wa12.2.2.1,wa12.2.2.2)))
 else
 i5 (ll gl oE xa2.Addr) (
 (iter (fun s=>bm n oA oB oC oD oE oF oG xa2 s) n (sa,sa,(ah .i64 (dM .i64 sa xa2.At) xa2.Pair),(-1),([]:List Int),0,0)).bind fun ta7 =>
 match ta7 with
 | .inl wa8 =>
  some (.inl (ah .i64 wa8 1))
 | .inr wa8 =>
  some (.inr (.inr (wa8.1,wa8.2.1,wa8.2.2.1,wa8.2.2.2)))) fun za6 =>
 (iter (fun s=>bm n oA oB oC oD oE oF oG xa2 s) n (sa,sa,(ah .i64 (dM .i64 sa xa2.At) xa2.Pair),(-1),za6,(za6.length:Int),0)).bind fun ta8 =>
 match ta8 with
 | .inl wa9 =>
  some (.inl (ah .i64 wa9 1))
 | .inr wa9 =>
  some (.inr (.inr (wa9.1,wa9.2.1,wa9.2.2.1,wa9.2.2.2)))
 else
 some (.inr (.inl ()))
def eH (n:Nat) (oA:(List Cell)) (oB:(List (List Event))) (oC:(List Int)) (oD:(List Int)) (oE:(List (Int×(List Int)))) (oF:(List Event)) (oG:(List Int)):Option (Bool×Int×Int×Int) :=
 (iter (fun s=>eQ n oA oB oC oD oE oF oG s) n 0).bind fun t1 =>
 match t1 with
 | .inl w2 =>
  (iE n).bind fun y3 =>
  some (y3.OK,y3.Why,y3.A_,y3.B)
 | .inr w2 =>
  some (w2.1,w2.2.1,w2.2.2.1,w2.2.2.2)
def gI (n:Nat) (c:af):Option bg :=
 (iD n c.gc c.am c.la c.bt).bind fun y1 =>
 match y1 with
 | .inl wa2 =>
  (eU n 1 (-1) (-1)).bind fun y3 =>
  some y3
 | .inr wb2 =>
  (dQ n c.gc c.am c.la c.bt wb2.1 wb2.2.1 wb2.2.2).bind fun y3 =>
  if (!y3.1)=true then
  some (bg.mk y3.1 y3.2.1 y3.2.2.1 y3.2.2.2)
  else
  (dS n c.gc c.am c.la c.bt wb2.1 wb2.2.1 wb2.2.2).bind fun y5 =>
  if (!y5.1)=true then
  some (bg.mk y5.1 y5.2.1 y5.2.2.1 y5.2.2.2)
  else
  (eH n c.gc c.am c.la c.bt wb2.1 wb2.2.1 wb2.2.2).bind fun y7 =>
  if (!y7.1)=true then
  some (bg.mk y7.1 y7.2.1 y7.2.2.1 y7.2.2.2)
  else
  (iE n).bind fun y9 =>
  some y9
def rn (n:Nat) (j:bg):Option ByteArray:=if bg.beq j ⟨false,2,0,2⟩=true then some ⟨#[111,114,100,101,114,32,48,32,50]⟩ else none
def nr (n:Nat):Option Bool :=
 (mA n false).bind fun y1 =>
 (gI n y1).bind fun y2 =>
 if (bg.beq y2 (bg.mk true 0 (-1) (-1)))=true then
 (mA n true).bind fun y4 =>
 (gI n y4).bind fun y5 =>
 (rn n y5).bind fun y6 =>
 some (y6.toList==(ByteArray.mk #[111,114,100,101,114,32,48,32,50]).toList)
 else
 some false
def kq (n:Nat) (d:dg) (most:Int):Option Bool :=
 if (decide ((d.Addr.length:Int)≤most))=true then
 if (decide ((d.Data.length:Int)≤most))=true then
 some (decide ((d.Way.length:Int)≤most))
 else
 some false
 else
 some false
def fY (n:Nat) (l:(List Event)) (sa:Int):Option (Int⊕(Unit⊕Unit)) :=
 if (decide (sa<(l.length:Int)))=true then
 (au l sa).bind fun xa2 =>
 (kq n xa2.dg 60).bind fun ya3 =>
 if (!ya3)=true then
 some (.inr (.inr ()))
 else
 some (.inl (ah .i64 sa 1))
 else
 some (.inr (.inl ()))
def gp (n:Nat) (l:(List Event)) (most:Int):Option Bool :=
 if (decide ((l.length:Int)>most))=true then
 some false
 else
 (iter (fun s=>fY n l s) n 0).bind fun t2 =>
 match t2 with
 | .inl w3 =>
  some true
 | .inr w3 =>
  some false
def gT (n:Nat) (c:af) (most:Int) (sa:Int×Int):Option ((Int×Int)⊕(Int⊕Unit)) :=
 if (decide (sa.2<(c.am.length:Int)))=true then
 if (decide (sa.2<10))=true then
 (au c.am sa.2).bind fun xa3 =>
 (gp n xa3 most).bind fun ya4 =>
 if (!ya4)=true then
 some (.inr (.inr ()))
 else
 some (.inl ((ah .i64 sa.1 (xa3.length:Int)),(ah .i64 sa.2 1)))
 else
 some (.inr (.inl sa.1))
 else
 some (.inr (.inl sa.1))
def im (n:Nat) (c:af) (most:Int):Option Bool :=
 (iter (fun s=>gT n c most s) n (0,0)).bind fun t1 =>
 match t1 with
 | .inl w2 =>
  if (decide ((c.am.length:Int)≤9))=true then
  if (decide (w2≤most))=true then
  if (decide ((c.gc.length:Int)≤most))=true then
  if (decide ((c.la.length:Int)≤(nn .i64 2 most)))=true then
  some (decide ((c.bt.length:Int)≤(nn .i64 2 most)))
  else
  some false
  else
  some false
  else
  some false
  else
  some false
 | .inr w2 =>
  some false
def nt (n:Nat) (c:af):Option Bool :=
 (gI n c).bind fun y1 =>
 some y1.OK
def lq (n:Nat) (l:(List Cell)) (sa:Int):Option (Int⊕(Unit⊕Unit)) :=
 if (decide (sa<(l.length:Int)))=true then
 (au l sa).bind fun xa2 =>
 if ((gi .u64 xa2.Addr 8) != 0)=true then
 some (.inr (.inr ()))
 else
 if (decide (sa>0))=true then
 (au l (dM .i64 sa 1)).bind fun xa5 =>
 if (decide (xa5.Addr≥xa2.Addr))=true then
 some (.inr (.inr ()))
 else
 some (.inl (ah .i64 sa 1))
 else
 some (.inl (ah .i64 sa 1))
 else
 some (.inr (.inl ()))
def jR (n:Nat) (l:(List Cell)):Option Bool :=
 (iter (fun s=>lq n l s) n 0).bind fun t1 =>
 match t1 with
 | .inl w2 =>
  some true
 | .inr w2 =>
  some false
def dG (n:Nat) (e:Event):Option Bool :=
 if (e.Kind==1)=true then
 some true
 else
 if (e.Kind==3)=true then
 some true
 else
 some (e.Kind==5)
def cj (n:Nat) (e:Event):Option Bool :=
 if (e.Kind==2)=true then
 some true
 else
 if (e.Kind==4)=true then
 some true
 else
 some (e.Kind==5)
def eJ (n:Nat) (e:Event):Option Bool :=
 (dG n e).bind fun y1 =>
 if y1=true then
 some true
 else
 (cj n e).bind fun y3 =>
 some y3
def ed (n:Nat) (l:(List Int)) (sa:Int):Option (Int⊕(Unit⊕Unit)) :=
 if (decide (sa<(l.length:Int)))=true then
 (au l sa).bind fun xa2 =>
 if (decide (xa2<0))=true then
 some (.inr (.inr ()))
 else
 if (decide (sa>0))=true then
 (au l (dM .i64 sa 1)).bind fun xa5 =>
 if (decide (xa5≥xa2))=true then
 some (.inr (.inr ()))
 else
 some (.inl (ah .i64 sa 1))
 else
 some (.inl (ah .i64 sa 1))
 else
 some (.inr (.inl ()))
def lQ (n:Nat) (l:(List Int)):Option Bool :=
 (iter (fun s=>ed n l s) n 0).bind fun t1 =>
 match t1 with
 | .inl w2 =>
  some true
 | .inr w2 =>
  some false
def jS (n:Nat) (l:(List Int)) (at_:Int):Option Bool :=
 (lQ n l).bind fun y1 =>
 if y1=true then
 if ((l.length:Int)==0)=true then
 some true
 else
 (au l (dM .i64 (l.length:Int) 1)).bind fun x4 =>
 some (decide (x4<at_))
 else
 some false
def az (n:Nat) (sa:Bool):Option Int :=
 if (!sa)=true then
 some 2
 else
 some 0
def bK (n:Nat) (e:Event) (sd:Bool):Option Bool :=
 if sd=true then
 (jS n e.dg.Addr e.At).bind fun yd2 =>
 if yd2=true then
 (jS n e.dg.Data e.At).bind fun yd4 =>
 if yd4=true then
 (jS n e.dg.Way e.At).bind fun yd6 =>
 if yd6=true then
 (cj n e).bind fun yd8 =>
 if yd8=true then
 some true
 else
 some ((e.dg.Data.length:Int)==0)
 else
 some false
 else
 some false
 else
 some false
 else
 some false
def cq (n:Nat) (e:Event) (sb:Bool):Option Bool :=
 if sb=true then
 if (e.Kind==4)=true then
 if (decide (e.Pair≥0))=true then
 if (decide (e.Pair<e.At))=true then
 (bK n e true).bind fun tb5 =>
 some tb5
 else
 if (e.Kind != 4)=true then
 (bK n e (e.Pair==0)).bind fun tb6 =>
 some tb6
 else
 (bK n e false).bind fun tb6 =>
 some tb6
 else
 if (e.Kind != 4)=true then
 (bK n e (e.Pair==0)).bind fun tb5 =>
 some tb5
 else
 (bK n e false).bind fun tb5 =>
 some tb5
 else
 if (e.Kind != 4)=true then
 (bK n e (e.Pair==0)).bind fun tb4 =>
 some tb4
 else
 (bK n e false).bind fun tb4 =>
 some tb4
 else
 (bK n e false).bind fun tb2 =>
 some tb2
def aX (n:Nat) (e:Event) (sa:Bool):Option Bool :=
 if sa=true then
 if (e.Kind != 1)=true then
 if (e.Kind != 2)=true then
 (cq n e true).bind fun ta4 =>
 some ta4
 else
 if (!e.Aq)=true then
 (cq n e (!e.Rl)).bind fun ta5 =>
 some ta5
 else
 (cq n e false).bind fun ta5 =>
 some ta5
 else
 if (!e.Aq)=true then
 (cq n e (!e.Rl)).bind fun ta4 =>
 some ta4
 else
 (cq n e false).bind fun ta4 =>
 some ta4
 else
 (cq n e false).bind fun ta2 =>
 some ta2
def fw (n:Nat) (e:Event):Option Int :=
 if (decide (e.Hart≥0))=true then
 if (decide (e.Hart<8))=true then
 if (e.Kind==6)=true then
 if (decide (e.At≥0))=true then
 if (e.Addr==0)=true then
 if (e.Load==0)=true then
 if (e.Store==0)=true then
 if (!e.Aq)=true then
 if (!e.Rl)=true then
 if (e.Pair==0)=true then
 if ((ah .i64 (ah .i64 (e.dg.Addr.length:Int) (e.dg.Data.length:Int)) (e.dg.Way.length:Int))==0)=true then
 if (decide (e.Pred≥0))=true then
 if (decide (e.Pred≤15))=true then
 if (decide (e.Succ≥0))=true then
 (az n (decide (e.Succ≤15))).bind fun t15 =>
 some t15
 else
 (az n false).bind fun t15 =>
 some t15
 else
 (az n false).bind fun t14 =>
 some t14
 else
 (az n false).bind fun t13 =>
 some t13
 else
 (az n false).bind fun t12 =>
 some t12
 else
 (az n false).bind fun t11 =>
 some t11
 else
 (az n false).bind fun t10 =>
 some t10
 else
 (az n false).bind fun t9 =>
 some t9
 else
 (az n false).bind fun t8 =>
 some t8
 else
 (az n false).bind fun t7 =>
 some t7
 else
 (az n false).bind fun t6 =>
 some t6
 else
 (az n false).bind fun t5 =>
 some t5
 else
 if (decide (e.At≥0))=true then
 (eJ n e).bind fun y5 =>
 if y5=true then
 if ((gi .u64 e.Addr 8)==0)=true then
 (dG n e).bind fun y8 =>
 if y8=true then
 (cj n e).bind fun y10 =>
 if y10=true then
 if (e.Pred==0)=true then
 (aX n e (e.Succ==0)).bind fun t13 =>
 (az n t13).bind fun t14 =>
 some t14
 else
 (aX n e false).bind fun t13 =>
 (az n t13).bind fun t14 =>
 some t14
 else
 if (e.Store==0)=true then
 if (e.Pred==0)=true then
 (aX n e (e.Succ==0)).bind fun t14 =>
 (az n t14).bind fun t15 =>
 some t15
 else
 (aX n e false).bind fun t14 =>
 (az n t14).bind fun t15 =>
 some t15
 else
 (aX n e false).bind fun t13 =>
 (az n t13).bind fun t14 =>
 some t14
 else
 if (e.Load==0)=true then
 (cj n e).bind fun y11 =>
 if y11=true then
 if (e.Pred==0)=true then
 (aX n e (e.Succ==0)).bind fun t14 =>
 (az n t14).bind fun t15 =>
 some t15
 else
 (aX n e false).bind fun t14 =>
 (az n t14).bind fun t15 =>
 some t15
 else
 if (e.Store==0)=true then
 if (e.Pred==0)=true then
 (aX n e (e.Succ==0)).bind fun t15 =>
 (az n t15).bind fun t16 =>
 some t16
 else
 (aX n e false).bind fun t15 =>
 (az n t15).bind fun t16 =>
 some t16
 else
 (aX n e false).bind fun t14 =>
 (az n t14).bind fun t15 =>
 some t15
 else
 (aX n e false).bind fun t11 =>
 (az n t11).bind fun t12 =>
 some t12
 else
 (aX n e false).bind fun t8 =>
 (az n t8).bind fun t9 =>
 some t9
 else
 (aX n e false).bind fun t7 =>
 (az n t7).bind fun t8 =>
 some t8
 else
 (aX n e false).bind fun t5 =>
 (az n t5).bind fun t6 =>
 some t6
 else
 if (e.Kind==6)=true then
 (az n false).bind fun t4 =>
 some t4
 else
 (aX n e false).bind fun t4 =>
 (az n t4).bind fun t5 =>
 some t5
 else
 if (e.Kind==6)=true then
 (az n false).bind fun t3 =>
 some t3
 else
 (aX n e false).bind fun t3 =>
 (az n t3).bind fun t4 =>
 some t4
def lR (n:Nat) (hart:Int) (l:(List Event)) (xa2:Event) (xa8:Event) (sb:Int×Bool×Int×Int):Option ((Int×Bool×Int×Int)⊕((Int×Bool×Int)⊕Unit)) :=
 if (decide (sb.2.2.2<sb.2.2.1))=true then
 (au l sb.2.2.2).bind fun xb2 =>
 if (xb2.Kind==3)=true then
 some (.inr (.inr ()))
 else
 if (xb2.Kind==4)=true then
 some (.inr (.inr ()))
 else
 some (.inl (sb.1,sb.2.1,sb.2.2.1,(ah .i64 sb.2.2.2 1)))
 else
 some (.inr (.inl (sb.1,sb.2.1,sb.2.2.1)))
def lS (n:Nat) (hart:Int) (l:(List Event)) (sa:Int):Option (Int⊕(Unit⊕Unit)) :=
 if (decide (sa<(l.length:Int)))=true then
 (au l sa).bind fun xa2 =>
 (fw n xa2).bind fun ya3 =>
 if (ya3 != 0)=true then
 some (.inr (.inr ()))
 else
 if (xa2.Hart != hart)=true then
 some (.inr (.inr ()))
 else
 if (xa2.At != sa)=true then
 some (.inr (.inr ()))
 else
 if (xa2.Kind != 4)=true then
 some (.inl (ah .i64 sa 1))
 else
 (au l xa2.Pair).bind fun xa8 =>
 if (xa8.Kind != 3)=true then
 some (.inr (.inr ()))
 else
 if (xa8.Addr != xa2.Addr)=true then
 some (.inr (.inr ()))
 else
 (iter (fun s=>lR n hart l xa2 xa8 s) n (sa,(xa2.At != sa),sa,(ah .i64 xa2.Pair 1))).bind fun ta11 =>
 match ta11 with
 | .inl wa12 =>
  some (.inl (ah .i64 wa12.2.2 1))
 | .inr wa12 =>
  some (.inr (.inr ()))
 else
 some (.inr (.inl ()))
def mE (n:Nat) (hart:Int) (l:(List Event)):Option Int :=
 (iter (fun s=>lS n hart l s) n 0).bind fun t1 =>
 match t1 with
 | .inl w2 =>
  some 0
 | .inr w2 =>
  some 4
def po (n:Nat) (d:dg):Option dg :=
 grd (Nat.ble (d.Addr.length * 8) 140737488355328) <|
 grd (Nat.ble (d.Data.length * 8) 140737488355328) <|
 grd (Nat.ble (d.Way.length * 8) 140737488355328) <|
 some d
def mF (n:Nat) (c:af) (sb:(List Event)×Int×Int):Option (((List Event)×Int×Int)⊕((List Event)×Int)) :=
 (au c.am sb.2.1).bind fun xb1 =>
 if (decide (sb.2.2<(xb1.length:Int)))=true then
 (au xb1 sb.2.2).bind fun xb3 =>
 (po n xb3.dg).bind fun yb4 =>
 grd (Nat.ble ((sb.1.length + 1) * 152) 140737488355328) <|
 some (.inl ((sb.1++([(Event.mk xb3.Hart xb3.At xb3.Kind xb3.Addr xb3.Load xb3.Store xb3.Aq xb3.Rl xb3.Pred xb3.Succ xb3.Pair yb4)]:List Event)),sb.2.1,(ah .i64 sb.2.2 1)))
 else
 some (.inr (sb.1,sb.2.1))
def mG (n:Nat) (c:af) (sa:(List Event)×Int):Option (((List Event)×Int)⊕((List Event))) :=
 if (decide (sa.2<(c.am.length:Int)))=true then
 (iter (fun s=>mF n c s) n (sa.1,sa.2,0)).bind fun ta2 =>
 some (.inl (ta2.1,(ah .i64 ta2.2 1)))
 else
 some (.inr sa.1)
def kD (n:Nat) (c:af):Option (List Event) :=
 (iter (fun s=>mG n c s) n (([]:List Event),0)).bind fun t1 =>
 some t1
def lu (n:Nat) (l:(List Cell)) (addr:Int) (sa:Int):Option (Int⊕(Unit⊕Int)) :=
 if (decide (sa<(l.length:Int)))=true then
 (au l sa).bind fun xa2 =>
 if (xa2.Addr==addr)=true then
 some (.inr (.inr xa2.Value))
 else
 some (.inl (ah .i64 sa 1))
 else
 some (.inr (.inl ()))
def lF (n:Nat) (l:(List Cell)) (addr:Int):Option Int :=
 (iter (fun s=>lu n l addr s) n 0).bind fun t1 =>
 match t1 with
 | .inl w2 =>
  some 0
 | .inr w2 =>
  some w2
def cO (n:Nat) (c:af) (all:(List Event)) (n_:Int):Option Bool :=
 (au all n_).bind fun x1 =>
 (au c.la n_).bind fun x2 =>
 (dG n x1).bind fun y3 =>
 if (!y3)=true then
 some (x2==(-1))
 else
 if (x2==(-1))=true then
 (lF n c.gc x1.Addr).bind fun y6 =>
 some (x1.Load==y6)
 else
 if (decide (x2<0))=true then
 some false
 else
 if (decide (x2≥(all.length:Int)))=true then
 some false
 else
 if (x2==n_)=true then
 some false
 else
 (au all x2).bind fun x9 =>
 (cj n x9).bind fun y10 =>
 if y10=true then
 if (x9.Addr==x1.Addr)=true then
 some (x9.Store==x1.Load)
 else
 some false
 else
 some false
def i_ (n:Nat) (c:af) (sa:Int×Int):Option ((Int×Int)⊕(Int⊕Unit)) :=
 if (decide (sa.2<(c.am.length:Int)))=true then
 (au c.am sa.2).bind fun xa2 =>
 if (decide ((ah .i64 sa.1 (xa2.length:Int))>4096))=true then
 some (.inr (.inr ()))
 else
 (mE n sa.2 xa2).bind fun ya4 =>
 if (ya4 != 0)=true then
 some (.inr (.inr ()))
 else
 some (.inl ((ah .i64 sa.1 (xa2.length:Int)),(ah .i64 sa.2 1)))
 else
 some (.inr (.inl sa.1))
def jc (n:Nat) (c:af) (w6:Int) (y7:(List Event)) (sa:Int×Int):Option ((Int×Int)⊕(Int⊕Unit)) :=
 if (decide (sa.2<w6))=true then
 (cO n c y7 sa.2).bind fun ya2 =>
 if (!ya2)=true then
 some (.inr (.inr ()))
 else
 (au y7 sa.2).bind fun xa4 =>
 (eJ n xa4).bind fun ya5 =>
 if ya5=true then
 some (.inl ((ah .i64 sa.1 1),(ah .i64 sa.2 1)))
 else
 some (.inl (sa.1,(ah .i64 sa.2 1)))
 else
 some (.inr (.inl sa.1))
def jd (n:Nat) (c:af) (w6:Int) (y7:(List Event)) (w10:Int) (sa:(List Bool)×Int):Option (((List Bool)×Int)⊕(Unit⊕Unit)) :=
 if (decide (sa.2<(c.bt.length:Int)))=true then
 (au c.bt sa.2).bind fun xa2 =>
 if (decide (xa2<0))=true then
 some (.inr (.inr ()))
 else
 if (decide (xa2≥w6))=true then
 some (.inr (.inr ()))
 else
 (au sa.1 xa2).bind fun xa5 =>
 if xa5=true then
 some (.inr (.inr ()))
 else
 (au y7 xa2).bind fun xa7 =>
 (eJ n xa7).bind fun ya8 =>
 if (!ya8)=true then
 some (.inr (.inr ()))
 else
 some (.inl ((sa.1.set (xa2).toNat true),(ah .i64 sa.2 1)))
 else
 some (.inr (.inl ()))
def eV (n:Nat) (c:af):Option Int :=
 (jR n c.gc).bind fun y1 =>
 if (!y1)=true then
 some 2
 else
 if (decide ((c.am.length:Int)<1))=true then
 some 2
 else
 if (decide ((c.am.length:Int)>8))=true then
 some 2
 else
 (iter (fun s=>i_ n c s) n (0,0)).bind fun t5 =>
 match t5 with
 | .inl w6 =>
  (kD n c).bind fun y7 =>
  if ((c.la.length:Int) != w6)=true then
  some 2
  else
  (iter (fun s=>jc n c w6 y7 s) n (0,0)).bind fun t9 =>
  match t9 with
  | .inl w10 =>
   grd (decide ((0:Int)≤w6)&&decide (w6≤w6)&&decide (1 * w6≤140737488355328)&&decide (w6≤140737488355328)&&Nat.blt 0 1) <|
   (iter (fun s=>jd n c w6 y7 w10 s) n ((List.replicate (w6).toNat false),0)).bind fun t12 =>
   match t12 with
   | .inl w13 =>
    if ((c.bt.length:Int) != w10)=true then
    some 2
    else
    some 0
   | .inr w13 =>
    some 2
  | .inr w10 =>
   some 2
 | .inr w6 =>
  some 2
def kr (n:Nat) (c:af) (sa:(List Int)×Int):Option (((List Int)×Int)⊕((List Int))) :=
 if (decide (sa.2<(sa.1.length:Int)))=true then
 (au sa.1 sa.2).bind fun xa2 =>
 some (.inl ((sa.1.set (sa.2).toNat (-1)),(ah .i64 sa.2 1)))
 else
 some (.inr sa.1)
def ku (n:Nat) (c:af) (sa:(List Int)×Int):Option (((List Int)×Int)⊕((List Int))) :=
 if (decide (sa.2<(c.bt.length:Int)))=true then
 (au c.bt sa.2).bind fun xa2 =>
 (au sa.1 xa2).bind fun xa3 =>
 some (.inl ((sa.1.set (xa2).toNat sa.2),(ah .i64 sa.2 1)))
 else
 some (.inr sa.1)
def lT (n:Nat) (c:af):Option (List Int) :=
 (eV n c).bind fun y1 =>
 if (y1 != 0)=true then
 some ([]:List Int)
 else
 grd (decide ((0:Int)≤(c.la.length:Int))&&decide ((c.la.length:Int)≤(c.la.length:Int))&&decide (8 * (c.la.length:Int)≤140737488355328)&&decide ((c.la.length:Int)≤140737488355328)&&Nat.blt 0 1) <|
 (iter (fun s=>kr n c s) n ((List.replicate ((c.la.length:Int)).toNat 0),0)).bind fun t4 =>
 (iter (fun s=>ku n c s) n (t4,0)).bind fun t5 =>
 some t5
def sC (n:Nat) (c:af):Option (List Event) :=
 (eV n c).bind fun y1 =>
 if (y1 != 0)=true then
 some ([]:List Event)
 else
 (kD n c).bind fun y3 =>
 some y3
def tV (n:Nat) (c:af):Option (ac×Bool) :=
 (sC n c).bind fun y1 =>
 (eV n c).bind fun y2 =>
 some ((ac.mk c y1),(y2==0))
def bX (n:Nat) (v:ac) (a:Int) (b:Int):Option Bool :=
 if (decide (a<0))=true then
 some false
 else
 if (decide (b<0))=true then
 some false
 else
 if (decide (a≥(v.All.length:Int)))=true then
 some false
 else
 if (decide (b≥(v.All.length:Int)))=true then
 some false
 else
 (au v.All a).bind fun x5 =>
 (au v.All b).bind fun x6 =>
 if (x5.Hart==x6.Hart)=true then
 if (decide (x5.At<x6.At))=true then
 (eJ n x5).bind fun y9 =>
 if y9=true then
 (eJ n x6).bind fun y11 =>
 some y11
 else
 some false
 else
 some false
 else
 some false
def nu (n:Nat) (part:Int) (e:Event):Option Bool :=
 if ((gi .i64 (lj .i64 part 2) 2)==1)=true then
 (dG n e).bind fun y2 =>
 if y2=true then
 some true
 else
 if ((gi .i64 (lj .i64 part 1) 2)==1)=true then
 (cj n e).bind fun y5 =>
 some y5
 else
 some false
 else
 if ((gi .i64 (lj .i64 part 1) 2)==1)=true then
 (cj n e).bind fun y3 =>
 some y3
 else
 some false
def qv (n:Nat) (l:(List Int)) (n_:Int) (sa:Int):Option (Int⊕(Unit⊕Unit)) :=
 if (decide (sa<(l.length:Int)))=true then
 (au l sa).bind fun xa2 =>
 if (xa2==n_)=true then
 some (.inr (.inr ()))
 else
 some (.inl (ah .i64 sa 1))
 else
 some (.inr (.inl ()))
def mZ (n:Nat) (l:(List Int)) (n_:Int):Option Bool :=
 (iter (fun s=>qv n l n_ s) n 0).bind fun t1 =>
 match t1 with
 | .inl w2 =>
  some false
 | .inr w2 =>
  some true
def fe (n:Nat) (v:ac) (a:Int) (b:Int) (x3:Event) (x4:Event) (sa:Int):Option (Int⊕(Unit⊕Unit)) :=
 if (decide (sa<b))=true then
 (au v.All sa).bind fun xa2 =>
 (cj n xa2).bind fun ya3 =>
 if ya3=true then
 if (xa2.Addr==x3.Addr)=true then
 some (.inr (.inr ()))
 else
 some (.inl (ah .i64 sa 1))
 else
 some (.inl (ah .i64 sa 1))
 else
 some (.inr (.inl ()))
def ff (n:Nat) (v:ac) (b:Int) (x3:Event) (x4:Event) (sa:Int):Option (Int⊕(Unit⊕Unit)) :=
 if (decide (sa<b))=true then
 (au v.All sa).bind fun xa2 =>
 if (xa2.Kind==6)=true then
 (nu n xa2.Pred x3).bind fun ya4 =>
 if ya4=true then
 (nu n xa2.Succ x4).bind fun ya6 =>
 if ya6=true then
 some (.inr (.inr ()))
 else
 some (.inl (ah .i64 sa 1))
 else
 some (.inl (ah .i64 sa 1))
 else
 some (.inl (ah .i64 sa 1))
 else
 some (.inr (.inl ()))
def fg (n:Nat) (v:ac) (b:Int) (x3:Event) (x4:Event) (sa:Int):Option (Int⊕(Unit⊕Unit)) :=
 if (decide (sa<b))=true then
 (au v.All sa).bind fun xa2 =>
 (dG n x4).bind fun ya3 =>
 if ya3=true then
 (au v.C_.la b).bind fun xa5 =>
 if (xa5==sa)=true then
 (cj n xa2).bind fun ya7 =>
 if ya7=true then
 (mZ n xa2.dg.Addr x3.At).bind fun ya9 =>
 if ya9=true then
 some (.inr (.inr ()))
 else
 (mZ n xa2.dg.Data x3.At).bind fun ya11 =>
 if ya11=true then
 some (.inr (.inr ()))
 else
 some (.inl (ah .i64 sa 1))
 else
 some (.inl (ah .i64 sa 1))
 else
 some (.inl (ah .i64 sa 1))
 else
 some (.inl (ah .i64 sa 1))
 else
 some (.inr (.inl ()))
def fh (n:Nat) (v:ac) (b:Int) (x3:Event) (x4:Event) (sa:Int):Option (Int⊕(Unit⊕Unit)) :=
 if (decide (sa<b))=true then
 (au v.All sa).bind fun xa2 =>
 (cj n x4).bind fun ya3 =>
 if ya3=true then
 (eJ n xa2).bind fun ya5 =>
 if ya5=true then
 (mZ n xa2.dg.Addr x3.At).bind fun ya7 =>
 if ya7=true then
 some (.inr (.inr ()))
 else
 some (.inl (ah .i64 sa 1))
 else
 some (.inl (ah .i64 sa 1))
 else
 some (.inl (ah .i64 sa 1))
 else
 some (.inr (.inl ()))
def du (n:Nat) (v:ac) (a:Int) (b:Int) (rule:Int):Option Bool :=
 (bX n v a b).bind fun y1 =>
 if (!y1)=true then
 some false
 else
 (au v.All a).bind fun x3 =>
 (au v.All b).bind fun x4 =>
 if (rule==1)=true then
 (cj n x4).bind fun y6 =>
 if y6=true then
 some (x3.Addr==x4.Addr)
 else
 some false
 else
 if (rule==2)=true then
 (iter (fun s=>fe n v a b x3 x4 s) n (ah .i64 a 1)).bind fun t7 =>
 match t7 with
 | .inl w8 =>
  (dG n x3).bind fun y9 =>
  if y9=true then
  (dG n x4).bind fun y11 =>
  if y11=true then
  if (x3.Addr==x4.Addr)=true then
  (au v.C_.la a).bind fun x14 =>
  (au v.C_.la b).bind fun x15 =>
  some (x14 != x15)
  else
  some false
  else
  some false
  else
  some false
 | .inr w8 =>
  some false
 else
 if (rule==3)=true then
 if (x3.Kind==4)=true then
 (dG n x4).bind fun y9 =>
 if y9=true then
 (au v.C_.la b).bind fun x11 =>
 some (x11==a)
 else
 some false
 else
 if (x3.Kind==5)=true then
 (dG n x4).bind fun y10 =>
 if y10=true then
 (au v.C_.la b).bind fun x12 =>
 some (x12==a)
 else
 some false
 else
 some false
 else
 if (rule==4)=true then
 (iter (fun s=>ff n v b x3 x4 s) n (ah .i64 a 1)).bind fun t9 =>
 match t9 with
 | .inl w10 =>
  some false
 | .inr w10 =>
  some true
 else
 if (rule==5)=true then
 some x3.Aq
 else
 if (rule==6)=true then
 some x4.Rl
 else
 if (rule==7)=true then
 if x3.Aq=true then
 if x4.Aq=true then
 some true
 else
 some x4.Rl
 else
 if x3.Rl=true then
 if x4.Aq=true then
 some true
 else
 some x4.Rl
 else
 some false
 else
 if (rule==8)=true then
 if (x4.Kind==4)=true then
 some (x4.Pair==x3.At)
 else
 some false
 else
 if (rule==9)=true then
 (mZ n x4.dg.Addr x3.At).bind fun y14 =>
 some y14
 else
 if (rule==10)=true then
 (mZ n x4.dg.Data x3.At).bind fun y15 =>
 some y15
 else
 if (rule==11)=true then
 (cj n x4).bind fun y16 =>
 if y16=true then
 (mZ n x4.dg.Way x3.At).bind fun y18 =>
 some y18
 else
 some false
 else
 if (rule==12)=true then
 (iter (fun s=>fg n v b x3 x4 s) n (ah .i64 a 1)).bind fun t17 =>
 match t17 with
 | .inl w18 =>
  some false
 | .inr w18 =>
  some true
 else
 if (rule==13)=true then
 (iter (fun s=>fh n v b x3 x4 s) n (ah .i64 a 1)).bind fun t18 =>
 match t18 with
 | .inl w19 =>
  some false
 | .inr w19 =>
  some true
 else
 some false
def fI (n:Nat) (v:ac) (a:Int) (b:Int) (sa:Int):Option (Int⊕(Unit⊕Int)) :=
 if (decide (sa≤13))=true then
 (du n v a b sa).bind fun ya2 =>
 if ya2=true then
 some (.inr (.inr sa))
 else
 some (.inl (ah .i64 sa 1))
 else
 some (.inr (.inl ()))
def bL (n:Nat) (v:ac) (a:Int) (b:Int):Option Int :=
 (iter (fun s=>fI n v a b s) n 1).bind fun t1 =>
 match t1 with
 | .inl w2 =>
  some 0
 | .inr w2 =>
  some w2
def lv (n:Nat) (y1:ac×Bool) (sb:(List (b_ Int))×Int×Int):Option (((List (b_ Int))×Int×Int)⊕((List (b_ Int))×Int)) :=
 if (decide (sb.2.2<(y1.1.All.length:Int)))=true then
 (au y1.1.All sb.2.2).bind fun xb2 =>
 (au y1.1.All sb.2.1).bind fun xb3 =>
 if (xb2.Hart==xb3.Hart)=true then
 (bL n y1.1 sb.2.1 sb.2.2).bind fun yb5 =>
 if (decide (yb5>0))=true then
 grd (Nat.ble ((sb.1.length + 1) * 16) 140737488355328) <|
 some (.inl ((sb.1++([(b_.mk sb.2.1 sb.2.2)]:List (b_ Int))),sb.2.1,(ah .i64 sb.2.2 1)))
 else
 some (.inl (sb.1,sb.2.1,(ah .i64 sb.2.2 1)))
 else
 some (.inr (sb.1,sb.2.1))
 else
 some (.inr (sb.1,sb.2.1))
def je (n:Nat) (y1:ac×Bool) (sa:(List (b_ Int))×Int):Option (((List (b_ Int))×Int)⊕((List (b_ Int)))) :=
 if (decide (sa.2<(y1.1.All.length:Int)))=true then
 if y1.2=true then
 (iter (fun s=>lv n y1 s) n (sa.1,sa.2,(ah .i64 sa.2 1))).bind fun ta3 =>
 some (.inl (ta3.1,(ah .i64 ta3.2 1)))
 else
 some (.inr sa.1)
 else
 some (.inr sa.1)
def nv (n:Nat) (c:af):Option (List (b_ Int)) :=
 (tV n c).bind fun y1 =>
 (iter (fun s=>je n y1 s) n (([]:List (b_ Int)),0)).bind fun t2 =>
 some t2
def nw (n:Nat) (n_:Int) (m:Int):Option Int :=
 if (decide (m<1))=true then
 some 0
 else
 grd (decide (IntKind.i64=IntKind.i64)&&!(m==0)) <|
 if (decide ((gi .i64 n_ m)<0))=true then
 some (ah .i64 (gi .i64 n_ m) m)
 else
 some (gi .i64 n_ m)
def jf (n:Nat) (l:(List Cell)):Option (List Cell) :=
 grd (Nat.ble (l.length * 16) 140737488355328) <|
 some l
def gy (n:Nat) (l:(List Int)):Option Unit :=
 grd (Nat.ble (l.length * 8) 140737488355328) <|
 some ()
def fJ (n:Nat) (l:(List Int)) (oA:(List Int)):Option Unit :=
 grd (Nat.ble (l.length * 8) 140737488355328) <|
 some ()
def jg (n:Nat) (l:(List Int)) (oA:(List Int)) (oB:(List Int)):Option Unit :=
 grd (Nat.ble (l.length * 8) 140737488355328) <|
 some ()
def kE (n:Nat) (d:dg):Option dg :=
 (gy n d.Addr).bind fun y1 =>
 (fJ n d.Data d.Addr).bind fun y2 =>
 (jg n d.Way d.Addr d.Data).bind fun y3 =>
 some d
def jh (n:Nat) (e:Event):Option Event :=
 (kE n e.dg).bind fun y1 =>
 some (Event.mk e.Hart e.At e.Kind e.Addr e.Load e.Store e.Aq e.Rl e.Pred e.Succ e.Pair y1)
def gU (n:Nat) (l:(List Event)) (sa:(List Event)×Int):Option (((List Event)×Int)⊕((List Event))) :=
 if (decide (sa.2<(l.length:Int)))=true then
 (au l sa.2).bind fun xa2 =>
 (jh n xa2).bind fun ya3 =>
 grd (Nat.ble ((sa.1.length + 1) * 152) 140737488355328) <|
 some (.inl ((sa.1++([ya3]:List Event)),(ah .i64 sa.2 1)))
 else
 some (.inr sa.1)
def fx (n:Nat) (l:(List Event)):Option (List Event) :=
 (iter (fun s=>gU n l s) n (([]:List Event),0)).bind fun t1 =>
 some t1
def gV (n:Nat) (c:af) (y1:(List Cell)) (sa:(List (List Event))×Int):Option (((List (List Event))×Int)⊕((List (List Event)))) :=
 if (decide (sa.2<(c.am.length:Int)))=true then
 (au c.am sa.2).bind fun xa2 =>
 (fx n xa2).bind fun ya3 =>
 grd (Nat.ble ((sa.1.length + 1) * 24) 140737488355328) <|
 some (.inl ((sa.1++([ya3]:List (List Event))),(ah .i64 sa.2 1)))
 else
 some (.inr sa.1)
def io (n:Nat) (c:af):Option ((List Cell)×(List Int)×(List Int)×(List (List Event))) :=
 (jf n c.gc).bind fun y1 =>
 (gy n c.la).bind fun y2 =>
 (fJ n c.bt c.la).bind fun y3 =>
 (iter (fun s=>gV n c y1 s) n (([]:List (List Event)),0)).bind fun t4 =>
 some (y1,c.la,c.bt,t4)
def pq (n:Nat) (c:af) (a:Int) (b:Int):Option Int :=
 (tV n c).bind fun y1 =>
 if (!y1.2)=true then
 some 0
 else
 (bL n y1.1 a b).bind fun y3 =>
 some y3
def fZ (n:Nat) (c:af) (i:Int) (k:Int) (y8:(List Int)) (y9:(List (b_ Int))) (sa:Int):Option (Int⊕(Unit⊕Unit)) :=
 if (decide (sa<(y9.length:Int)))=true then
 (au y9 sa).bind fun xa2 =>
 (au y8 xa2.e0).bind fun xa3 =>
 (au y8 xa2.e1).bind fun xa4 =>
 if (decide (xa3≥xa4))=true then
 some (.inr (.inr ()))
 else
 some (.inl (ah .i64 sa 1))
 else
 some (.inr (.inl ()))
def gq (n:Nat) (c:af) (i:Int) (k:Int):Option Bool :=
 (nr n).bind fun y1 =>
 if (!y1)=true then
 some false
 else
 (im n c 30).bind fun y3 =>
 if (!y3)=true then
 some true
 else
 (nt n c).bind fun y5 =>
 if (!y5)=true then
 some true
 else
 if ((c.bt.length:Int)==0)=true then
 some true
 else
 (lT n c).bind fun y8 =>
 (nv n c).bind fun y9 =>
 (iter (fun s=>fZ n c i k y8 y9 s) n 0).bind fun t10 =>
 match t10 with
 | .inl w11 =>
  (nw n i (c.bt.length:Int)).bind fun y12 =>
  (nw n k (c.bt.length:Int)).bind fun y13 =>
  (au c.bt (lk y12 y13)).bind fun x14 =>
  (au c.bt (wI y12 y13)).bind fun x15 =>
  (io n c).bind fun y16 =>
  (au y16.2.2.1 (lk y12 y13)).bind fun x17 =>
  (au (y16.2.2.1.set ((lk y12 y13)).toNat x15) (wI y12 y13)).bind fun x18 =>
  (pq n c x14 x15).bind fun y19 =>
  if (y19==0)=true then
  some true
  else
  (nt n (af.mk y16.1 y16.2.2.2 y16.2.1 ((y16.2.2.1.set ((lk y12 y13)).toNat x15).set ((wI y12 y13)).toNat x14))).bind fun y21 =>
  some (!y21)
 | .inr w11 =>
  some false

end Go.Proofs.YtomahedcdcnnhaaGreatDoor
