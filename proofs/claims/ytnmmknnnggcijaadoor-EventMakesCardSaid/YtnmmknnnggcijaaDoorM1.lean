/- What the functions compute, as functions on lists and numbers. Printed by a program from the code; nothing is claimed here. -/
import Derived.Test.YtnmmknnnggcijaaDoorM0
namespace Go.Proofs.YtnmmknnnggcijaaDoor
open Go A
set_option linter.unusedVariables false

structure Ask where
  mk ::
  Kind:Int
  Addr:Int
  Value:Int
  Op:Int
  Aq:Bool
  Rl:Bool
  Pred:Int
  Succ:Int
structure Deps where
  mk ::
  Addr:(List Int)
  Data:(List Int)
  Way:(List Int)
structure Event where
  mk ::
  Hart:Int
  At:Int
  Kind:Int
  Addr:Int
  Load:Int
  Store:Int
  Aq:Bool
  Rl:Bool
  Pred:Int
  Succ:Int
  Pair:Int
  Deps:Deps
structure aP where
  mk ::
  hart:Int
  at_:Int
  kind:Int
  pred:Int
  succ:Int
  pair:Int
  addr:Int
  load:Int
  store:Int
  aq:Bool
  rl:Bool
def aP.beq (x y:aP):Bool:=((x.hart==y.hart)&&((x.at_==y.at_)&&((x.kind==y.kind)&&((x.pred==y.pred)&&((x.succ==y.succ)&&((x.pair==y.pair)&&((x.addr==y.addr)&&((x.load==y.load)&&((x.store==y.store)&&((x.aq==y.aq)&&(x.rl==y.rl)))))))))))
theorem aP.beq_eq {x y:aP} (h:aP.beq x y=true):x=y:=by
  obtain ⟨a1,a2,a3,a4,a5,a6,a7,a8,a9,a10,a11⟩:=x
  obtain ⟨b12,b13,GD,b15,GE,b17,b18,b19,b20,b21,b22⟩:=y
  unfold aP.beq at h
  simp only [Bool.and_eq_true,beq_iff_eq] at h
  simp_all
theorem aP.beq_refl (x:aP):aP.beq x x=true:=by
  unfold aP.beq
  simp
def Ask.wf (x:Ask):Prop:=(xn .i64 x.Kind)∧(xn .u64 x.Addr)∧(xn .u64 x.Value)∧(xn .i64 x.Op)∧(True)∧(True)∧(xn .i64 x.Pred)∧(xn .i64 x.Succ)
def Deps.wf (x:Deps):Prop:=(x.Addr.length≤maxLen∧∀ z∈x.Addr,xn .i64 z)∧(x.Data.length≤maxLen∧∀ z∈x.Data,xn .i64 z)∧(x.Way.length≤maxLen∧∀ z∈x.Way,xn .i64 z)
def qa (n:Nat):Option Bool:=some true
def jF (n:Nat) (n_:Int) (m:Int):Option Int :=
 if (decide (m<1))=true then
  some 0
 else
  grd (decide (IntKind.i64=IntKind.i64)&&!(m==0)) <|
  if (decide ((aM .i64 n_ m)<0))=true then
   some (av .i64 (aM .i64 n_ m) m)
  else
   some (aM .i64 n_ m)
def iM (n:Nat) (d:Deps) (most:Int):Option Bool :=
 if (decide ((d.Addr.length:Int)≤most))=true then
  if (decide ((d.Data.length:Int)≤most))=true then
   some (decide ((d.Way.length:Int)≤most))
  else
   some false
 else
  some false
def dn (n:Nat) (l:(List Int)) (sa:Int):Option (Int⊕(Unit⊕Unit)) :=
 if (decide (sa<(l.length:Int)))=true then
  (i4 l sa).bind fun xa2 =>
  if (decide (xa2<0))=true then
   some (.inr (.inr ()))
  else
   if (decide (sa>0))=true then
    (i4 l (aE .i64 sa 1)).bind fun xa5 =>
    if (decide (xa5≥xa2))=true then
     some (.inr (.inr ()))
    else
     some (.inl (av .i64 sa 1))
   else
    some (.inl (av .i64 sa 1))
 else
  some (.inr (.inl ()))
def k0 (n:Nat) (l:(List Int)):Option Bool :=
 (iter (fun s=>dn n l s) n 0).bind fun t1 =>
 match t1 with
 | .inl w2 =>
  some true
 | .inr w2 =>
  some false
def jn (n:Nat) (l:(List Int)) (at_:Int):Option Bool :=
 (k0 n l).bind fun y1 =>
 if y1=true then
  if ((l.length:Int)==0)=true then
   some true
  else
   (i4 l (aE .i64 (l.length:Int) 1)).bind fun x4 =>
   some (decide (x4<at_))
 else
  some false
def qb (n:Nat) (n_:Int) (from_:Int) (to_:Int):Option Int :=
 some (i5 from_ (kq n_ to_))
def j4 (n:Nat) (n_:Int) (sa:Int×Int):Option ((Int×Int)⊕Int) :=
 (qb n n_ 0 64).bind fun ya1 =>
 if (decide (sa.2<ya1))=true then
  some (.inl ((av .u64 (a_ .u64 sa.1 2) 1),(av .i64 sa.2 1)))
 else
  some (.inr sa.1)
def jG (n:Nat) (n_:Int):Option Int :=
 (iter (fun s=>j4 n n_ s) n (0,0)).bind fun t1 =>
 some t1
def jg (n:Nat) (x:Int) (n_:Int):Option Int :=
 (jG n n_).bind fun y1 =>
 some (aj .u64 x y1)
def mb (n:Nat) (x:Int) (from_:Int) (n_:Int):Option Int :=
 if (decide (from_>63))=true then
  some 0
 else
  grd (decide ((0:Int)≤(IntKind.wrap .u64 (i5 from_ 0)))) <|
  (jg n (ab .u64 x (IntKind.wrap .u64 (i5 from_ 0))) n_).bind fun y3 =>
  some y3
def o_ (n:Nat) (x:Int) (n_:Int):Option Int :=
 (qb n n_ 0 64).bind fun y1 =>
 if (y1==0)=true then
  (jg n x y1).bind fun y3 =>
  some (IntKind.wrap .i64 y3)
 else
  (mb n x (aE .i64 y1 1) 1).bind fun y3 =>
  if (y3==0)=true then
   (jg n x y1).bind fun y5 =>
   some (IntKind.wrap .i64 y5)
  else
   (jG n y1).bind fun y5 =>
   some (IntKind.wrap .i64 (CV .u64 x (xr .u64 y5)))
def dE (n:Nat) (x:Int):Option Int :=
 (o_ n x 32).bind fun y1 =>
 some (IntKind.wrap .u64 y1)
def f9:Nat→Int→Int→Int→Option (Int×Int)
| 0,_,_,_=>none
| n + 1,op,was,b =>
 if (decide (op<70))=true then
  some (0,2)
 else
  if (decide (op>87))=true then
   some (0,2)
  else
   if (decide (op<79))=true then
    (dE n was).bind fun y4 =>
    (dE n b).bind fun y5 =>
    (f9 n (av .i64 op 9) y4 y5).bind fun y6 =>
    (dE n y6.1).bind fun y7 =>
    some (y7,0)
   else
    if (op==79)=true then
     some (b,0)
    else
     if (op==80)=true then
      some ((av .u64 was b),0)
     else
      if (op==81)=true then
       some ((BH .u64 was b),0)
      else
       if (op==82)=true then
        some ((aj .u64 was b),0)
       else
        if (op==83)=true then
         some ((CV .u64 was b),0)
        else
         if (op==84)=true then
          some ((IntKind.wrap .u64 (kq (IntKind.wrap .i64 was) (IntKind.wrap .i64 b))),0)
         else
          if (op==85)=true then
           some ((IntKind.wrap .u64 (i5 (IntKind.wrap .i64 was) (IntKind.wrap .i64 b))),0)
          else
           if (op==86)=true then
            some ((kq was b),0)
           else
            some ((i5 was b),0)
def gw (n:Nat) (l:(List Int)):Option (List Int) :=
 grd (Nat.ble (l.length * 8) 140737488355328) <|
 some l
def iR (n:Nat) (d:Deps):Option Deps :=
 (gw n d.Addr).bind fun y1 =>
 (gw n d.Data).bind fun y2 =>
 (gw n d.Way).bind fun y3 =>
 some (Deps.mk y1 y2 y3)
def jo (n:Nat) (kind:Int):Option Int :=
 if (decide (kind<1))=true then
  some 0
 else
  if (decide (kind>6))=true then
   some 0
  else
   if (kind==0)=true then
    some 0
   else
    if (kind==1)=true then
     some 1
    else
     if (kind==2)=true then
      some 2
     else
      if (kind==3)=true then
       some 5
      else
       if (kind==4)=true then
        some 14
       else
        if (kind==5)=true then
         some 7
        else
         if (kind==6)=true then
          some 16
         else
          none
def cG (n:Nat) (e:Event):Option Bool :=
 (jo n e.Kind).bind fun y1 =>
 some ((aj .u64 y1 1) != 0)
def bq (n:Nat) (e:Event):Option Bool :=
 (jo n e.Kind).bind fun y1 =>
 some ((aj .u64 y1 2) != 0)
def dH (n:Nat) (e:Event):Option Bool :=
 (cG n e).bind fun y1 =>
 if y1=true then
  some true
 else
  (bq n e).bind fun y3 =>
  some y3
def b0 (n:Nat) (l:List Int):Option (List Int):=grd (Nat.ble (l.length * 8) 140737488355328) (some l)
def m4 (n:Nat) (d:Deps):Option Deps :=
 (b0 n d.Addr).bind fun y1 =>
 (b0 n d.Data).bind fun y2 =>
 (b0 n d.Way).bind fun y3 =>
 some (Deps.mk y1 y2 y3)
def aZ (n:Nat) (s1_:(List Int)) (s2_:(List Int)) (sa:Int):Option (Int⊕(Unit⊕Unit)) :=
 if (decide (sa<(s1_.length:Int)))=true then
  (i4 s1_ sa).bind fun xa2 =>
  (i4 s2_ sa).bind fun xa3 =>
  if (xa2 != xa3)=true then
   some (.inr (.inr ()))
  else
   some (.inl (av .i64 sa 1))
 else
  some (.inr (.inl ()))
def b6 (n:Nat) (s1_:(List Int)) (s2_:(List Int)):Option Bool :=
 if ((s1_.length:Int) != (s2_.length:Int))=true then
  some false
 else
  (iter (fun s=>aZ n s1_ s2_ s) n 0).bind fun t2 =>
  match t2 with
  | .inl w3 =>
   some true
  | .inr w3 =>
   some false
def jh (n:Nat) (e:Event):Option aP :=
 some (aP.mk e.Hart e.At e.Kind e.Pred e.Succ e.Pair e.Addr e.Load e.Store e.Aq e.Rl)
def k8 (n:Nat) (a:Event) (b:Event):Option Bool :=
 (b6 n a.Deps.Addr b.Deps.Addr).bind fun y1 =>
 if (!y1)=true then
  some false
 else
  (b6 n a.Deps.Data b.Deps.Data).bind fun y3 =>
  if (!y3)=true then
   some false
  else
   (b6 n a.Deps.Way b.Deps.Way).bind fun y5 =>
   if (!y5)=true then
    some false
   else
    (jh n a).bind fun y7 =>
    (jh n b).bind fun y8 =>
    if (aP.beq y7 y8)=true then
     some true
    else
     some false
def ck (n:Nat) (l:(List Int)) (sa:Int×Int):Option ((Int×Int)⊕(Unit⊕Unit)) :=
 if (decide (sa.2<(l.length:Int)))=true then
  (i4 l sa.2).bind fun xa2 =>
  if (decide (xa2≤sa.1))=true then
   some (.inr (.inr ()))
  else
   some (.inl (xa2,(av .i64 sa.2 1)))
 else
  some (.inr (.inl ()))
def ji (n:Nat) (l:(List Int)):Option Bool :=
 (iter (fun s=>ck n l s) n ((-1),0)).bind fun t1 =>
 match t1 with
 | .inl w2 =>
  some true
 | .inr w2 =>
  some false
def dI (n:Nat) (l:(List Int)) (at_:Int):Option Bool :=
 (ji n l).bind fun y1 =>
 if y1=true then
  if ((l.length:Int)==0)=true then
   some true
  else
   (i4 l (aE .i64 (l.length:Int) 1)).bind fun x4 =>
   some (decide (x4<at_))
 else
  some false
def cg (n:Nat) (e:Event) (y1:Int) (sf:Int×(List Int)×(List Int)×(List Int)×Int×Int×Int×Bool×Bool×Int×Int):Option Int :=
 if (y1==0)=true then
  some 2
 else
  if (decide (e.Hart<0))=true then
   some 2
  else
   if (decide (e.Hart≥8))=true then
    some 2
   else
    if (decide (e.At<0))=true then
     some 2
    else
     (k8 n (Event.mk e.Hart e.At e.Kind sf.2.2.2.2.1 sf.2.2.2.2.2.1 sf.2.2.2.2.2.2.1 sf.2.2.2.2.2.2.2.1 sf.2.2.2.2.2.2.2.2.1 sf.2.2.2.2.2.2.2.2.2.1 sf.2.2.2.2.2.2.2.2.2.2 sf.1 (Deps.mk sf.2.1 sf.2.2.1 sf.2.2.2.1)) e).bind fun yf5 =>
     if (!yf5)=true then
      some 2
     else
      if ((aM .u64 e.Addr 8) != 0)=true then
       some 2
      else
       if (decide (e.Pred<0))=true then
        some 2
       else
        if (decide (e.Pred>15))=true then
         some 2
        else
         if (decide (e.Succ<0))=true then
          some 2
         else
          if (decide (e.Succ>15))=true then
           some 2
          else
           if ((aj .u64 y1 8) != 0)=true then
            if (decide (e.Pair<0))=true then
             some 2
            else
             if (decide (e.Pair≥e.At))=true then
              some 2
             else
              (dI n e.Deps.Addr e.At).bind fun yf15 =>
              if (!yf15)=true then
               some 2
              else
               (dI n e.Deps.Data e.At).bind fun yf17 =>
               if (!yf17)=true then
                some 2
               else
                (dI n e.Deps.Way e.At).bind fun yf19 =>
                if (!yf19)=true then
                 some 2
                else
                 some 0
           else
            (dI n e.Deps.Addr e.At).bind fun yf13 =>
            if (!yf13)=true then
             some 2
            else
             (dI n e.Deps.Data e.At).bind fun yf15 =>
             if (!yf15)=true then
              some 2
             else
              (dI n e.Deps.Way e.At).bind fun yf17 =>
              if (!yf17)=true then
               some 2
              else
               some 0
def cH (n:Nat) (e:Event) (y1:Int) (se:(List Int)×(List Int)×(List Int)×Int×Int×Int×Bool×Bool×Int×Int):Option Int :=
 if ((aj .u64 y1 8) != 0)=true then
  (cg n e y1 (e.Pair,se.1,se.2.1,se.2.2.1,se.2.2.2.1,se.2.2.2.2.1,se.2.2.2.2.2.1,se.2.2.2.2.2.2.1,se.2.2.2.2.2.2.2.1,se.2.2.2.2.2.2.2.2.1,se.2.2.2.2.2.2.2.2.2)).bind fun te2 =>
  some te2
 else
  (cg n e y1 (0,se.1,se.2.1,se.2.2.1,se.2.2.2.1,se.2.2.2.2.1,se.2.2.2.2.2.1,se.2.2.2.2.2.2.1,se.2.2.2.2.2.2.2.1,se.2.2.2.2.2.2.2.2.1,se.2.2.2.2.2.2.2.2.2)).bind fun te2 =>
  some te2
def cI (n:Nat) (e:Event) (y1:Int) (sd:(List Int)×(List Int)×(List Int)×Int×Int×Int×Int×Int):Option Int :=
 if ((aj .u64 y1 4) != 0)=true then
  (cH n e y1 (sd.1,sd.2.1,sd.2.2.1,sd.2.2.2.1,sd.2.2.2.2.1,sd.2.2.2.2.2.1,e.Aq,e.Rl,sd.2.2.2.2.2.2.1,sd.2.2.2.2.2.2.2)).bind fun td2 =>
  some td2
 else
  (cH n e y1 (sd.1,sd.2.1,sd.2.2.1,sd.2.2.2.1,sd.2.2.2.2.1,sd.2.2.2.2.2.1,false,false,sd.2.2.2.2.2.2.1,sd.2.2.2.2.2.2.2)).bind fun td2 =>
  some td2
def cJ (n:Nat) (e:Event) (y1:Int) (sb:(List Int)×(List Int)×Int×Int×Int×Int):Option Int :=
 if ((aj .u64 y1 2) != 0)=true then
  (cI n e y1 (sb.1,e.Deps.Data,sb.2.1,sb.2.2.1,sb.2.2.2.1,e.Store,sb.2.2.2.2.1,sb.2.2.2.2.2)).bind fun tb2 =>
  some tb2
 else
  (cI n e y1 (sb.1,([]:List Int),sb.2.1,sb.2.2.1,sb.2.2.2.1,0,sb.2.2.2.2.1,sb.2.2.2.2.2)).bind fun tb2 =>
  some tb2
def cK (n:Nat) (e:Event) (y1:Int) (sa:(List Int)×(List Int)×Int×Int×Int):Option Int :=
 if ((aj .u64 y1 1) != 0)=true then
  (cJ n e y1 (sa.1,sa.2.1,sa.2.2.1,e.Load,sa.2.2.2.1,sa.2.2.2.2)).bind fun ta2 =>
  some ta2
 else
  (cJ n e y1 (sa.1,sa.2.1,sa.2.2.1,0,sa.2.2.2.1,sa.2.2.2.2)).bind fun ta2 =>
  some ta2
def eH (n:Nat) (e:Event):Option Int :=
 (jo n e.Kind).bind fun y1 =>
 if ((aj .u64 y1 16) != 0)=true then
  (cK n e y1 (([]:List Int),([]:List Int),0,e.Pred,e.Succ)).bind fun t3 =>
  some t3
 else
  (cK n e y1 (e.Deps.Addr,e.Deps.Way,e.Addr,0,0)).bind fun t3 =>
  some t3
def kL (n:Nat):Option Unit :=
 some ()
def im (n:Nat) (was:Int) (b:Int):Option Int :=
 some b
def jp (n:Nat):Option Unit :=
 some ()
def io (n:Nat) (was:Int) (b:Int):Option Int :=
 some (av .u64 was b)
def jq (n:Nat):Option Unit :=
 some ()
def ip (n:Nat) (was:Int) (b:Int):Option Int :=
 some (BH .u64 was b)
def jr (n:Nat):Option Unit :=
 some ()
def iq (n:Nat) (was:Int) (b:Int):Option Int :=
 some (aj .u64 was b)
def jt (n:Nat):Option Unit :=
 some ()
def ir (n:Nat) (was:Int) (b:Int):Option Int :=
 some (CV .u64 was b)
def ju (n:Nat):Option Unit :=
 some ()
def iu (n:Nat) (was:Int) (b:Int):Option Int :=
 some (IntKind.wrap .u64 (kq (IntKind.wrap .i64 was) (IntKind.wrap .i64 b)))
def jw (n:Nat):Option Unit :=
 some ()
def iv (n:Nat) (was:Int) (b:Int):Option Int :=
 some (IntKind.wrap .u64 (i5 (IntKind.wrap .i64 was) (IntKind.wrap .i64 b)))
def jx (n:Nat):Option Unit :=
 some ()
def iw (n:Nat) (was:Int) (b:Int):Option Int :=
 some (kq was b)
def jy (n:Nat):Option Unit :=
 some ()
def iy (n:Nat) (was:Int) (b:Int):Option Int :=
 some (i5 was b)
def nN (n:Nat) (n_:Int) (low:Int) (high:Int):Option Int :=
 some (kq (i5 n_ low) high)
def u_ (n:Nat) (x:Int) (n_:Int):Option Int :=
 (nN n n_ 0 64).bind fun y1 =>
 grd (decide ((0:Int)≤(aE .i64 64 y1))) <|
 grd (decide ((0:Int)≤(aE .i64 64 y1))) <|
 some (ab .i64 (IntKind.wrap .i64 (wb .u64 x (aE .i64 64 y1))) (aE .i64 64 y1))
def ap (n:Nat) (x:Int):Option Int :=
 (u_ n x 32).bind fun y1 =>
 some (IntKind.wrap .u64 y1)
def va (n:Nat) (n_:Int):Option Int :=
 (nN n n_ 0 64).bind fun y1 =>
 grd (decide ((0:Int)≤y1)) <|
 some (xr .u64 (wb .u64 18446744073709551615 y1))
def xu (n:Nat) (x:Int) (n_:Int):Option Int :=
 (va n n_).bind fun y1 =>
 some (aj .u64 x y1)
def ch (n:Nat) (x:Int):Option Int :=
 (xu n x 32).bind fun y1 =>
 some y1
def f_ (n:Nat) (op:Int) (was:Int) (b:Int):Option (Int×Int) :=
 if (decide (op≥79))=true then
  if (decide (op≤87))=true then
   if ((aE .i64 op 79)==0)=true then
    (kL n).bind fun y4 =>
    (im n was b).bind fun y5 =>
    some (y5,0)
   else
    if ((aE .i64 op 79)==1)=true then
     (jp n).bind fun y4 =>
     (io n was b).bind fun y5 =>
     some (y5,0)
    else
     if ((aE .i64 op 79)==2)=true then
      (jq n).bind fun y4 =>
      (ip n was b).bind fun y5 =>
      some (y5,0)
     else
      if ((aE .i64 op 79)==3)=true then
       (jr n).bind fun y4 =>
       (iq n was b).bind fun y5 =>
       some (y5,0)
      else
       if ((aE .i64 op 79)==4)=true then
        (jt n).bind fun y4 =>
        (ir n was b).bind fun y5 =>
        some (y5,0)
       else
        if ((aE .i64 op 79)==5)=true then
         (ju n).bind fun y4 =>
         (iu n was b).bind fun y5 =>
         some (y5,0)
        else
         if ((aE .i64 op 79)==6)=true then
          (jw n).bind fun y4 =>
          (iv n was b).bind fun y5 =>
          some (y5,0)
         else
          if ((aE .i64 op 79)==7)=true then
           (jx n).bind fun y4 =>
           (iw n was b).bind fun y5 =>
           some (y5,0)
          else
           if ((aE .i64 op 79)==8)=true then
            (jy n).bind fun y4 =>
            (iy n was b).bind fun y5 =>
            some (y5,0)
           else
            none
  else
   if (decide (op≥70))=true then
    if (decide (op≤78))=true then
     (ap n was).bind fun y5 =>
     (ap n b).bind fun y6 =>
     if (decide (op≥77))=true then
      (ch n was).bind fun y8 =>
      (ch n b).bind fun y9 =>
      if ((aE .i64 op 70)==0)=true then
       (kL n).bind fun y11 =>
       (im n y8 y9).bind fun y12 =>
       (ap n y12).bind fun y13 =>
       some (y13,0)
      else
       if ((aE .i64 op 70)==1)=true then
        (jp n).bind fun y11 =>
        (io n y8 y9).bind fun y12 =>
        (ap n y12).bind fun y13 =>
        some (y13,0)
       else
        if ((aE .i64 op 70)==2)=true then
         (jq n).bind fun y11 =>
         (ip n y8 y9).bind fun y12 =>
         (ap n y12).bind fun y13 =>
         some (y13,0)
        else
         if ((aE .i64 op 70)==3)=true then
          (jr n).bind fun y11 =>
          (iq n y8 y9).bind fun y12 =>
          (ap n y12).bind fun y13 =>
          some (y13,0)
         else
          if ((aE .i64 op 70)==4)=true then
           (jt n).bind fun y11 =>
           (ir n y8 y9).bind fun y12 =>
           (ap n y12).bind fun y13 =>
           some (y13,0)
          else
           if ((aE .i64 op 70)==5)=true then
            (ju n).bind fun y11 =>
            (iu n y8 y9).bind fun y12 =>
            (ap n y12).bind fun y13 =>
            some (y13,0)
           else
            if ((aE .i64 op 70)==6)=true then
             (jw n).bind fun y11 =>
             (iv n y8 y9).bind fun y12 =>
             (ap n y12).bind fun y13 =>
             some (y13,0)
            else
             if ((aE .i64 op 70)==7)=true then
              (jx n).bind fun y11 =>
              (iw n y8 y9).bind fun y12 =>
              (ap n y12).bind fun y13 =>
              some (y13,0)
             else
              if ((aE .i64 op 70)==8)=true then
               (jy n).bind fun y11 =>
               (iy n y8 y9).bind fun y12 =>
               (ap n y12).bind fun y13 =>
               some (y13,0)
              else
               none
     else
      if ((aE .i64 op 70)==0)=true then
       (kL n).bind fun y9 =>
       (im n y5 y6).bind fun y10 =>
       (ap n y10).bind fun y11 =>
       some (y11,0)
      else
       if ((aE .i64 op 70)==1)=true then
        (jp n).bind fun y9 =>
        (io n y5 y6).bind fun y10 =>
        (ap n y10).bind fun y11 =>
        some (y11,0)
       else
        if ((aE .i64 op 70)==2)=true then
         (jq n).bind fun y9 =>
         (ip n y5 y6).bind fun y10 =>
         (ap n y10).bind fun y11 =>
         some (y11,0)
        else
         if ((aE .i64 op 70)==3)=true then
          (jr n).bind fun y9 =>
          (iq n y5 y6).bind fun y10 =>
          (ap n y10).bind fun y11 =>
          some (y11,0)
         else
          if ((aE .i64 op 70)==4)=true then
           (jt n).bind fun y9 =>
           (ir n y5 y6).bind fun y10 =>
           (ap n y10).bind fun y11 =>
           some (y11,0)
          else
           if ((aE .i64 op 70)==5)=true then
            (ju n).bind fun y9 =>
            (iu n y5 y6).bind fun y10 =>
            (ap n y10).bind fun y11 =>
            some (y11,0)
           else
            if ((aE .i64 op 70)==6)=true then
             (jw n).bind fun y9 =>
             (iv n y5 y6).bind fun y10 =>
             (ap n y10).bind fun y11 =>
             some (y11,0)
            else
             if ((aE .i64 op 70)==7)=true then
              (jx n).bind fun y9 =>
              (iw n y5 y6).bind fun y10 =>
              (ap n y10).bind fun y11 =>
              some (y11,0)
             else
              if ((aE .i64 op 70)==8)=true then
               (jy n).bind fun y9 =>
               (iy n y5 y6).bind fun y10 =>
               (ap n y10).bind fun y11 =>
               some (y11,0)
              else
               none
    else
     some (0,2)
   else
    some (0,2)
 else
  if (decide (op≥70))=true then
   if (decide (op≤78))=true then
    (ap n was).bind fun y4 =>
    (ap n b).bind fun y5 =>
    if (decide (op≥77))=true then
     (ch n was).bind fun y7 =>
     (ch n b).bind fun y8 =>
     if ((aE .i64 op 70)==0)=true then
      (kL n).bind fun y10 =>
      (im n y7 y8).bind fun y11 =>
      (ap n y11).bind fun y12 =>
      some (y12,0)
     else
      if ((aE .i64 op 70)==1)=true then
       (jp n).bind fun y10 =>
       (io n y7 y8).bind fun y11 =>
       (ap n y11).bind fun y12 =>
       some (y12,0)
      else
       if ((aE .i64 op 70)==2)=true then
        (jq n).bind fun y10 =>
        (ip n y7 y8).bind fun y11 =>
        (ap n y11).bind fun y12 =>
        some (y12,0)
       else
        if ((aE .i64 op 70)==3)=true then
         (jr n).bind fun y10 =>
         (iq n y7 y8).bind fun y11 =>
         (ap n y11).bind fun y12 =>
         some (y12,0)
        else
         if ((aE .i64 op 70)==4)=true then
          (jt n).bind fun y10 =>
          (ir n y7 y8).bind fun y11 =>
          (ap n y11).bind fun y12 =>
          some (y12,0)
         else
          if ((aE .i64 op 70)==5)=true then
           (ju n).bind fun y10 =>
           (iu n y7 y8).bind fun y11 =>
           (ap n y11).bind fun y12 =>
           some (y12,0)
          else
           if ((aE .i64 op 70)==6)=true then
            (jw n).bind fun y10 =>
            (iv n y7 y8).bind fun y11 =>
            (ap n y11).bind fun y12 =>
            some (y12,0)
           else
            if ((aE .i64 op 70)==7)=true then
             (jx n).bind fun y10 =>
             (iw n y7 y8).bind fun y11 =>
             (ap n y11).bind fun y12 =>
             some (y12,0)
            else
             if ((aE .i64 op 70)==8)=true then
              (jy n).bind fun y10 =>
              (iy n y7 y8).bind fun y11 =>
              (ap n y11).bind fun y12 =>
              some (y12,0)
             else
              none
    else
     if ((aE .i64 op 70)==0)=true then
      (kL n).bind fun y8 =>
      (im n y4 y5).bind fun y9 =>
      (ap n y9).bind fun y10 =>
      some (y10,0)
     else
      if ((aE .i64 op 70)==1)=true then
       (jp n).bind fun y8 =>
       (io n y4 y5).bind fun y9 =>
       (ap n y9).bind fun y10 =>
       some (y10,0)
      else
       if ((aE .i64 op 70)==2)=true then
        (jq n).bind fun y8 =>
        (ip n y4 y5).bind fun y9 =>
        (ap n y9).bind fun y10 =>
        some (y10,0)
       else
        if ((aE .i64 op 70)==3)=true then
         (jr n).bind fun y8 =>
         (iq n y4 y5).bind fun y9 =>
         (ap n y9).bind fun y10 =>
         some (y10,0)
        else
         if ((aE .i64 op 70)==4)=true then
          (jt n).bind fun y8 =>
          (ir n y4 y5).bind fun y9 =>
          (ap n y9).bind fun y10 =>
          some (y10,0)
         else
          if ((aE .i64 op 70)==5)=true then
           (ju n).bind fun y8 =>
           (iu n y4 y5).bind fun y9 =>
           (ap n y9).bind fun y10 =>
           some (y10,0)
          else
           if ((aE .i64 op 70)==6)=true then
            (jw n).bind fun y8 =>
            (iv n y4 y5).bind fun y9 =>
            (ap n y9).bind fun y10 =>
            some (y10,0)
           else
            if ((aE .i64 op 70)==7)=true then
             (jx n).bind fun y8 =>
             (iw n y4 y5).bind fun y9 =>
             (ap n y9).bind fun y10 =>
             some (y10,0)
            else
             if ((aE .i64 op 70)==8)=true then
              (jy n).bind fun y8 =>
              (iy n y4 y5).bind fun y9 =>
              (ap n y9).bind fun y10 =>
              some (y10,0)
             else
              none
   else
    some (0,2)
  else
   some (0,2)
def eJ (n:Nat) (hart:Int) (at_:Int) (se:Int×(List Int)×(List Int)×(List Int)×Int×Int×Int×Int×Bool×Bool×Int×Int):Option (Int×Int×Int×(List Int)×(List Int)×(List Int)×Int×Int×Int×Int×Bool×Bool×Int×Int×Int) :=
 (eH n (Event.mk hart at_ se.2.2.2.2.1 se.2.2.2.2.2.1 se.2.2.2.2.2.2.1 se.2.2.2.2.2.2.2.1 se.2.2.2.2.2.2.2.2.1 se.2.2.2.2.2.2.2.2.2.1 se.2.2.2.2.2.2.2.2.2.2.1 se.2.2.2.2.2.2.2.2.2.2.2 se.1 (Deps.mk se.2.1 se.2.2.1 se.2.2.2.1))).bind fun ye1 =>
 if (ye1 != 0)=true then
  some (0,0,0,([]:List Int),([]:List Int),([]:List Int),0,0,0,0,false,false,0,0,ye1)
 else
  some (hart,at_,se.1,se.2.1,se.2.2.1,se.2.2.2.1,se.2.2.2.2.1,se.2.2.2.2.2.1,se.2.2.2.2.2.2.1,se.2.2.2.2.2.2.2.1,se.2.2.2.2.2.2.2.2.1,se.2.2.2.2.2.2.2.2.2.1,se.2.2.2.2.2.2.2.2.2.2.1,se.2.2.2.2.2.2.2.2.2.2.2,0)
def eK (n:Nat) (hart:Int) (at_:Int) (sd:Int×(List Int)×(List Int)×(List Int)×Int×Int×Int×Int×Bool×Bool×Int×Int):Option (Int×Int×Int×(List Int)×(List Int)×(List Int)×Int×Int×Int×Int×Bool×Bool×Int×Int×Int) :=
 (bq n (Event.mk hart at_ sd.2.2.2.2.1 sd.2.2.2.2.2.1 sd.2.2.2.2.2.2.1 sd.2.2.2.2.2.2.2.1 sd.2.2.2.2.2.2.2.2.1 sd.2.2.2.2.2.2.2.2.2.1 sd.2.2.2.2.2.2.2.2.2.2.1 sd.2.2.2.2.2.2.2.2.2.2.2 sd.1 (Deps.mk sd.2.1 sd.2.2.1 sd.2.2.2.1))).bind fun yd1 =>
 if (!yd1)=true then
  (eJ n hart at_ (sd.1,sd.2.1,([]:List Int),sd.2.2.2.1,sd.2.2.2.2.1,sd.2.2.2.2.2.1,sd.2.2.2.2.2.2.1,sd.2.2.2.2.2.2.2.1,sd.2.2.2.2.2.2.2.2.1,sd.2.2.2.2.2.2.2.2.2.1,sd.2.2.2.2.2.2.2.2.2.2.1,sd.2.2.2.2.2.2.2.2.2.2.2)).bind fun td3 =>
  some (td3.1,td3.2.1,td3.2.2.1,td3.2.2.2.1,td3.2.2.2.2.1,td3.2.2.2.2.2.1,td3.2.2.2.2.2.2.1,td3.2.2.2.2.2.2.2.1,td3.2.2.2.2.2.2.2.2.1,td3.2.2.2.2.2.2.2.2.2.1,td3.2.2.2.2.2.2.2.2.2.2.1,td3.2.2.2.2.2.2.2.2.2.2.2.1,td3.2.2.2.2.2.2.2.2.2.2.2.2.1,td3.2.2.2.2.2.2.2.2.2.2.2.2.2.1,td3.2.2.2.2.2.2.2.2.2.2.2.2.2.2)
 else
  (eJ n hart at_ (sd.1,sd.2.1,sd.2.2.1,sd.2.2.2.1,sd.2.2.2.2.1,sd.2.2.2.2.2.1,sd.2.2.2.2.2.2.1,sd.2.2.2.2.2.2.2.1,sd.2.2.2.2.2.2.2.2.1,sd.2.2.2.2.2.2.2.2.2.1,sd.2.2.2.2.2.2.2.2.2.2.1,sd.2.2.2.2.2.2.2.2.2.2.2)).bind fun td3 =>
  some (td3.1,td3.2.1,td3.2.2.1,td3.2.2.2.1,td3.2.2.2.2.1,td3.2.2.2.2.2.1,td3.2.2.2.2.2.2.1,td3.2.2.2.2.2.2.2.1,td3.2.2.2.2.2.2.2.2.1,td3.2.2.2.2.2.2.2.2.2.1,td3.2.2.2.2.2.2.2.2.2.2.1,td3.2.2.2.2.2.2.2.2.2.2.2.1,td3.2.2.2.2.2.2.2.2.2.2.2.2.1,td3.2.2.2.2.2.2.2.2.2.2.2.2.2.1,td3.2.2.2.2.2.2.2.2.2.2.2.2.2.2)
def eM (n:Nat) (hart:Int) (at_:Int) (found:Int) (sb:Int×(List Int)×(List Int)×(List Int)×Int×Int×Int×Bool×Bool×Int×Int):Option (Int×Int×Int×(List Int)×(List Int)×(List Int)×Int×Int×Int×Int×Bool×Bool×Int×Int×Int) :=
 (cG n (Event.mk hart at_ sb.2.2.2.2.1 sb.2.2.2.2.2.1 0 sb.2.2.2.2.2.2.1 sb.2.2.2.2.2.2.2.1 sb.2.2.2.2.2.2.2.2.1 sb.2.2.2.2.2.2.2.2.2.1 sb.2.2.2.2.2.2.2.2.2.2 sb.1 (Deps.mk sb.2.1 sb.2.2.1 sb.2.2.2.1))).bind fun yb1 =>
 if yb1=true then
  (eK n hart at_ (sb.1,sb.2.1,sb.2.2.1,sb.2.2.2.1,sb.2.2.2.2.1,sb.2.2.2.2.2.1,found,sb.2.2.2.2.2.2.1,sb.2.2.2.2.2.2.2.1,sb.2.2.2.2.2.2.2.2.1,sb.2.2.2.2.2.2.2.2.2.1,sb.2.2.2.2.2.2.2.2.2.2)).bind fun tb3 =>
  some (tb3.1,tb3.2.1,tb3.2.2.1,tb3.2.2.2.1,tb3.2.2.2.2.1,tb3.2.2.2.2.2.1,tb3.2.2.2.2.2.2.1,tb3.2.2.2.2.2.2.2.1,tb3.2.2.2.2.2.2.2.2.1,tb3.2.2.2.2.2.2.2.2.2.1,tb3.2.2.2.2.2.2.2.2.2.2.1,tb3.2.2.2.2.2.2.2.2.2.2.2.1,tb3.2.2.2.2.2.2.2.2.2.2.2.2.1,tb3.2.2.2.2.2.2.2.2.2.2.2.2.2.1,tb3.2.2.2.2.2.2.2.2.2.2.2.2.2.2)
 else
  (eK n hart at_ (sb.1,sb.2.1,sb.2.2.1,sb.2.2.2.1,sb.2.2.2.2.1,sb.2.2.2.2.2.1,0,sb.2.2.2.2.2.2.1,sb.2.2.2.2.2.2.2.1,sb.2.2.2.2.2.2.2.2.1,sb.2.2.2.2.2.2.2.2.2.1,sb.2.2.2.2.2.2.2.2.2.2)).bind fun tb3 =>
  some (tb3.1,tb3.2.1,tb3.2.2.1,tb3.2.2.2.1,tb3.2.2.2.2.1,tb3.2.2.2.2.2.1,tb3.2.2.2.2.2.2.1,tb3.2.2.2.2.2.2.2.1,tb3.2.2.2.2.2.2.2.2.1,tb3.2.2.2.2.2.2.2.2.2.1,tb3.2.2.2.2.2.2.2.2.2.2.1,tb3.2.2.2.2.2.2.2.2.2.2.2.1,tb3.2.2.2.2.2.2.2.2.2.2.2.2.1,tb3.2.2.2.2.2.2.2.2.2.2.2.2.2.1,tb3.2.2.2.2.2.2.2.2.2.2.2.2.2.2)
def bj (n:Nat) (hart:Int) (at_:Int) (a:Ask) (found:Int) (d:Deps) (sa:Int×Int×Int×Int×Int):Option (Int×Int×Int×(List Int)×(List Int)×(List Int)×Int×Int×Int×Int×Bool×Bool×Int×Int×Int) :=
 (dH n (Event.mk hart at_ sa.2.1 0 0 sa.2.2.1 false false sa.2.2.2.1 sa.2.2.2.2 sa.1 (Deps.mk ([]:List Int) ([]:List Int) ([]:List Int)))).bind fun ya1 =>
 if ya1=true then
  (m4 n d).bind fun ya3 =>
  (eM n hart at_ found (sa.1,ya3.Addr,ya3.Data,ya3.Way,sa.2.1,a.Addr,sa.2.2.1,a.Aq,a.Rl,sa.2.2.2.1,sa.2.2.2.2)).bind fun ta4 =>
  some (ta4.1,ta4.2.1,ta4.2.2.1,ta4.2.2.2.1,ta4.2.2.2.2.1,ta4.2.2.2.2.2.1,ta4.2.2.2.2.2.2.1,ta4.2.2.2.2.2.2.2.1,ta4.2.2.2.2.2.2.2.2.1,ta4.2.2.2.2.2.2.2.2.2.1,ta4.2.2.2.2.2.2.2.2.2.2.1,ta4.2.2.2.2.2.2.2.2.2.2.2.1,ta4.2.2.2.2.2.2.2.2.2.2.2.2.1,ta4.2.2.2.2.2.2.2.2.2.2.2.2.2.1,ta4.2.2.2.2.2.2.2.2.2.2.2.2.2.2)
 else
  (eM n hart at_ found (sa.1,([]:List Int),([]:List Int),([]:List Int),sa.2.1,0,sa.2.2.1,false,false,sa.2.2.2.1,sa.2.2.2.2)).bind fun ta3 =>
  some (ta3.1,ta3.2.1,ta3.2.2.1,ta3.2.2.2.1,ta3.2.2.2.2.1,ta3.2.2.2.2.2.1,ta3.2.2.2.2.2.2.1,ta3.2.2.2.2.2.2.2.1,ta3.2.2.2.2.2.2.2.2.1,ta3.2.2.2.2.2.2.2.2.2.1,ta3.2.2.2.2.2.2.2.2.2.2.1,ta3.2.2.2.2.2.2.2.2.2.2.2.1,ta3.2.2.2.2.2.2.2.2.2.2.2.2.1,ta3.2.2.2.2.2.2.2.2.2.2.2.2.2.1,ta3.2.2.2.2.2.2.2.2.2.2.2.2.2.2)
def kM (n:Nat) (hart:Int) (at_:Int) (a:Ask) (found:Int) (pair:Int) (d:Deps):Option (Event×Int) :=
 if (a.Kind==1)=true then
  (bj n hart at_ a found d (0,1,0,0,0)).bind fun t2 =>
  some ((Event.mk t2.1 t2.2.1 t2.2.2.2.2.2.2.1 t2.2.2.2.2.2.2.2.1 t2.2.2.2.2.2.2.2.2.1 t2.2.2.2.2.2.2.2.2.2.1 t2.2.2.2.2.2.2.2.2.2.2.1 t2.2.2.2.2.2.2.2.2.2.2.2.1 t2.2.2.2.2.2.2.2.2.2.2.2.2.1 t2.2.2.2.2.2.2.2.2.2.2.2.2.2.1 t2.2.2.1 (Deps.mk t2.2.2.2.1 t2.2.2.2.2.1 t2.2.2.2.2.2.1)),t2.2.2.2.2.2.2.2.2.2.2.2.2.2.2)
 else
  if (a.Kind==2)=true then
   (bj n hart at_ a found d (0,2,a.Value,0,0)).bind fun t3 =>
   some ((Event.mk t3.1 t3.2.1 t3.2.2.2.2.2.2.1 t3.2.2.2.2.2.2.2.1 t3.2.2.2.2.2.2.2.2.1 t3.2.2.2.2.2.2.2.2.2.1 t3.2.2.2.2.2.2.2.2.2.2.1 t3.2.2.2.2.2.2.2.2.2.2.2.1 t3.2.2.2.2.2.2.2.2.2.2.2.2.1 t3.2.2.2.2.2.2.2.2.2.2.2.2.2.1 t3.2.2.1 (Deps.mk t3.2.2.2.1 t3.2.2.2.2.1 t3.2.2.2.2.2.1)),t3.2.2.2.2.2.2.2.2.2.2.2.2.2.2)
  else
   if (a.Kind==3)=true then
    (bj n hart at_ a found d (0,3,0,0,0)).bind fun t4 =>
    some ((Event.mk t4.1 t4.2.1 t4.2.2.2.2.2.2.1 t4.2.2.2.2.2.2.2.1 t4.2.2.2.2.2.2.2.2.1 t4.2.2.2.2.2.2.2.2.2.1 t4.2.2.2.2.2.2.2.2.2.2.1 t4.2.2.2.2.2.2.2.2.2.2.2.1 t4.2.2.2.2.2.2.2.2.2.2.2.2.1 t4.2.2.2.2.2.2.2.2.2.2.2.2.2.1 t4.2.2.1 (Deps.mk t4.2.2.2.1 t4.2.2.2.2.1 t4.2.2.2.2.2.1)),t4.2.2.2.2.2.2.2.2.2.2.2.2.2.2)
   else
    if (a.Kind==4)=true then
     (bj n hart at_ a found d (pair,4,a.Value,0,0)).bind fun t5 =>
     some ((Event.mk t5.1 t5.2.1 t5.2.2.2.2.2.2.1 t5.2.2.2.2.2.2.2.1 t5.2.2.2.2.2.2.2.2.1 t5.2.2.2.2.2.2.2.2.2.1 t5.2.2.2.2.2.2.2.2.2.2.1 t5.2.2.2.2.2.2.2.2.2.2.2.1 t5.2.2.2.2.2.2.2.2.2.2.2.2.1 t5.2.2.2.2.2.2.2.2.2.2.2.2.2.1 t5.2.2.1 (Deps.mk t5.2.2.2.1 t5.2.2.2.2.1 t5.2.2.2.2.2.1)),t5.2.2.2.2.2.2.2.2.2.2.2.2.2.2)
    else
     if (a.Kind==5)=true then
      (f_ n a.Op found a.Value).bind fun y6 =>
      if (y6.2 != 0)=true then
       some ((Event.mk 0 0 0 0 0 0 false false 0 0 0 (Deps.mk ([]:List Int) ([]:List Int) ([]:List Int))),2)
      else
       (bj n hart at_ a found d (0,5,y6.1,0,0)).bind fun t8 =>
       some ((Event.mk t8.1 t8.2.1 t8.2.2.2.2.2.2.1 t8.2.2.2.2.2.2.2.1 t8.2.2.2.2.2.2.2.2.1 t8.2.2.2.2.2.2.2.2.2.1 t8.2.2.2.2.2.2.2.2.2.2.1 t8.2.2.2.2.2.2.2.2.2.2.2.1 t8.2.2.2.2.2.2.2.2.2.2.2.2.1 t8.2.2.2.2.2.2.2.2.2.2.2.2.2.1 t8.2.2.1 (Deps.mk t8.2.2.2.1 t8.2.2.2.2.1 t8.2.2.2.2.2.1)),t8.2.2.2.2.2.2.2.2.2.2.2.2.2.2)
     else
      if (a.Kind==6)=true then
       (bj n hart at_ a found d (0,6,0,a.Pred,a.Succ)).bind fun t7 =>
       some ((Event.mk t7.1 t7.2.1 t7.2.2.2.2.2.2.1 t7.2.2.2.2.2.2.2.1 t7.2.2.2.2.2.2.2.2.1 t7.2.2.2.2.2.2.2.2.2.1 t7.2.2.2.2.2.2.2.2.2.2.1 t7.2.2.2.2.2.2.2.2.2.2.2.1 t7.2.2.2.2.2.2.2.2.2.2.2.2.1 t7.2.2.2.2.2.2.2.2.2.2.2.2.2.1 t7.2.2.1 (Deps.mk t7.2.2.2.1 t7.2.2.2.2.1 t7.2.2.2.2.2.1)),t7.2.2.2.2.2.2.2.2.2.2.2.2.2.2)
      else
       (bj n hart at_ a found d (0,0,0,0,0)).bind fun t7 =>
       some ((Event.mk t7.1 t7.2.1 t7.2.2.2.2.2.2.1 t7.2.2.2.2.2.2.2.1 t7.2.2.2.2.2.2.2.2.1 t7.2.2.2.2.2.2.2.2.2.1 t7.2.2.2.2.2.2.2.2.2.2.1 t7.2.2.2.2.2.2.2.2.2.2.2.1 t7.2.2.2.2.2.2.2.2.2.2.2.2.1 t7.2.2.2.2.2.2.2.2.2.2.2.2.2.1 t7.2.2.1 (Deps.mk t7.2.2.2.1 t7.2.2.2.2.1 t7.2.2.2.2.2.1)),t7.2.2.2.2.2.2.2.2.2.2.2.2.2.2)
def internal_strconv_small (n:Nat) (i:Int):Option ByteArray :=
 if (decide (i<10))=true then
  grd (decide ((0:Int)≤i)&&decide (i≤(av .i64 i 1))&&decide ((av .i64 i 1)≤((ByteArray.mk #[48,49,50,51,52,53,54,55,56,57,97,98,99,100,101,102,103,104,105,106,107,108,109,110,111,112,113,114,115,116,117,118,119,120,121,122]).size:Int))) <|
  some ((ByteArray.mk #[48,49,50,51,52,53,54,55,56,57,97,98,99,100,101,102,103,104,105,106,107,108,109,110,111,112,113,114,115,116,117,118,119,120,121,122]).extract (i).toNat ((av .i64 i 1)).toNat)
 else
  grd (decide ((0:Int)≤(a_ .i64 i 2))&&decide ((a_ .i64 i 2)≤(av .i64 (a_ .i64 i 2) 2))&&decide ((av .i64 (a_ .i64 i 2) 2)≤((ByteArray.mk #[48,48,48,49,48,50,48,51,48,52,48,53,48,54,48,55,48,56,48,57,49,48,49,49,49,50,49,51,49,52,49,53,49,54,49,55,49,56,49,57,50,48,50,49,50,50,50,51,50,52,50,53,50,54,50,55,50,56,50,57,51,48,51,49,51,50,51,51,51,52,51,53,51,54,51,55,51,56,51,57,52,48,52,49,52,50,52,51,52,52,52,53,52,54,52,55,52,56,52,57,53,48,53,49,53,50,53,51,53,52,53,53,53,54,53,55,53,56,53,57,54,48,54,49,54,50,54,51,54,52,54,53,54,54,54,55,54,56,54,57,55,48,55,49,55,50,55,51,55,52,55,53,55,54,55,55,55,56,55,57,56,48,56,49,56,50,56,51,56,52,56,53,56,54,56,55,56,56,56,57,57,48,57,49,57,50,57,51,57,52,57,53,57,54,57,55,57,56,57,57]).size:Int))) <|
  some ((ByteArray.mk #[48,48,48,49,48,50,48,51,48,52,48,53,48,54,48,55,48,56,48,57,49,48,49,49,49,50,49,51,49,52,49,53,49,54,49,55,49,56,49,57,50,48,50,49,50,50,50,51,50,52,50,53,50,54,50,55,50,56,50,57,51,48,51,49,51,50,51,51,51,52,51,53,51,54,51,55,51,56,51,57,52,48,52,49,52,50,52,51,52,52,52,53,52,54,52,55,52,56,52,57,53,48,53,49,53,50,53,51,53,52,53,53,53,54,53,55,53,56,53,57,54,48,54,49,54,50,54,51,54,52,54,53,54,54,54,55,54,56,54,57,55,48,55,49,55,50,55,51,55,52,55,53,55,54,55,55,55,56,55,57,56,48,56,49,56,50,56,51,56,52,56,53,56,54,56,55,56,56,56,57,57,48,57,49,57,50,57,51,57,52,57,53,57,54,57,55,57,56,57,57]).extract ((a_ .i64 i 2)).toNat ((av .i64 (a_ .i64 i 2) 2)).toNat)
def lO (n:Nat) (x:Int):Option Int :=
 if (decide (x≥4294967296))=true then
  if (decide ((ab .u64 x 32)≥65536))=true then
   if (decide ((ab .u64 (ab .u64 x 32) 16)≥256))=true then
    (ae (ByteArray.mk #[0,1,2,2,3,3,3,3,4,4,4,4,4,4,4,4,5,5,5,5,5,5,5,5,5,5,5,5,5,5,5,5,6,6,6,6,6,6,6,6,6,6,6,6,6,6,6,6,6,6,6,6,6,6,6,6,6,6,6,6,6,6,6,6,7,7,7,7,7,7,7,7,7,7,7,7,7,7,7,7,7,7,7,7,7,7,7,7,7,7,7,7,7,7,7,7,7,7,7,7,7,7,7,7,7,7,7,7,7,7,7,7,7,7,7,7,7,7,7,7,7,7,7,7,7,7,7,7,8,8,8,8,8,8,8,8,8,8,8,8,8,8,8,8,8,8,8,8,8,8,8,8,8,8,8,8,8,8,8,8,8,8,8,8,8,8,8,8,8,8,8,8,8,8,8,8,8,8,8,8,8,8,8,8,8,8,8,8,8,8,8,8,8,8,8,8,8,8,8,8,8,8,8,8,8,8,8,8,8,8,8,8,8,8,8,8,8,8,8,8,8,8,8,8,8,8,8,8,8,8,8,8,8,8,8,8,8,8,8,8,8,8,8,8,8,8,8,8,8,8,8,8,8,8,8,8]) (IntKind.wrap .u8 (ab .u64 (ab .u64 (ab .u64 x 32) 16) 8))).bind fun x4 =>
    some (av .i64 56 (IntKind.wrap .i64 x4))
   else
    (ae (ByteArray.mk #[0,1,2,2,3,3,3,3,4,4,4,4,4,4,4,4,5,5,5,5,5,5,5,5,5,5,5,5,5,5,5,5,6,6,6,6,6,6,6,6,6,6,6,6,6,6,6,6,6,6,6,6,6,6,6,6,6,6,6,6,6,6,6,6,7,7,7,7,7,7,7,7,7,7,7,7,7,7,7,7,7,7,7,7,7,7,7,7,7,7,7,7,7,7,7,7,7,7,7,7,7,7,7,7,7,7,7,7,7,7,7,7,7,7,7,7,7,7,7,7,7,7,7,7,7,7,7,7,8,8,8,8,8,8,8,8,8,8,8,8,8,8,8,8,8,8,8,8,8,8,8,8,8,8,8,8,8,8,8,8,8,8,8,8,8,8,8,8,8,8,8,8,8,8,8,8,8,8,8,8,8,8,8,8,8,8,8,8,8,8,8,8,8,8,8,8,8,8,8,8,8,8,8,8,8,8,8,8,8,8,8,8,8,8,8,8,8,8,8,8,8,8,8,8,8,8,8,8,8,8,8,8,8,8,8,8,8,8,8,8,8,8,8,8,8,8,8,8,8,8,8,8,8,8,8,8]) (IntKind.wrap .u8 (ab .u64 (ab .u64 x 32) 16))).bind fun x4 =>
    some (av .i64 48 (IntKind.wrap .i64 x4))
  else
   if (decide ((ab .u64 x 32)≥256))=true then
    (ae (ByteArray.mk #[0,1,2,2,3,3,3,3,4,4,4,4,4,4,4,4,5,5,5,5,5,5,5,5,5,5,5,5,5,5,5,5,6,6,6,6,6,6,6,6,6,6,6,6,6,6,6,6,6,6,6,6,6,6,6,6,6,6,6,6,6,6,6,6,7,7,7,7,7,7,7,7,7,7,7,7,7,7,7,7,7,7,7,7,7,7,7,7,7,7,7,7,7,7,7,7,7,7,7,7,7,7,7,7,7,7,7,7,7,7,7,7,7,7,7,7,7,7,7,7,7,7,7,7,7,7,7,7,8,8,8,8,8,8,8,8,8,8,8,8,8,8,8,8,8,8,8,8,8,8,8,8,8,8,8,8,8,8,8,8,8,8,8,8,8,8,8,8,8,8,8,8,8,8,8,8,8,8,8,8,8,8,8,8,8,8,8,8,8,8,8,8,8,8,8,8,8,8,8,8,8,8,8,8,8,8,8,8,8,8,8,8,8,8,8,8,8,8,8,8,8,8,8,8,8,8,8,8,8,8,8,8,8,8,8,8,8,8,8,8,8,8,8,8,8,8,8,8,8,8,8,8,8,8,8,8]) (IntKind.wrap .u8 (ab .u64 (ab .u64 x 32) 8))).bind fun x4 =>
    some (av .i64 40 (IntKind.wrap .i64 x4))
   else
    (ae (ByteArray.mk #[0,1,2,2,3,3,3,3,4,4,4,4,4,4,4,4,5,5,5,5,5,5,5,5,5,5,5,5,5,5,5,5,6,6,6,6,6,6,6,6,6,6,6,6,6,6,6,6,6,6,6,6,6,6,6,6,6,6,6,6,6,6,6,6,7,7,7,7,7,7,7,7,7,7,7,7,7,7,7,7,7,7,7,7,7,7,7,7,7,7,7,7,7,7,7,7,7,7,7,7,7,7,7,7,7,7,7,7,7,7,7,7,7,7,7,7,7,7,7,7,7,7,7,7,7,7,7,7,8,8,8,8,8,8,8,8,8,8,8,8,8,8,8,8,8,8,8,8,8,8,8,8,8,8,8,8,8,8,8,8,8,8,8,8,8,8,8,8,8,8,8,8,8,8,8,8,8,8,8,8,8,8,8,8,8,8,8,8,8,8,8,8,8,8,8,8,8,8,8,8,8,8,8,8,8,8,8,8,8,8,8,8,8,8,8,8,8,8,8,8,8,8,8,8,8,8,8,8,8,8,8,8,8,8,8,8,8,8,8,8,8,8,8,8,8,8,8,8,8,8,8,8,8,8,8,8]) (IntKind.wrap .u8 (ab .u64 x 32))).bind fun x4 =>
    some (av .i64 32 (IntKind.wrap .i64 x4))
 else
  if (decide (x≥65536))=true then
   if (decide ((ab .u64 x 16)≥256))=true then
    (ae (ByteArray.mk #[0,1,2,2,3,3,3,3,4,4,4,4,4,4,4,4,5,5,5,5,5,5,5,5,5,5,5,5,5,5,5,5,6,6,6,6,6,6,6,6,6,6,6,6,6,6,6,6,6,6,6,6,6,6,6,6,6,6,6,6,6,6,6,6,7,7,7,7,7,7,7,7,7,7,7,7,7,7,7,7,7,7,7,7,7,7,7,7,7,7,7,7,7,7,7,7,7,7,7,7,7,7,7,7,7,7,7,7,7,7,7,7,7,7,7,7,7,7,7,7,7,7,7,7,7,7,7,7,8,8,8,8,8,8,8,8,8,8,8,8,8,8,8,8,8,8,8,8,8,8,8,8,8,8,8,8,8,8,8,8,8,8,8,8,8,8,8,8,8,8,8,8,8,8,8,8,8,8,8,8,8,8,8,8,8,8,8,8,8,8,8,8,8,8,8,8,8,8,8,8,8,8,8,8,8,8,8,8,8,8,8,8,8,8,8,8,8,8,8,8,8,8,8,8,8,8,8,8,8,8,8,8,8,8,8,8,8,8,8,8,8,8,8,8,8,8,8,8,8,8,8,8,8,8,8,8]) (IntKind.wrap .u8 (ab .u64 (ab .u64 x 16) 8))).bind fun x4 =>
    some (av .i64 24 (IntKind.wrap .i64 x4))
   else
    (ae (ByteArray.mk #[0,1,2,2,3,3,3,3,4,4,4,4,4,4,4,4,5,5,5,5,5,5,5,5,5,5,5,5,5,5,5,5,6,6,6,6,6,6,6,6,6,6,6,6,6,6,6,6,6,6,6,6,6,6,6,6,6,6,6,6,6,6,6,6,7,7,7,7,7,7,7,7,7,7,7,7,7,7,7,7,7,7,7,7,7,7,7,7,7,7,7,7,7,7,7,7,7,7,7,7,7,7,7,7,7,7,7,7,7,7,7,7,7,7,7,7,7,7,7,7,7,7,7,7,7,7,7,7,8,8,8,8,8,8,8,8,8,8,8,8,8,8,8,8,8,8,8,8,8,8,8,8,8,8,8,8,8,8,8,8,8,8,8,8,8,8,8,8,8,8,8,8,8,8,8,8,8,8,8,8,8,8,8,8,8,8,8,8,8,8,8,8,8,8,8,8,8,8,8,8,8,8,8,8,8,8,8,8,8,8,8,8,8,8,8,8,8,8,8,8,8,8,8,8,8,8,8,8,8,8,8,8,8,8,8,8,8,8,8,8,8,8,8,8,8,8,8,8,8,8,8,8,8,8,8,8]) (IntKind.wrap .u8 (ab .u64 x 16))).bind fun x4 =>
    some (av .i64 16 (IntKind.wrap .i64 x4))
  else
   if (decide (x≥256))=true then
    (ae (ByteArray.mk #[0,1,2,2,3,3,3,3,4,4,4,4,4,4,4,4,5,5,5,5,5,5,5,5,5,5,5,5,5,5,5,5,6,6,6,6,6,6,6,6,6,6,6,6,6,6,6,6,6,6,6,6,6,6,6,6,6,6,6,6,6,6,6,6,7,7,7,7,7,7,7,7,7,7,7,7,7,7,7,7,7,7,7,7,7,7,7,7,7,7,7,7,7,7,7,7,7,7,7,7,7,7,7,7,7,7,7,7,7,7,7,7,7,7,7,7,7,7,7,7,7,7,7,7,7,7,7,7,8,8,8,8,8,8,8,8,8,8,8,8,8,8,8,8,8,8,8,8,8,8,8,8,8,8,8,8,8,8,8,8,8,8,8,8,8,8,8,8,8,8,8,8,8,8,8,8,8,8,8,8,8,8,8,8,8,8,8,8,8,8,8,8,8,8,8,8,8,8,8,8,8,8,8,8,8,8,8,8,8,8,8,8,8,8,8,8,8,8,8,8,8,8,8,8,8,8,8,8,8,8,8,8,8,8,8,8,8,8,8,8,8,8,8,8,8,8,8,8,8,8,8,8,8,8,8,8]) (IntKind.wrap .u8 (ab .u64 x 8))).bind fun x4 =>
    some (av .i64 8 (IntKind.wrap .i64 x4))
   else
    (ae (ByteArray.mk #[0,1,2,2,3,3,3,3,4,4,4,4,4,4,4,4,5,5,5,5,5,5,5,5,5,5,5,5,5,5,5,5,6,6,6,6,6,6,6,6,6,6,6,6,6,6,6,6,6,6,6,6,6,6,6,6,6,6,6,6,6,6,6,6,7,7,7,7,7,7,7,7,7,7,7,7,7,7,7,7,7,7,7,7,7,7,7,7,7,7,7,7,7,7,7,7,7,7,7,7,7,7,7,7,7,7,7,7,7,7,7,7,7,7,7,7,7,7,7,7,7,7,7,7,7,7,7,7,8,8,8,8,8,8,8,8,8,8,8,8,8,8,8,8,8,8,8,8,8,8,8,8,8,8,8,8,8,8,8,8,8,8,8,8,8,8,8,8,8,8,8,8,8,8,8,8,8,8,8,8,8,8,8,8,8,8,8,8,8,8,8,8,8,8,8,8,8,8,8,8,8,8,8,8,8,8,8,8,8,8,8,8,8,8,8,8,8,8,8,8,8,8,8,8,8,8,8,8,8,8,8,8,8,8,8,8,8,8,8,8,8,8,8,8,8,8,8,8,8,8,8,8,8,8,8,8]) (IntKind.wrap .u8 x)).bind fun x4 =>
    some (av .i64 0 (IntKind.wrap .i64 x4))
def internal_strconv_log10Pow2 (n:Nat) (x:Int):Option Int :=
 some (ab .i64 (a_ .i64 x 78913) 18)
def internal_strconv_bool2_int (n:Nat) (b:Bool):Option Int :=
 if b=true then
  some 1
 else
  some 0
def internal_strconv_numDigits (n:Nat) (d:Int):Option Int :=
 (lO n d).bind fun y1 =>
 (internal_strconv_log10Pow2 n y1).bind fun y2 =>
 if (y2==0)=true then
  (internal_strconv_bool2_int n (decide (d≥1))).bind fun y4 =>
  some (av .i64 y2 y4)
 else
  if (y2==1)=true then
   (internal_strconv_bool2_int n (decide (d≥10))).bind fun y4 =>
   some (av .i64 y2 y4)
  else
   if (y2==2)=true then
    (internal_strconv_bool2_int n (decide (d≥100))).bind fun y4 =>
    some (av .i64 y2 y4)
   else
    if (y2==3)=true then
     (internal_strconv_bool2_int n (decide (d≥1000))).bind fun y4 =>
     some (av .i64 y2 y4)
    else
     if (y2==4)=true then
      (internal_strconv_bool2_int n (decide (d≥10000))).bind fun y4 =>
      some (av .i64 y2 y4)
     else
      if (y2==5)=true then
       (internal_strconv_bool2_int n (decide (d≥100000))).bind fun y4 =>
       some (av .i64 y2 y4)
      else
       if (y2==6)=true then
        (internal_strconv_bool2_int n (decide (d≥1000000))).bind fun y4 =>
        some (av .i64 y2 y4)
       else
        if (y2==7)=true then
         (internal_strconv_bool2_int n (decide (d≥10000000))).bind fun y4 =>
         some (av .i64 y2 y4)
        else
         if (y2==8)=true then
          (internal_strconv_bool2_int n (decide (d≥100000000))).bind fun y4 =>
          some (av .i64 y2 y4)
         else
          if (y2==9)=true then
           (internal_strconv_bool2_int n (decide (d≥1000000000))).bind fun y4 =>
           some (av .i64 y2 y4)
          else
           if (y2==10)=true then
            (internal_strconv_bool2_int n (decide (d≥10000000000))).bind fun y4 =>
            some (av .i64 y2 y4)
           else
            if (y2==11)=true then
             (internal_strconv_bool2_int n (decide (d≥100000000000))).bind fun y4 =>
             some (av .i64 y2 y4)
            else
             if (y2==12)=true then
              (internal_strconv_bool2_int n (decide (d≥1000000000000))).bind fun y4 =>
              some (av .i64 y2 y4)
             else
              if (y2==13)=true then
               (internal_strconv_bool2_int n (decide (d≥10000000000000))).bind fun y4 =>
               some (av .i64 y2 y4)
              else
               if (y2==14)=true then
                (internal_strconv_bool2_int n (decide (d≥100000000000000))).bind fun y4 =>
                some (av .i64 y2 y4)
               else
                if (y2==15)=true then
                 (internal_strconv_bool2_int n (decide (d≥1000000000000000))).bind fun y4 =>
                 some (av .i64 y2 y4)
                else
                 if (y2==16)=true then
                  (internal_strconv_bool2_int n (decide (d≥10000000000000000))).bind fun y4 =>
                  some (av .i64 y2 y4)
                 else
                  if (y2==17)=true then
                   (internal_strconv_bool2_int n (decide (d≥100000000000000000))).bind fun y4 =>
                   some (av .i64 y2 y4)
                  else
                   if (y2==18)=true then
                    (internal_strconv_bool2_int n (decide (d≥1000000000000000000))).bind fun y4 =>
                    some (av .i64 y2 y4)
                   else
                    if (y2==19)=true then
                     (internal_strconv_bool2_int n (decide (d≥10000000000000000000))).bind fun y4 =>
                     some (av .i64 y2 y4)
                    else
                     none
def bC (n:Nat) (u:Int) (oA:(List Int)) (oB:Int) (oC:Int) (oD:Int) (oE:Int) (oF:Int) (oG:Int) (oH:Int) (oI:Int) (oJ:Int) (oK:Int) (oL:Int) (oM:Int) (oN:Int) (oO:Int) (oP:Int) (oQ:Int) (oR:Int) (oS:Int) (oT:Int) (oU:Int) (oV:Int) (oW:Int) (oX:Int) (oY:Int):Option (Int×Int×Int) :=
 (ae (ByteArray.mk #[48,48,48,49,48,50,48,51,48,52,48,53,48,54,48,55,48,56,48,57,49,48,49,49,49,50,49,51,49,52,49,53,49,54,49,55,49,56,49,57,50,48,50,49,50,50,50,51,50,52,50,53,50,54,50,55,50,56,50,57,51,48,51,49,51,50,51,51,51,52,51,53,51,54,51,55,51,56,51,57,52,48,52,49,52,50,52,51,52,52,52,53,52,54,52,55,52,56,52,57,53,48,53,49,53,50,53,51,53,52,53,53,53,54,53,55,53,56,53,57,54,48,54,49,54,50,54,51,54,52,54,53,54,54,54,55,54,56,54,57,55,48,55,49,55,50,55,51,55,52,55,53,55,54,55,55,55,56,55,57,56,48,56,49,56,50,56,51,56,52,56,53,56,54,56,55,56,56,56,57,57,48,57,49,57,50,57,51,57,52,57,53,57,54,57,55,57,56,57,57]) (av .u32 (a_ .u32 (aM .u32 (IntKind.wrap .u32 u) 100) 2) 1)).bind fun x1 =>
 (ae (ByteArray.mk #[48,48,48,49,48,50,48,51,48,52,48,53,48,54,48,55,48,56,48,57,49,48,49,49,49,50,49,51,49,52,49,53,49,54,49,55,49,56,49,57,50,48,50,49,50,50,50,51,50,52,50,53,50,54,50,55,50,56,50,57,51,48,51,49,51,50,51,51,51,52,51,53,51,54,51,55,51,56,51,57,52,48,52,49,52,50,52,51,52,52,52,53,52,54,52,55,52,56,52,57,53,48,53,49,53,50,53,51,53,52,53,53,53,54,53,55,53,56,53,57,54,48,54,49,54,50,54,51,54,52,54,53,54,54,54,55,54,56,54,57,55,48,55,49,55,50,55,51,55,52,55,53,55,54,55,55,55,56,55,57,56,48,56,49,56,50,56,51,56,52,56,53,56,54,56,55,56,56,56,57,57,48,57,49,57,50,57,51,57,52,57,53,57,54,57,55,57,56,57,57]) (a_ .u32 (aM .u32 (IntKind.wrap .u32 u) 100) 2)).bind fun x2 =>
 some ((IntKind.wrap .u8 (av .u32 48 (gE .u32 (IntKind.wrap .u32 u) 100))),x2,x1)
def br (n:Nat) (u:Int) (oA:(List Int)) (oB:Int) (oC:Int) (oD:Int) (oE:Int) (oF:Int) (oG:Int) (oH:Int) (oI:Int) (oJ:Int) (oK:Int) (oL:Int) (oM:Int) (oN:Int) (oO:Int) (oP:Int) (oQ:Int) (oR:Int) (oS:Int) (oT:Int) (oU:Int) (oV:Int) (oW:Int) (oX:Int) (oY:Int):Option (Int×Int×Int×Int) :=
 (ae (ByteArray.mk #[48,48,48,49,48,50,48,51,48,52,48,53,48,54,48,55,48,56,48,57,49,48,49,49,49,50,49,51,49,52,49,53,49,54,49,55,49,56,49,57,50,48,50,49,50,50,50,51,50,52,50,53,50,54,50,55,50,56,50,57,51,48,51,49,51,50,51,51,51,52,51,53,51,54,51,55,51,56,51,57,52,48,52,49,52,50,52,51,52,52,52,53,52,54,52,55,52,56,52,57,53,48,53,49,53,50,53,51,53,52,53,53,53,54,53,55,53,56,53,57,54,48,54,49,54,50,54,51,54,52,54,53,54,54,54,55,54,56,54,57,55,48,55,49,55,50,55,51,55,52,55,53,55,54,55,55,55,56,55,57,56,48,56,49,56,50,56,51,56,52,56,53,56,54,56,55,56,56,56,57,57,48,57,49,57,50,57,51,57,52,57,53,57,54,57,55,57,56,57,57]) (av .u32 (a_ .u32 (aM .u32 (aM .u32 (IntKind.wrap .u32 u) 10000) 100) 2) 1)).bind fun x1 =>
 (ae (ByteArray.mk #[48,48,48,49,48,50,48,51,48,52,48,53,48,54,48,55,48,56,48,57,49,48,49,49,49,50,49,51,49,52,49,53,49,54,49,55,49,56,49,57,50,48,50,49,50,50,50,51,50,52,50,53,50,54,50,55,50,56,50,57,51,48,51,49,51,50,51,51,51,52,51,53,51,54,51,55,51,56,51,57,52,48,52,49,52,50,52,51,52,52,52,53,52,54,52,55,52,56,52,57,53,48,53,49,53,50,53,51,53,52,53,53,53,54,53,55,53,56,53,57,54,48,54,49,54,50,54,51,54,52,54,53,54,54,54,55,54,56,54,57,55,48,55,49,55,50,55,51,55,52,55,53,55,54,55,55,55,56,55,57,56,48,56,49,56,50,56,51,56,52,56,53,56,54,56,55,56,56,56,57,57,48,57,49,57,50,57,51,57,52,57,53,57,54,57,55,57,56,57,57]) (a_ .u32 (aM .u32 (aM .u32 (IntKind.wrap .u32 u) 10000) 100) 2)).bind fun x2 =>
 (ae (ByteArray.mk #[48,48,48,49,48,50,48,51,48,52,48,53,48,54,48,55,48,56,48,57,49,48,49,49,49,50,49,51,49,52,49,53,49,54,49,55,49,56,49,57,50,48,50,49,50,50,50,51,50,52,50,53,50,54,50,55,50,56,50,57,51,48,51,49,51,50,51,51,51,52,51,53,51,54,51,55,51,56,51,57,52,48,52,49,52,50,52,51,52,52,52,53,52,54,52,55,52,56,52,57,53,48,53,49,53,50,53,51,53,52,53,53,53,54,53,55,53,56,53,57,54,48,54,49,54,50,54,51,54,52,54,53,54,54,54,55,54,56,54,57,55,48,55,49,55,50,55,51,55,52,55,53,55,54,55,55,55,56,55,57,56,48,56,49,56,50,56,51,56,52,56,53,56,54,56,55,56,56,56,57,57,48,57,49,57,50,57,51,57,52,57,53,57,54,57,55,57,56,57,57]) (av .u32 (a_ .u32 (gE .u32 (aM .u32 (IntKind.wrap .u32 u) 10000) 100) 2) 1)).bind fun x3 =>
 (ae (ByteArray.mk #[48,48,48,49,48,50,48,51,48,52,48,53,48,54,48,55,48,56,48,57,49,48,49,49,49,50,49,51,49,52,49,53,49,54,49,55,49,56,49,57,50,48,50,49,50,50,50,51,50,52,50,53,50,54,50,55,50,56,50,57,51,48,51,49,51,50,51,51,51,52,51,53,51,54,51,55,51,56,51,57,52,48,52,49,52,50,52,51,52,52,52,53,52,54,52,55,52,56,52,57,53,48,53,49,53,50,53,51,53,52,53,53,53,54,53,55,53,56,53,57,54,48,54,49,54,50,54,51,54,52,54,53,54,54,54,55,54,56,54,57,55,48,55,49,55,50,55,51,55,52,55,53,55,54,55,55,55,56,55,57,56,48,56,49,56,50,56,51,56,52,56,53,56,54,56,55,56,56,56,57,57,48,57,49,57,50,57,51,57,52,57,53,57,54,57,55,57,56,57,57]) (a_ .u32 (gE .u32 (aM .u32 (IntKind.wrap .u32 u) 10000) 100) 2)).bind fun x4 =>
 some (x4,x3,x2,x1)
def bk (n:Nat) (i:Int) (oA:(List Int)):Option (List Int) :=
 if (decide (i<100))=true then
  (internal_strconv_small n (IntKind.wrap .i64 i)).bind fun y2 =>
  grd (Nat.ble ((oA.length + (aR y2).length) * 1) 140737488355328) <|
  some (oA++(aR y2))
 else
  (internal_strconv_numDigits n i).bind fun y2 =>
  if (y2==3)=true then
   (bC n i oA 0 0 0 0 0 0 0 0 0 0 0 0 0 0 0 0 0 0 0 0 0 0 0 0).bind fun y4 =>
   grd (Nat.ble ((oA.length + 3) * 1) 140737488355328) <|
   some (oA++([y4.1,y4.2.1,y4.2.2]:List Int))
  else
   if (y2==4)=true then
    (br n i oA 0 0 0 0 0 0 0 0 0 0 0 0 0 0 0 0 0 0 0 0 0 0 0 0).bind fun y4 =>
    grd (Nat.ble ((oA.length + 4) * 1) 140737488355328) <|
    some (oA++([y4.1,y4.2.1,y4.2.2.1,y4.2.2.2]:List Int))
   else
    none
def dJ (n:Nat) (u:Int) (oA:Int) (oB:Int) (oC:Int) (oD:Int) (oE:Int) (oF:Int) (oG:Int) (oH:Int) (oI:Int) (oJ:Int) (oK:Int) (oL:Int) (oM:Int) (oN:Int) (oO:Int) (oP:Int) (oQ:Int) (oR:Int) (oS:Int) (oT:Int) (oU:Int) (oV:Int) (oW:Int) (oX:Int):Option (Int×Int×Int) :=
 (ae (ByteArray.mk #[48,48,48,49,48,50,48,51,48,52,48,53,48,54,48,55,48,56,48,57,49,48,49,49,49,50,49,51,49,52,49,53,49,54,49,55,49,56,49,57,50,48,50,49,50,50,50,51,50,52,50,53,50,54,50,55,50,56,50,57,51,48,51,49,51,50,51,51,51,52,51,53,51,54,51,55,51,56,51,57,52,48,52,49,52,50,52,51,52,52,52,53,52,54,52,55,52,56,52,57,53,48,53,49,53,50,53,51,53,52,53,53,53,54,53,55,53,56,53,57,54,48,54,49,54,50,54,51,54,52,54,53,54,54,54,55,54,56,54,57,55,48,55,49,55,50,55,51,55,52,55,53,55,54,55,55,55,56,55,57,56,48,56,49,56,50,56,51,56,52,56,53,56,54,56,55,56,56,56,57,57,48,57,49,57,50,57,51,57,52,57,53,57,54,57,55,57,56,57,57]) (av .u32 (a_ .u32 (aM .u32 (IntKind.wrap .u32 u) 100) 2) 1)).bind fun x1 =>
 (ae (ByteArray.mk #[48,48,48,49,48,50,48,51,48,52,48,53,48,54,48,55,48,56,48,57,49,48,49,49,49,50,49,51,49,52,49,53,49,54,49,55,49,56,49,57,50,48,50,49,50,50,50,51,50,52,50,53,50,54,50,55,50,56,50,57,51,48,51,49,51,50,51,51,51,52,51,53,51,54,51,55,51,56,51,57,52,48,52,49,52,50,52,51,52,52,52,53,52,54,52,55,52,56,52,57,53,48,53,49,53,50,53,51,53,52,53,53,53,54,53,55,53,56,53,57,54,48,54,49,54,50,54,51,54,52,54,53,54,54,54,55,54,56,54,57,55,48,55,49,55,50,55,51,55,52,55,53,55,54,55,55,55,56,55,57,56,48,56,49,56,50,56,51,56,52,56,53,56,54,56,55,56,56,56,57,57,48,57,49,57,50,57,51,57,52,57,53,57,54,57,55,57,56,57,57]) (a_ .u32 (aM .u32 (IntKind.wrap .u32 u) 100) 2)).bind fun x2 =>
 some ((IntKind.wrap .u8 (av .u32 48 (gE .u32 (IntKind.wrap .u32 u) 100))),x2,x1)
def dK (n:Nat) (u:Int) (oA:Int) (oB:Int) (oC:Int) (oD:Int) (oE:Int) (oF:Int) (oG:Int) (oH:Int) (oI:Int) (oJ:Int) (oK:Int) (oL:Int) (oM:Int) (oN:Int) (oO:Int) (oP:Int) (oQ:Int) (oR:Int) (oS:Int) (oT:Int) (oU:Int) (oV:Int) (oW:Int) (oX:Int):Option (Int×Int×Int×Int) :=
 (ae (ByteArray.mk #[48,48,48,49,48,50,48,51,48,52,48,53,48,54,48,55,48,56,48,57,49,48,49,49,49,50,49,51,49,52,49,53,49,54,49,55,49,56,49,57,50,48,50,49,50,50,50,51,50,52,50,53,50,54,50,55,50,56,50,57,51,48,51,49,51,50,51,51,51,52,51,53,51,54,51,55,51,56,51,57,52,48,52,49,52,50,52,51,52,52,52,53,52,54,52,55,52,56,52,57,53,48,53,49,53,50,53,51,53,52,53,53,53,54,53,55,53,56,53,57,54,48,54,49,54,50,54,51,54,52,54,53,54,54,54,55,54,56,54,57,55,48,55,49,55,50,55,51,55,52,55,53,55,54,55,55,55,56,55,57,56,48,56,49,56,50,56,51,56,52,56,53,56,54,56,55,56,56,56,57,57,48,57,49,57,50,57,51,57,52,57,53,57,54,57,55,57,56,57,57]) (av .u32 (a_ .u32 (aM .u32 (aM .u32 (IntKind.wrap .u32 u) 10000) 100) 2) 1)).bind fun x1 =>
 (ae (ByteArray.mk #[48,48,48,49,48,50,48,51,48,52,48,53,48,54,48,55,48,56,48,57,49,48,49,49,49,50,49,51,49,52,49,53,49,54,49,55,49,56,49,57,50,48,50,49,50,50,50,51,50,52,50,53,50,54,50,55,50,56,50,57,51,48,51,49,51,50,51,51,51,52,51,53,51,54,51,55,51,56,51,57,52,48,52,49,52,50,52,51,52,52,52,53,52,54,52,55,52,56,52,57,53,48,53,49,53,50,53,51,53,52,53,53,53,54,53,55,53,56,53,57,54,48,54,49,54,50,54,51,54,52,54,53,54,54,54,55,54,56,54,57,55,48,55,49,55,50,55,51,55,52,55,53,55,54,55,55,55,56,55,57,56,48,56,49,56,50,56,51,56,52,56,53,56,54,56,55,56,56,56,57,57,48,57,49,57,50,57,51,57,52,57,53,57,54,57,55,57,56,57,57]) (a_ .u32 (aM .u32 (aM .u32 (IntKind.wrap .u32 u) 10000) 100) 2)).bind fun x2 =>
 (ae (ByteArray.mk #[48,48,48,49,48,50,48,51,48,52,48,53,48,54,48,55,48,56,48,57,49,48,49,49,49,50,49,51,49,52,49,53,49,54,49,55,49,56,49,57,50,48,50,49,50,50,50,51,50,52,50,53,50,54,50,55,50,56,50,57,51,48,51,49,51,50,51,51,51,52,51,53,51,54,51,55,51,56,51,57,52,48,52,49,52,50,52,51,52,52,52,53,52,54,52,55,52,56,52,57,53,48,53,49,53,50,53,51,53,52,53,53,53,54,53,55,53,56,53,57,54,48,54,49,54,50,54,51,54,52,54,53,54,54,54,55,54,56,54,57,55,48,55,49,55,50,55,51,55,52,55,53,55,54,55,55,55,56,55,57,56,48,56,49,56,50,56,51,56,52,56,53,56,54,56,55,56,56,56,57,57,48,57,49,57,50,57,51,57,52,57,53,57,54,57,55,57,56,57,57]) (av .u32 (a_ .u32 (gE .u32 (aM .u32 (IntKind.wrap .u32 u) 10000) 100) 2) 1)).bind fun x3 =>
 (ae (ByteArray.mk #[48,48,48,49,48,50,48,51,48,52,48,53,48,54,48,55,48,56,48,57,49,48,49,49,49,50,49,51,49,52,49,53,49,54,49,55,49,56,49,57,50,48,50,49,50,50,50,51,50,52,50,53,50,54,50,55,50,56,50,57,51,48,51,49,51,50,51,51,51,52,51,53,51,54,51,55,51,56,51,57,52,48,52,49,52,50,52,51,52,52,52,53,52,54,52,55,52,56,52,57,53,48,53,49,53,50,53,51,53,52,53,53,53,54,53,55,53,56,53,57,54,48,54,49,54,50,54,51,54,52,54,53,54,54,54,55,54,56,54,57,55,48,55,49,55,50,55,51,55,52,55,53,55,54,55,55,55,56,55,57,56,48,56,49,56,50,56,51,56,52,56,53,56,54,56,55,56,56,56,57,57,48,57,49,57,50,57,51,57,52,57,53,57,54,57,55,57,56,57,57]) (a_ .u32 (gE .u32 (aM .u32 (IntKind.wrap .u32 u) 10000) 100) 2)).bind fun x4 =>
 some (x4,x3,x2,x1)
def ct (n:Nat) (i:Int):Option (List Int) :=
 if (decide (i<100))=true then
  (internal_strconv_small n (IntKind.wrap .i64 i)).bind fun y2 =>
  grd (Nat.ble ((aR y2).length * 1) 140737488355328) <|
  some (aR y2)
 else
  (internal_strconv_numDigits n i).bind fun y2 =>
  if (y2==3)=true then
   (dJ n i 0 0 0 0 0 0 0 0 0 0 0 0 0 0 0 0 0 0 0 0 0 0 0 0).bind fun y4 =>
   some ([y4.1,y4.2.1,y4.2.2]:List Int)
  else
   if (y2==4)=true then
    (dK n i 0 0 0 0 0 0 0 0 0 0 0 0 0 0 0 0 0 0 0 0 0 0 0 0).bind fun y4 =>
    some ([y4.1,y4.2.1,y4.2.2.1,y4.2.2.2]:List Int)
   else
    none
def bT (n:Nat) (i:Int):Option (List Int) :=
 if (decide (i<0))=true then
  (bk n (aE .u64 0 (IntKind.wrap .u64 i)) ([45]:List Int)).bind fun y2 =>
  some y2
 else
  (ct n (IntKind.wrap .u64 i)).bind fun y2 =>
  some y2
def fH (n:Nat) (i:Int):Option (List Int) :=
 (bT n i).bind fun y1 =>
 some y1
def dL (n:Nat) (u:Int) (oA:(List Int)) (oB:Int) (oC:Int) (oD:Int) (oE:Int) (oF:Int) (oG:Int) (oH:Int) (oI:Int) (oJ:Int) (oK:Int) (oL:Int) (oM:Int) (oN:Int) (oO:Int) (oP:Int) (oQ:Int) (oR:Int) (oS:Int) (oT:Int) (oU:Int) (oV:Int) (oW:Int) (oX:Int) (oY:Int):Option (Int×Int×Int) :=
 (ae (ByteArray.mk #[48,48,48,49,48,50,48,51,48,52,48,53,48,54,48,55,48,56,48,57,49,48,49,49,49,50,49,51,49,52,49,53,49,54,49,55,49,56,49,57,50,48,50,49,50,50,50,51,50,52,50,53,50,54,50,55,50,56,50,57,51,48,51,49,51,50,51,51,51,52,51,53,51,54,51,55,51,56,51,57,52,48,52,49,52,50,52,51,52,52,52,53,52,54,52,55,52,56,52,57,53,48,53,49,53,50,53,51,53,52,53,53,53,54,53,55,53,56,53,57,54,48,54,49,54,50,54,51,54,52,54,53,54,54,54,55,54,56,54,57,55,48,55,49,55,50,55,51,55,52,55,53,55,54,55,55,55,56,55,57,56,48,56,49,56,50,56,51,56,52,56,53,56,54,56,55,56,56,56,57,57,48,57,49,57,50,57,51,57,52,57,53,57,54,57,55,57,56,57,57]) (av .u32 (a_ .u32 (aM .u32 (IntKind.wrap .u32 u) 100) 2) 1)).bind fun x1 =>
 (ae (ByteArray.mk #[48,48,48,49,48,50,48,51,48,52,48,53,48,54,48,55,48,56,48,57,49,48,49,49,49,50,49,51,49,52,49,53,49,54,49,55,49,56,49,57,50,48,50,49,50,50,50,51,50,52,50,53,50,54,50,55,50,56,50,57,51,48,51,49,51,50,51,51,51,52,51,53,51,54,51,55,51,56,51,57,52,48,52,49,52,50,52,51,52,52,52,53,52,54,52,55,52,56,52,57,53,48,53,49,53,50,53,51,53,52,53,53,53,54,53,55,53,56,53,57,54,48,54,49,54,50,54,51,54,52,54,53,54,54,54,55,54,56,54,57,55,48,55,49,55,50,55,51,55,52,55,53,55,54,55,55,55,56,55,57,56,48,56,49,56,50,56,51,56,52,56,53,56,54,56,55,56,56,56,57,57,48,57,49,57,50,57,51,57,52,57,53,57,54,57,55,57,56,57,57]) (a_ .u32 (aM .u32 (IntKind.wrap .u32 u) 100) 2)).bind fun x2 =>
 some ((IntKind.wrap .u8 (av .u32 48 (gE .u32 (IntKind.wrap .u32 u) 100))),x2,x1)
def dM (n:Nat) (u:Int) (oA:(List Int)) (oB:Int) (oC:Int) (oD:Int) (oE:Int) (oF:Int) (oG:Int) (oH:Int) (oI:Int) (oJ:Int) (oK:Int) (oL:Int) (oM:Int) (oN:Int) (oO:Int) (oP:Int) (oQ:Int) (oR:Int) (oS:Int) (oT:Int) (oU:Int) (oV:Int) (oW:Int) (oX:Int) (oY:Int):Option (Int×Int×Int×Int) :=
 (ae (ByteArray.mk #[48,48,48,49,48,50,48,51,48,52,48,53,48,54,48,55,48,56,48,57,49,48,49,49,49,50,49,51,49,52,49,53,49,54,49,55,49,56,49,57,50,48,50,49,50,50,50,51,50,52,50,53,50,54,50,55,50,56,50,57,51,48,51,49,51,50,51,51,51,52,51,53,51,54,51,55,51,56,51,57,52,48,52,49,52,50,52,51,52,52,52,53,52,54,52,55,52,56,52,57,53,48,53,49,53,50,53,51,53,52,53,53,53,54,53,55,53,56,53,57,54,48,54,49,54,50,54,51,54,52,54,53,54,54,54,55,54,56,54,57,55,48,55,49,55,50,55,51,55,52,55,53,55,54,55,55,55,56,55,57,56,48,56,49,56,50,56,51,56,52,56,53,56,54,56,55,56,56,56,57,57,48,57,49,57,50,57,51,57,52,57,53,57,54,57,55,57,56,57,57]) (av .u32 (a_ .u32 (aM .u32 (aM .u32 (IntKind.wrap .u32 u) 10000) 100) 2) 1)).bind fun x1 =>
 (ae (ByteArray.mk #[48,48,48,49,48,50,48,51,48,52,48,53,48,54,48,55,48,56,48,57,49,48,49,49,49,50,49,51,49,52,49,53,49,54,49,55,49,56,49,57,50,48,50,49,50,50,50,51,50,52,50,53,50,54,50,55,50,56,50,57,51,48,51,49,51,50,51,51,51,52,51,53,51,54,51,55,51,56,51,57,52,48,52,49,52,50,52,51,52,52,52,53,52,54,52,55,52,56,52,57,53,48,53,49,53,50,53,51,53,52,53,53,53,54,53,55,53,56,53,57,54,48,54,49,54,50,54,51,54,52,54,53,54,54,54,55,54,56,54,57,55,48,55,49,55,50,55,51,55,52,55,53,55,54,55,55,55,56,55,57,56,48,56,49,56,50,56,51,56,52,56,53,56,54,56,55,56,56,56,57,57,48,57,49,57,50,57,51,57,52,57,53,57,54,57,55,57,56,57,57]) (a_ .u32 (aM .u32 (aM .u32 (IntKind.wrap .u32 u) 10000) 100) 2)).bind fun x2 =>
 (ae (ByteArray.mk #[48,48,48,49,48,50,48,51,48,52,48,53,48,54,48,55,48,56,48,57,49,48,49,49,49,50,49,51,49,52,49,53,49,54,49,55,49,56,49,57,50,48,50,49,50,50,50,51,50,52,50,53,50,54,50,55,50,56,50,57,51,48,51,49,51,50,51,51,51,52,51,53,51,54,51,55,51,56,51,57,52,48,52,49,52,50,52,51,52,52,52,53,52,54,52,55,52,56,52,57,53,48,53,49,53,50,53,51,53,52,53,53,53,54,53,55,53,56,53,57,54,48,54,49,54,50,54,51,54,52,54,53,54,54,54,55,54,56,54,57,55,48,55,49,55,50,55,51,55,52,55,53,55,54,55,55,55,56,55,57,56,48,56,49,56,50,56,51,56,52,56,53,56,54,56,55,56,56,56,57,57,48,57,49,57,50,57,51,57,52,57,53,57,54,57,55,57,56,57,57]) (av .u32 (a_ .u32 (gE .u32 (aM .u32 (IntKind.wrap .u32 u) 10000) 100) 2) 1)).bind fun x3 =>
 (ae (ByteArray.mk #[48,48,48,49,48,50,48,51,48,52,48,53,48,54,48,55,48,56,48,57,49,48,49,49,49,50,49,51,49,52,49,53,49,54,49,55,49,56,49,57,50,48,50,49,50,50,50,51,50,52,50,53,50,54,50,55,50,56,50,57,51,48,51,49,51,50,51,51,51,52,51,53,51,54,51,55,51,56,51,57,52,48,52,49,52,50,52,51,52,52,52,53,52,54,52,55,52,56,52,57,53,48,53,49,53,50,53,51,53,52,53,53,53,54,53,55,53,56,53,57,54,48,54,49,54,50,54,51,54,52,54,53,54,54,54,55,54,56,54,57,55,48,55,49,55,50,55,51,55,52,55,53,55,54,55,55,55,56,55,57,56,48,56,49,56,50,56,51,56,52,56,53,56,54,56,55,56,56,56,57,57,48,57,49,57,50,57,51,57,52,57,53,57,54,57,55,57,56,57,57]) (a_ .u32 (gE .u32 (aM .u32 (IntKind.wrap .u32 u) 10000) 100) 2)).bind fun x4 =>
 some (x4,x3,x2,x1)
def eb (n:Nat) (i:Int) (oA:(List Int)):Option (List Int) :=
 if (decide (i<100))=true then
  (internal_strconv_small n (IntKind.wrap .i64 i)).bind fun y2 =>
  grd (Nat.ble ((oA.length + (aR y2).length) * 1) 140737488355328) <|
  some (oA++(aR y2))
 else
  (internal_strconv_numDigits n i).bind fun y2 =>
  if (y2==3)=true then
   (dL n i oA 0 0 0 0 0 0 0 0 0 0 0 0 0 0 0 0 0 0 0 0 0 0 0 0).bind fun y4 =>
   grd (Nat.ble ((oA.length + 3) * 1) 140737488355328) <|
   some (oA++([y4.1,y4.2.1,y4.2.2]:List Int))
  else
   if (y2==4)=true then
    (dM n i oA 0 0 0 0 0 0 0 0 0 0 0 0 0 0 0 0 0 0 0 0 0 0 0 0).bind fun y4 =>
    grd (Nat.ble ((oA.length + 4) * 1) 140737488355328) <|
    some (oA++([y4.1,y4.2.1,y4.2.2.1,y4.2.2.2]:List Int))
   else
    none
def bO (n:Nat) (i:Int) (oA:(List Int)):Option (List Int) :=
 if (decide (i<0))=true then
  grd (Nat.ble ((oA.length + 1) * 1) 140737488355328) <|
  (eb n (aE .u64 0 (IntKind.wrap .u64 i)) (oA++([45]:List Int))).bind fun y3 =>
  some y3
 else
  (bk n (IntKind.wrap .u64 i) oA).bind fun y2 =>
  some y2
def eN (n:Nat) (i:Int) (oA:(List Int)):Option (List Int) :=
 (bO n i oA).bind fun y1 =>
 some y1
def nO (n:Nat) (kind:Int):Option ByteArray :=
 if (kind==0)=true then
  some (ByteArray.mk #[])
 else
  if (kind==1)=true then
   some (ByteArray.mk #[108,111,97,100])
  else
   if (kind==2)=true then
    some (ByteArray.mk #[115,116,111,114,101])
   else
    if (kind==3)=true then
     some (ByteArray.mk #[108,114])
    else
     if (kind==4)=true then
      some (ByteArray.mk #[115,99])
     else
      if (kind==5)=true then
       some (ByteArray.mk #[97,109,111])
      else
       if (kind==6)=true then
        some (ByteArray.mk #[102,101,110,99,101])
       else
        none
def bP (n:Nat):Option Unit :=
 some ()
def fA (n:Nat):Option Unit :=
 some ()
def cW (n:Nat):Option Unit :=
 (fA n).bind fun y1 =>
 some ()
def cL (n:Nat) (u:Int):Option ByteArray :=
 (bP n).bind fun y1 =>
 (cW n).bind fun y2 =>
 if (decide (u≥16))=true then
  (ae (ByteArray.mk #[48,49,50,51,52,53,54,55,56,57,97,98,99,100,101,102,103,104,105,106,107,108,109,110,111,112,113,114,115,116,117,118,119,120,121,122]) (aj .u64 u 15)).bind fun x4 =>
  if (decide ((ab .u64 u 4)≥16))=true then
   (ae (ByteArray.mk #[48,49,50,51,52,53,54,55,56,57,97,98,99,100,101,102,103,104,105,106,107,108,109,110,111,112,113,114,115,116,117,118,119,120,121,122]) (aj .u64 (ab .u64 u 4) 15)).bind fun x6 =>
   if (decide ((ab .u64 (ab .u64 u 4) 4)≥16))=true then
    (ae (ByteArray.mk #[48,49,50,51,52,53,54,55,56,57,97,98,99,100,101,102,103,104,105,106,107,108,109,110,111,112,113,114,115,116,117,118,119,120,121,122]) (aj .u64 (ab .u64 (ab .u64 u 4) 4) 15)).bind fun x8 =>
    if (decide ((ab .u64 (ab .u64 (ab .u64 u 4) 4) 4)≥16))=true then
     (ae (ByteArray.mk #[48,49,50,51,52,53,54,55,56,57,97,98,99,100,101,102,103,104,105,106,107,108,109,110,111,112,113,114,115,116,117,118,119,120,121,122]) (aj .u64 (ab .u64 (ab .u64 (ab .u64 u 4) 4) 4) 15)).bind fun x10 =>
     if (decide ((ab .u64 (ab .u64 (ab .u64 (ab .u64 u 4) 4) 4) 4)≥16))=true then
      (ae (ByteArray.mk #[48,49,50,51,52,53,54,55,56,57,97,98,99,100,101,102,103,104,105,106,107,108,109,110,111,112,113,114,115,116,117,118,119,120,121,122]) (aj .u64 (ab .u64 (ab .u64 (ab .u64 (ab .u64 u 4) 4) 4) 4) 15)).bind fun x12 =>
      if (decide ((ab .u64 (ab .u64 (ab .u64 (ab .u64 (ab .u64 u 4) 4) 4) 4) 4)≥16))=true then
       (ae (ByteArray.mk #[48,49,50,51,52,53,54,55,56,57,97,98,99,100,101,102,103,104,105,106,107,108,109,110,111,112,113,114,115,116,117,118,119,120,121,122]) (aj .u64 (ab .u64 (ab .u64 (ab .u64 (ab .u64 (ab .u64 u 4) 4) 4) 4) 4) 15)).bind fun x14 =>
       if (decide ((ab .u64 (ab .u64 (ab .u64 (ab .u64 (ab .u64 (ab .u64 u 4) 4) 4) 4) 4) 4)≥16))=true then
        (ae (ByteArray.mk #[48,49,50,51,52,53,54,55,56,57,97,98,99,100,101,102,103,104,105,106,107,108,109,110,111,112,113,114,115,116,117,118,119,120,121,122]) (aj .u64 (ab .u64 (ab .u64 (ab .u64 (ab .u64 (ab .u64 (ab .u64 u 4) 4) 4) 4) 4) 4) 15)).bind fun x16 =>
        if (decide ((ab .u64 (ab .u64 (ab .u64 (ab .u64 (ab .u64 (ab .u64 (ab .u64 u 4) 4) 4) 4) 4) 4) 4)≥16))=true then
         (ae (ByteArray.mk #[48,49,50,51,52,53,54,55,56,57,97,98,99,100,101,102,103,104,105,106,107,108,109,110,111,112,113,114,115,116,117,118,119,120,121,122]) (aj .u64 (ab .u64 (ab .u64 (ab .u64 (ab .u64 (ab .u64 (ab .u64 (ab .u64 u 4) 4) 4) 4) 4) 4) 4) 15)).bind fun x18 =>
         if (decide ((ab .u64 (ab .u64 (ab .u64 (ab .u64 (ab .u64 (ab .u64 (ab .u64 (ab .u64 u 4) 4) 4) 4) 4) 4) 4) 4)≥16))=true then
          (ae (ByteArray.mk #[48,49,50,51,52,53,54,55,56,57,97,98,99,100,101,102,103,104,105,106,107,108,109,110,111,112,113,114,115,116,117,118,119,120,121,122]) (aj .u64 (ab .u64 (ab .u64 (ab .u64 (ab .u64 (ab .u64 (ab .u64 (ab .u64 (ab .u64 u 4) 4) 4) 4) 4) 4) 4) 4) 15)).bind fun x20 =>
          if (decide ((ab .u64 (ab .u64 (ab .u64 (ab .u64 (ab .u64 (ab .u64 (ab .u64 (ab .u64 (ab .u64 u 4) 4) 4) 4) 4) 4) 4) 4) 4)≥16))=true then
           (ae (ByteArray.mk #[48,49,50,51,52,53,54,55,56,57,97,98,99,100,101,102,103,104,105,106,107,108,109,110,111,112,113,114,115,116,117,118,119,120,121,122]) (aj .u64 (ab .u64 (ab .u64 (ab .u64 (ab .u64 (ab .u64 (ab .u64 (ab .u64 (ab .u64 (ab .u64 u 4) 4) 4) 4) 4) 4) 4) 4) 4) 15)).bind fun x22 =>
           if (decide ((ab .u64 (ab .u64 (ab .u64 (ab .u64 (ab .u64 (ab .u64 (ab .u64 (ab .u64 (ab .u64 (ab .u64 u 4) 4) 4) 4) 4) 4) 4) 4) 4) 4)≥16))=true then
            (ae (ByteArray.mk #[48,49,50,51,52,53,54,55,56,57,97,98,99,100,101,102,103,104,105,106,107,108,109,110,111,112,113,114,115,116,117,118,119,120,121,122]) (aj .u64 (ab .u64 (ab .u64 (ab .u64 (ab .u64 (ab .u64 (ab .u64 (ab .u64 (ab .u64 (ab .u64 (ab .u64 u 4) 4) 4) 4) 4) 4) 4) 4) 4) 4) 15)).bind fun x24 =>
            if (decide ((ab .u64 (ab .u64 (ab .u64 (ab .u64 (ab .u64 (ab .u64 (ab .u64 (ab .u64 (ab .u64 (ab .u64 (ab .u64 u 4) 4) 4) 4) 4) 4) 4) 4) 4) 4) 4)≥16))=true then
             (ae (ByteArray.mk #[48,49,50,51,52,53,54,55,56,57,97,98,99,100,101,102,103,104,105,106,107,108,109,110,111,112,113,114,115,116,117,118,119,120,121,122]) (aj .u64 (ab .u64 (ab .u64 (ab .u64 (ab .u64 (ab .u64 (ab .u64 (ab .u64 (ab .u64 (ab .u64 (ab .u64 (ab .u64 u 4) 4) 4) 4) 4) 4) 4) 4) 4) 4) 4) 15)).bind fun x26 =>
             if (decide ((ab .u64 (ab .u64 (ab .u64 (ab .u64 (ab .u64 (ab .u64 (ab .u64 (ab .u64 (ab .u64 (ab .u64 (ab .u64 (ab .u64 u 4) 4) 4) 4) 4) 4) 4) 4) 4) 4) 4) 4)≥16))=true then
              (ae (ByteArray.mk #[48,49,50,51,52,53,54,55,56,57,97,98,99,100,101,102,103,104,105,106,107,108,109,110,111,112,113,114,115,116,117,118,119,120,121,122]) (aj .u64 (ab .u64 (ab .u64 (ab .u64 (ab .u64 (ab .u64 (ab .u64 (ab .u64 (ab .u64 (ab .u64 (ab .u64 (ab .u64 (ab .u64 u 4) 4) 4) 4) 4) 4) 4) 4) 4) 4) 4) 4) 15)).bind fun x28 =>
              if (decide ((ab .u64 (ab .u64 (ab .u64 (ab .u64 (ab .u64 (ab .u64 (ab .u64 (ab .u64 (ab .u64 (ab .u64 (ab .u64 (ab .u64 (ab .u64 u 4) 4) 4) 4) 4) 4) 4) 4) 4) 4) 4) 4) 4)≥16))=true then
               (ae (ByteArray.mk #[48,49,50,51,52,53,54,55,56,57,97,98,99,100,101,102,103,104,105,106,107,108,109,110,111,112,113,114,115,116,117,118,119,120,121,122]) (aj .u64 (ab .u64 (ab .u64 (ab .u64 (ab .u64 (ab .u64 (ab .u64 (ab .u64 (ab .u64 (ab .u64 (ab .u64 (ab .u64 (ab .u64 (ab .u64 u 4) 4) 4) 4) 4) 4) 4) 4) 4) 4) 4) 4) 4) 15)).bind fun x30 =>
               if (decide ((ab .u64 (ab .u64 (ab .u64 (ab .u64 (ab .u64 (ab .u64 (ab .u64 (ab .u64 (ab .u64 (ab .u64 (ab .u64 (ab .u64 (ab .u64 (ab .u64 u 4) 4) 4) 4) 4) 4) 4) 4) 4) 4) 4) 4) 4) 4)≥16))=true then
                (ae (ByteArray.mk #[48,49,50,51,52,53,54,55,56,57,97,98,99,100,101,102,103,104,105,106,107,108,109,110,111,112,113,114,115,116,117,118,119,120,121,122]) (aj .u64 (ab .u64 (ab .u64 (ab .u64 (ab .u64 (ab .u64 (ab .u64 (ab .u64 (ab .u64 (ab .u64 (ab .u64 (ab .u64 (ab .u64 (ab .u64 (ab .u64 u 4) 4) 4) 4) 4) 4) 4) 4) 4) 4) 4) 4) 4) 4) 15)).bind fun x32 =>
                if (decide ((ab .u64 (ab .u64 (ab .u64 (ab .u64 (ab .u64 (ab .u64 (ab .u64 (ab .u64 (ab .u64 (ab .u64 (ab .u64 (ab .u64 (ab .u64 (ab .u64 (ab .u64 u 4) 4) 4) 4) 4) 4) 4) 4) 4) 4) 4) 4) 4) 4) 4)≥16))=true then
                 (ae (ByteArray.mk #[48,49,50,51,52,53,54,55,56,57,97,98,99,100,101,102,103,104,105,106,107,108,109,110,111,112,113,114,115,116,117,118,119,120,121,122]) (aj .u64 (ab .u64 (ab .u64 (ab .u64 (ab .u64 (ab .u64 (ab .u64 (ab .u64 (ab .u64 (ab .u64 (ab .u64 (ab .u64 (ab .u64 (ab .u64 (ab .u64 (ab .u64 u 4) 4) 4) 4) 4) 4) 4) 4) 4) 4) 4) 4) 4) 4) 4) 15)).bind fun x34 =>
                 none
                else
                 (ae (ByteArray.mk #[48,49,50,51,52,53,54,55,56,57,97,98,99,100,101,102,103,104,105,106,107,108,109,110,111,112,113,114,115,116,117,118,119,120,121,122]) (ab .u64 (ab .u64 (ab .u64 (ab .u64 (ab .u64 (ab .u64 (ab .u64 (ab .u64 (ab .u64 (ab .u64 (ab .u64 (ab .u64 (ab .u64 (ab .u64 (ab .u64 u 4) 4) 4) 4) 4) 4) 4) 4) 4) 4) 4) 4) 4) 4) 4)).bind fun x34 =>
                 some (aV [x34,x32,x30,x28,x26,x24,x22,x20,x18,x16,x14,x12,x10,x8,x6,x4])
               else
                (ae (ByteArray.mk #[48,49,50,51,52,53,54,55,56,57,97,98,99,100,101,102,103,104,105,106,107,108,109,110,111,112,113,114,115,116,117,118,119,120,121,122]) (ab .u64 (ab .u64 (ab .u64 (ab .u64 (ab .u64 (ab .u64 (ab .u64 (ab .u64 (ab .u64 (ab .u64 (ab .u64 (ab .u64 (ab .u64 (ab .u64 u 4) 4) 4) 4) 4) 4) 4) 4) 4) 4) 4) 4) 4) 4)).bind fun x32 =>
                some (aV [x32,x30,x28,x26,x24,x22,x20,x18,x16,x14,x12,x10,x8,x6,x4])
              else
               (ae (ByteArray.mk #[48,49,50,51,52,53,54,55,56,57,97,98,99,100,101,102,103,104,105,106,107,108,109,110,111,112,113,114,115,116,117,118,119,120,121,122]) (ab .u64 (ab .u64 (ab .u64 (ab .u64 (ab .u64 (ab .u64 (ab .u64 (ab .u64 (ab .u64 (ab .u64 (ab .u64 (ab .u64 (ab .u64 u 4) 4) 4) 4) 4) 4) 4) 4) 4) 4) 4) 4) 4)).bind fun x30 =>
               some (aV [x30,x28,x26,x24,x22,x20,x18,x16,x14,x12,x10,x8,x6,x4])
             else
              (ae (ByteArray.mk #[48,49,50,51,52,53,54,55,56,57,97,98,99,100,101,102,103,104,105,106,107,108,109,110,111,112,113,114,115,116,117,118,119,120,121,122]) (ab .u64 (ab .u64 (ab .u64 (ab .u64 (ab .u64 (ab .u64 (ab .u64 (ab .u64 (ab .u64 (ab .u64 (ab .u64 (ab .u64 u 4) 4) 4) 4) 4) 4) 4) 4) 4) 4) 4) 4)).bind fun x28 =>
              some (aV [x28,x26,x24,x22,x20,x18,x16,x14,x12,x10,x8,x6,x4])
            else
             (ae (ByteArray.mk #[48,49,50,51,52,53,54,55,56,57,97,98,99,100,101,102,103,104,105,106,107,108,109,110,111,112,113,114,115,116,117,118,119,120,121,122]) (ab .u64 (ab .u64 (ab .u64 (ab .u64 (ab .u64 (ab .u64 (ab .u64 (ab .u64 (ab .u64 (ab .u64 (ab .u64 u 4) 4) 4) 4) 4) 4) 4) 4) 4) 4) 4)).bind fun x26 =>
             some (aV [x26,x24,x22,x20,x18,x16,x14,x12,x10,x8,x6,x4])
           else
            (ae (ByteArray.mk #[48,49,50,51,52,53,54,55,56,57,97,98,99,100,101,102,103,104,105,106,107,108,109,110,111,112,113,114,115,116,117,118,119,120,121,122]) (ab .u64 (ab .u64 (ab .u64 (ab .u64 (ab .u64 (ab .u64 (ab .u64 (ab .u64 (ab .u64 (ab .u64 u 4) 4) 4) 4) 4) 4) 4) 4) 4) 4)).bind fun x24 =>
            some (aV [x24,x22,x20,x18,x16,x14,x12,x10,x8,x6,x4])
          else
           (ae (ByteArray.mk #[48,49,50,51,52,53,54,55,56,57,97,98,99,100,101,102,103,104,105,106,107,108,109,110,111,112,113,114,115,116,117,118,119,120,121,122]) (ab .u64 (ab .u64 (ab .u64 (ab .u64 (ab .u64 (ab .u64 (ab .u64 (ab .u64 (ab .u64 u 4) 4) 4) 4) 4) 4) 4) 4) 4)).bind fun x22 =>
           some (aV [x22,x20,x18,x16,x14,x12,x10,x8,x6,x4])
         else
          (ae (ByteArray.mk #[48,49,50,51,52,53,54,55,56,57,97,98,99,100,101,102,103,104,105,106,107,108,109,110,111,112,113,114,115,116,117,118,119,120,121,122]) (ab .u64 (ab .u64 (ab .u64 (ab .u64 (ab .u64 (ab .u64 (ab .u64 (ab .u64 u 4) 4) 4) 4) 4) 4) 4) 4)).bind fun x20 =>
          some (aV [x20,x18,x16,x14,x12,x10,x8,x6,x4])
        else
         (ae (ByteArray.mk #[48,49,50,51,52,53,54,55,56,57,97,98,99,100,101,102,103,104,105,106,107,108,109,110,111,112,113,114,115,116,117,118,119,120,121,122]) (ab .u64 (ab .u64 (ab .u64 (ab .u64 (ab .u64 (ab .u64 (ab .u64 u 4) 4) 4) 4) 4) 4) 4)).bind fun x18 =>
         some (aV [x18,x16,x14,x12,x10,x8,x6,x4])
       else
        (ae (ByteArray.mk #[48,49,50,51,52,53,54,55,56,57,97,98,99,100,101,102,103,104,105,106,107,108,109,110,111,112,113,114,115,116,117,118,119,120,121,122]) (ab .u64 (ab .u64 (ab .u64 (ab .u64 (ab .u64 (ab .u64 u 4) 4) 4) 4) 4) 4)).bind fun x16 =>
        some (aV [x16,x14,x12,x10,x8,x6,x4])
      else
       (ae (ByteArray.mk #[48,49,50,51,52,53,54,55,56,57,97,98,99,100,101,102,103,104,105,106,107,108,109,110,111,112,113,114,115,116,117,118,119,120,121,122]) (ab .u64 (ab .u64 (ab .u64 (ab .u64 (ab .u64 u 4) 4) 4) 4) 4)).bind fun x14 =>
       some (aV [x14,x12,x10,x8,x6,x4])
     else
      (ae (ByteArray.mk #[48,49,50,51,52,53,54,55,56,57,97,98,99,100,101,102,103,104,105,106,107,108,109,110,111,112,113,114,115,116,117,118,119,120,121,122]) (ab .u64 (ab .u64 (ab .u64 (ab .u64 u 4) 4) 4) 4)).bind fun x12 =>
      some (aV [x12,x10,x8,x6,x4])
    else
     (ae (ByteArray.mk #[48,49,50,51,52,53,54,55,56,57,97,98,99,100,101,102,103,104,105,106,107,108,109,110,111,112,113,114,115,116,117,118,119,120,121,122]) (ab .u64 (ab .u64 (ab .u64 u 4) 4) 4)).bind fun x10 =>
     some (aV [x10,x8,x6,x4])
   else
    (ae (ByteArray.mk #[48,49,50,51,52,53,54,55,56,57,97,98,99,100,101,102,103,104,105,106,107,108,109,110,111,112,113,114,115,116,117,118,119,120,121,122]) (ab .u64 (ab .u64 u 4) 4)).bind fun x8 =>
    some (aV [x8,x6,x4])
  else
   (ae (ByteArray.mk #[48,49,50,51,52,53,54,55,56,57,97,98,99,100,101,102,103,104,105,106,107,108,109,110,111,112,113,114,115,116,117,118,119,120,121,122]) (ab .u64 u 4)).bind fun x6 =>
   some (aV [x6,x4])
 else
  (ae (ByteArray.mk #[48,49,50,51,52,53,54,55,56,57,97,98,99,100,101,102,103,104,105,106,107,108,109,110,111,112,113,114,115,116,117,118,119,120,121,122]) u).bind fun x4 =>
  some (aV [x4])
def dk (n:Nat) (i:Int):Option ByteArray :=
 (cL n i).bind fun y1 =>
 some y1
def ge (n:Nat) (i:Int):Option ByteArray :=
 (dk n i).bind fun y1 =>
 some y1
def bJ (n:Nat) (u:Int) (oA:(List Int)):Option (ByteArray×(List Int)) :=
 (bP n).bind fun y1 =>
 (cW n).bind fun y2 =>
 if (decide (u≥16))=true then
  (ae (ByteArray.mk #[48,49,50,51,52,53,54,55,56,57,97,98,99,100,101,102,103,104,105,106,107,108,109,110,111,112,113,114,115,116,117,118,119,120,121,122]) (aj .u64 u 15)).bind fun x4 =>
  if (decide ((ab .u64 u 4)≥16))=true then
   (ae (ByteArray.mk #[48,49,50,51,52,53,54,55,56,57,97,98,99,100,101,102,103,104,105,106,107,108,109,110,111,112,113,114,115,116,117,118,119,120,121,122]) (aj .u64 (ab .u64 u 4) 15)).bind fun x6 =>
   if (decide ((ab .u64 (ab .u64 u 4) 4)≥16))=true then
    (ae (ByteArray.mk #[48,49,50,51,52,53,54,55,56,57,97,98,99,100,101,102,103,104,105,106,107,108,109,110,111,112,113,114,115,116,117,118,119,120,121,122]) (aj .u64 (ab .u64 (ab .u64 u 4) 4) 15)).bind fun x8 =>
    if (decide ((ab .u64 (ab .u64 (ab .u64 u 4) 4) 4)≥16))=true then
     (ae (ByteArray.mk #[48,49,50,51,52,53,54,55,56,57,97,98,99,100,101,102,103,104,105,106,107,108,109,110,111,112,113,114,115,116,117,118,119,120,121,122]) (aj .u64 (ab .u64 (ab .u64 (ab .u64 u 4) 4) 4) 15)).bind fun x10 =>
     if (decide ((ab .u64 (ab .u64 (ab .u64 (ab .u64 u 4) 4) 4) 4)≥16))=true then
      (ae (ByteArray.mk #[48,49,50,51,52,53,54,55,56,57,97,98,99,100,101,102,103,104,105,106,107,108,109,110,111,112,113,114,115,116,117,118,119,120,121,122]) (aj .u64 (ab .u64 (ab .u64 (ab .u64 (ab .u64 u 4) 4) 4) 4) 15)).bind fun x12 =>
      if (decide ((ab .u64 (ab .u64 (ab .u64 (ab .u64 (ab .u64 u 4) 4) 4) 4) 4)≥16))=true then
       (ae (ByteArray.mk #[48,49,50,51,52,53,54,55,56,57,97,98,99,100,101,102,103,104,105,106,107,108,109,110,111,112,113,114,115,116,117,118,119,120,121,122]) (aj .u64 (ab .u64 (ab .u64 (ab .u64 (ab .u64 (ab .u64 u 4) 4) 4) 4) 4) 15)).bind fun x14 =>
       if (decide ((ab .u64 (ab .u64 (ab .u64 (ab .u64 (ab .u64 (ab .u64 u 4) 4) 4) 4) 4) 4)≥16))=true then
        (ae (ByteArray.mk #[48,49,50,51,52,53,54,55,56,57,97,98,99,100,101,102,103,104,105,106,107,108,109,110,111,112,113,114,115,116,117,118,119,120,121,122]) (aj .u64 (ab .u64 (ab .u64 (ab .u64 (ab .u64 (ab .u64 (ab .u64 u 4) 4) 4) 4) 4) 4) 15)).bind fun x16 =>
        if (decide ((ab .u64 (ab .u64 (ab .u64 (ab .u64 (ab .u64 (ab .u64 (ab .u64 u 4) 4) 4) 4) 4) 4) 4)≥16))=true then
         (ae (ByteArray.mk #[48,49,50,51,52,53,54,55,56,57,97,98,99,100,101,102,103,104,105,106,107,108,109,110,111,112,113,114,115,116,117,118,119,120,121,122]) (aj .u64 (ab .u64 (ab .u64 (ab .u64 (ab .u64 (ab .u64 (ab .u64 (ab .u64 u 4) 4) 4) 4) 4) 4) 4) 15)).bind fun x18 =>
         if (decide ((ab .u64 (ab .u64 (ab .u64 (ab .u64 (ab .u64 (ab .u64 (ab .u64 (ab .u64 u 4) 4) 4) 4) 4) 4) 4) 4)≥16))=true then
          (ae (ByteArray.mk #[48,49,50,51,52,53,54,55,56,57,97,98,99,100,101,102,103,104,105,106,107,108,109,110,111,112,113,114,115,116,117,118,119,120,121,122]) (aj .u64 (ab .u64 (ab .u64 (ab .u64 (ab .u64 (ab .u64 (ab .u64 (ab .u64 (ab .u64 u 4) 4) 4) 4) 4) 4) 4) 4) 15)).bind fun x20 =>
          if (decide ((ab .u64 (ab .u64 (ab .u64 (ab .u64 (ab .u64 (ab .u64 (ab .u64 (ab .u64 (ab .u64 u 4) 4) 4) 4) 4) 4) 4) 4) 4)≥16))=true then
           (ae (ByteArray.mk #[48,49,50,51,52,53,54,55,56,57,97,98,99,100,101,102,103,104,105,106,107,108,109,110,111,112,113,114,115,116,117,118,119,120,121,122]) (aj .u64 (ab .u64 (ab .u64 (ab .u64 (ab .u64 (ab .u64 (ab .u64 (ab .u64 (ab .u64 (ab .u64 u 4) 4) 4) 4) 4) 4) 4) 4) 4) 15)).bind fun x22 =>
           if (decide ((ab .u64 (ab .u64 (ab .u64 (ab .u64 (ab .u64 (ab .u64 (ab .u64 (ab .u64 (ab .u64 (ab .u64 u 4) 4) 4) 4) 4) 4) 4) 4) 4) 4)≥16))=true then
            (ae (ByteArray.mk #[48,49,50,51,52,53,54,55,56,57,97,98,99,100,101,102,103,104,105,106,107,108,109,110,111,112,113,114,115,116,117,118,119,120,121,122]) (aj .u64 (ab .u64 (ab .u64 (ab .u64 (ab .u64 (ab .u64 (ab .u64 (ab .u64 (ab .u64 (ab .u64 (ab .u64 u 4) 4) 4) 4) 4) 4) 4) 4) 4) 4) 15)).bind fun x24 =>
            if (decide ((ab .u64 (ab .u64 (ab .u64 (ab .u64 (ab .u64 (ab .u64 (ab .u64 (ab .u64 (ab .u64 (ab .u64 (ab .u64 u 4) 4) 4) 4) 4) 4) 4) 4) 4) 4) 4)≥16))=true then
             (ae (ByteArray.mk #[48,49,50,51,52,53,54,55,56,57,97,98,99,100,101,102,103,104,105,106,107,108,109,110,111,112,113,114,115,116,117,118,119,120,121,122]) (aj .u64 (ab .u64 (ab .u64 (ab .u64 (ab .u64 (ab .u64 (ab .u64 (ab .u64 (ab .u64 (ab .u64 (ab .u64 (ab .u64 u 4) 4) 4) 4) 4) 4) 4) 4) 4) 4) 4) 15)).bind fun x26 =>
             if (decide ((ab .u64 (ab .u64 (ab .u64 (ab .u64 (ab .u64 (ab .u64 (ab .u64 (ab .u64 (ab .u64 (ab .u64 (ab .u64 (ab .u64 u 4) 4) 4) 4) 4) 4) 4) 4) 4) 4) 4) 4)≥16))=true then
              (ae (ByteArray.mk #[48,49,50,51,52,53,54,55,56,57,97,98,99,100,101,102,103,104,105,106,107,108,109,110,111,112,113,114,115,116,117,118,119,120,121,122]) (aj .u64 (ab .u64 (ab .u64 (ab .u64 (ab .u64 (ab .u64 (ab .u64 (ab .u64 (ab .u64 (ab .u64 (ab .u64 (ab .u64 (ab .u64 u 4) 4) 4) 4) 4) 4) 4) 4) 4) 4) 4) 4) 15)).bind fun x28 =>
              if (decide ((ab .u64 (ab .u64 (ab .u64 (ab .u64 (ab .u64 (ab .u64 (ab .u64 (ab .u64 (ab .u64 (ab .u64 (ab .u64 (ab .u64 (ab .u64 u 4) 4) 4) 4) 4) 4) 4) 4) 4) 4) 4) 4) 4)≥16))=true then
               (ae (ByteArray.mk #[48,49,50,51,52,53,54,55,56,57,97,98,99,100,101,102,103,104,105,106,107,108,109,110,111,112,113,114,115,116,117,118,119,120,121,122]) (aj .u64 (ab .u64 (ab .u64 (ab .u64 (ab .u64 (ab .u64 (ab .u64 (ab .u64 (ab .u64 (ab .u64 (ab .u64 (ab .u64 (ab .u64 (ab .u64 u 4) 4) 4) 4) 4) 4) 4) 4) 4) 4) 4) 4) 4) 15)).bind fun x30 =>
               if (decide ((ab .u64 (ab .u64 (ab .u64 (ab .u64 (ab .u64 (ab .u64 (ab .u64 (ab .u64 (ab .u64 (ab .u64 (ab .u64 (ab .u64 (ab .u64 (ab .u64 u 4) 4) 4) 4) 4) 4) 4) 4) 4) 4) 4) 4) 4) 4)≥16))=true then
                (ae (ByteArray.mk #[48,49,50,51,52,53,54,55,56,57,97,98,99,100,101,102,103,104,105,106,107,108,109,110,111,112,113,114,115,116,117,118,119,120,121,122]) (aj .u64 (ab .u64 (ab .u64 (ab .u64 (ab .u64 (ab .u64 (ab .u64 (ab .u64 (ab .u64 (ab .u64 (ab .u64 (ab .u64 (ab .u64 (ab .u64 (ab .u64 u 4) 4) 4) 4) 4) 4) 4) 4) 4) 4) 4) 4) 4) 4) 15)).bind fun x32 =>
                if (decide ((ab .u64 (ab .u64 (ab .u64 (ab .u64 (ab .u64 (ab .u64 (ab .u64 (ab .u64 (ab .u64 (ab .u64 (ab .u64 (ab .u64 (ab .u64 (ab .u64 (ab .u64 u 4) 4) 4) 4) 4) 4) 4) 4) 4) 4) 4) 4) 4) 4) 4)≥16))=true then
                 (ae (ByteArray.mk #[48,49,50,51,52,53,54,55,56,57,97,98,99,100,101,102,103,104,105,106,107,108,109,110,111,112,113,114,115,116,117,118,119,120,121,122]) (aj .u64 (ab .u64 (ab .u64 (ab .u64 (ab .u64 (ab .u64 (ab .u64 (ab .u64 (ab .u64 (ab .u64 (ab .u64 (ab .u64 (ab .u64 (ab .u64 (ab .u64 (ab .u64 u 4) 4) 4) 4) 4) 4) 4) 4) 4) 4) 4) 4) 4) 4) 4) 15)).bind fun x34 =>
                 none
                else
                 (ae (ByteArray.mk #[48,49,50,51,52,53,54,55,56,57,97,98,99,100,101,102,103,104,105,106,107,108,109,110,111,112,113,114,115,116,117,118,119,120,121,122]) (ab .u64 (ab .u64 (ab .u64 (ab .u64 (ab .u64 (ab .u64 (ab .u64 (ab .u64 (ab .u64 (ab .u64 (ab .u64 (ab .u64 (ab .u64 (ab .u64 (ab .u64 u 4) 4) 4) 4) 4) 4) 4) 4) 4) 4) 4) 4) 4) 4) 4)).bind fun x34 =>
                 grd (Nat.ble ((oA.length + 16) * 1) 140737488355328) <|
                 some ((ByteArray.mk #[]),(oA++([x34,x32,x30,x28,x26,x24,x22,x20,x18,x16,x14,x12,x10,x8,x6,x4]:List Int)))
               else
                (ae (ByteArray.mk #[48,49,50,51,52,53,54,55,56,57,97,98,99,100,101,102,103,104,105,106,107,108,109,110,111,112,113,114,115,116,117,118,119,120,121,122]) (ab .u64 (ab .u64 (ab .u64 (ab .u64 (ab .u64 (ab .u64 (ab .u64 (ab .u64 (ab .u64 (ab .u64 (ab .u64 (ab .u64 (ab .u64 (ab .u64 u 4) 4) 4) 4) 4) 4) 4) 4) 4) 4) 4) 4) 4) 4)).bind fun x32 =>
                grd (Nat.ble ((oA.length + 15) * 1) 140737488355328) <|
                some ((ByteArray.mk #[]),(oA++([x32,x30,x28,x26,x24,x22,x20,x18,x16,x14,x12,x10,x8,x6,x4]:List Int)))
              else
               (ae (ByteArray.mk #[48,49,50,51,52,53,54,55,56,57,97,98,99,100,101,102,103,104,105,106,107,108,109,110,111,112,113,114,115,116,117,118,119,120,121,122]) (ab .u64 (ab .u64 (ab .u64 (ab .u64 (ab .u64 (ab .u64 (ab .u64 (ab .u64 (ab .u64 (ab .u64 (ab .u64 (ab .u64 (ab .u64 u 4) 4) 4) 4) 4) 4) 4) 4) 4) 4) 4) 4) 4)).bind fun x30 =>
               grd (Nat.ble ((oA.length + 14) * 1) 140737488355328) <|
               some ((ByteArray.mk #[]),(oA++([x30,x28,x26,x24,x22,x20,x18,x16,x14,x12,x10,x8,x6,x4]:List Int)))
             else
              (ae (ByteArray.mk #[48,49,50,51,52,53,54,55,56,57,97,98,99,100,101,102,103,104,105,106,107,108,109,110,111,112,113,114,115,116,117,118,119,120,121,122]) (ab .u64 (ab .u64 (ab .u64 (ab .u64 (ab .u64 (ab .u64 (ab .u64 (ab .u64 (ab .u64 (ab .u64 (ab .u64 (ab .u64 u 4) 4) 4) 4) 4) 4) 4) 4) 4) 4) 4) 4)).bind fun x28 =>
              grd (Nat.ble ((oA.length + 13) * 1) 140737488355328) <|
              some ((ByteArray.mk #[]),(oA++([x28,x26,x24,x22,x20,x18,x16,x14,x12,x10,x8,x6,x4]:List Int)))
            else
             (ae (ByteArray.mk #[48,49,50,51,52,53,54,55,56,57,97,98,99,100,101,102,103,104,105,106,107,108,109,110,111,112,113,114,115,116,117,118,119,120,121,122]) (ab .u64 (ab .u64 (ab .u64 (ab .u64 (ab .u64 (ab .u64 (ab .u64 (ab .u64 (ab .u64 (ab .u64 (ab .u64 u 4) 4) 4) 4) 4) 4) 4) 4) 4) 4) 4)).bind fun x26 =>
             grd (Nat.ble ((oA.length + 12) * 1) 140737488355328) <|
             some ((ByteArray.mk #[]),(oA++([x26,x24,x22,x20,x18,x16,x14,x12,x10,x8,x6,x4]:List Int)))
           else
            (ae (ByteArray.mk #[48,49,50,51,52,53,54,55,56,57,97,98,99,100,101,102,103,104,105,106,107,108,109,110,111,112,113,114,115,116,117,118,119,120,121,122]) (ab .u64 (ab .u64 (ab .u64 (ab .u64 (ab .u64 (ab .u64 (ab .u64 (ab .u64 (ab .u64 (ab .u64 u 4) 4) 4) 4) 4) 4) 4) 4) 4) 4)).bind fun x24 =>
            grd (Nat.ble ((oA.length + 11) * 1) 140737488355328) <|
            some ((ByteArray.mk #[]),(oA++([x24,x22,x20,x18,x16,x14,x12,x10,x8,x6,x4]:List Int)))
          else
           (ae (ByteArray.mk #[48,49,50,51,52,53,54,55,56,57,97,98,99,100,101,102,103,104,105,106,107,108,109,110,111,112,113,114,115,116,117,118,119,120,121,122]) (ab .u64 (ab .u64 (ab .u64 (ab .u64 (ab .u64 (ab .u64 (ab .u64 (ab .u64 (ab .u64 u 4) 4) 4) 4) 4) 4) 4) 4) 4)).bind fun x22 =>
           grd (Nat.ble ((oA.length + 10) * 1) 140737488355328) <|
           some ((ByteArray.mk #[]),(oA++([x22,x20,x18,x16,x14,x12,x10,x8,x6,x4]:List Int)))
         else
          (ae (ByteArray.mk #[48,49,50,51,52,53,54,55,56,57,97,98,99,100,101,102,103,104,105,106,107,108,109,110,111,112,113,114,115,116,117,118,119,120,121,122]) (ab .u64 (ab .u64 (ab .u64 (ab .u64 (ab .u64 (ab .u64 (ab .u64 (ab .u64 u 4) 4) 4) 4) 4) 4) 4) 4)).bind fun x20 =>
          grd (Nat.ble ((oA.length + 9) * 1) 140737488355328) <|
          some ((ByteArray.mk #[]),(oA++([x20,x18,x16,x14,x12,x10,x8,x6,x4]:List Int)))
        else
         (ae (ByteArray.mk #[48,49,50,51,52,53,54,55,56,57,97,98,99,100,101,102,103,104,105,106,107,108,109,110,111,112,113,114,115,116,117,118,119,120,121,122]) (ab .u64 (ab .u64 (ab .u64 (ab .u64 (ab .u64 (ab .u64 (ab .u64 u 4) 4) 4) 4) 4) 4) 4)).bind fun x18 =>
         grd (Nat.ble ((oA.length + 8) * 1) 140737488355328) <|
         some ((ByteArray.mk #[]),(oA++([x18,x16,x14,x12,x10,x8,x6,x4]:List Int)))
       else
        (ae (ByteArray.mk #[48,49,50,51,52,53,54,55,56,57,97,98,99,100,101,102,103,104,105,106,107,108,109,110,111,112,113,114,115,116,117,118,119,120,121,122]) (ab .u64 (ab .u64 (ab .u64 (ab .u64 (ab .u64 (ab .u64 u 4) 4) 4) 4) 4) 4)).bind fun x16 =>
        grd (Nat.ble ((oA.length + 7) * 1) 140737488355328) <|
        some ((ByteArray.mk #[]),(oA++([x16,x14,x12,x10,x8,x6,x4]:List Int)))
      else
       (ae (ByteArray.mk #[48,49,50,51,52,53,54,55,56,57,97,98,99,100,101,102,103,104,105,106,107,108,109,110,111,112,113,114,115,116,117,118,119,120,121,122]) (ab .u64 (ab .u64 (ab .u64 (ab .u64 (ab .u64 u 4) 4) 4) 4) 4)).bind fun x14 =>
       grd (Nat.ble ((oA.length + 6) * 1) 140737488355328) <|
       some ((ByteArray.mk #[]),(oA++([x14,x12,x10,x8,x6,x4]:List Int)))
     else
      (ae (ByteArray.mk #[48,49,50,51,52,53,54,55,56,57,97,98,99,100,101,102,103,104,105,106,107,108,109,110,111,112,113,114,115,116,117,118,119,120,121,122]) (ab .u64 (ab .u64 (ab .u64 (ab .u64 u 4) 4) 4) 4)).bind fun x12 =>
      grd (Nat.ble ((oA.length + 5) * 1) 140737488355328) <|
      some ((ByteArray.mk #[]),(oA++([x12,x10,x8,x6,x4]:List Int)))
    else
     (ae (ByteArray.mk #[48,49,50,51,52,53,54,55,56,57,97,98,99,100,101,102,103,104,105,106,107,108,109,110,111,112,113,114,115,116,117,118,119,120,121,122]) (ab .u64 (ab .u64 (ab .u64 u 4) 4) 4)).bind fun x10 =>
     grd (Nat.ble ((oA.length + 4) * 1) 140737488355328) <|
     some ((ByteArray.mk #[]),(oA++([x10,x8,x6,x4]:List Int)))
   else
    (ae (ByteArray.mk #[48,49,50,51,52,53,54,55,56,57,97,98,99,100,101,102,103,104,105,106,107,108,109,110,111,112,113,114,115,116,117,118,119,120,121,122]) (ab .u64 (ab .u64 u 4) 4)).bind fun x8 =>
    grd (Nat.ble ((oA.length + 3) * 1) 140737488355328) <|
    some ((ByteArray.mk #[]),(oA++([x8,x6,x4]:List Int)))
  else
   (ae (ByteArray.mk #[48,49,50,51,52,53,54,55,56,57,97,98,99,100,101,102,103,104,105,106,107,108,109,110,111,112,113,114,115,116,117,118,119,120,121,122]) (ab .u64 u 4)).bind fun x6 =>
   grd (Nat.ble ((oA.length + 2) * 1) 140737488355328) <|
   some ((ByteArray.mk #[]),(oA++([x6,x4]:List Int)))
 else
  (ae (ByteArray.mk #[48,49,50,51,52,53,54,55,56,57,97,98,99,100,101,102,103,104,105,106,107,108,109,110,111,112,113,114,115,116,117,118,119,120,121,122]) u).bind fun x4 =>
  grd (Nat.ble ((oA.length + 1) * 1) 140737488355328) <|
  some ((ByteArray.mk #[]),(oA++([x4]:List Int)))
def cu (n:Nat) (i:Int) (oA:(List Int)):Option (List Int) :=
 (bJ n i oA).bind fun y1 =>
 some y1.2
def bD (n:Nat) (i:Int) (oA:(List Int)):Option (List Int) :=
 (cu n i oA).bind fun y1 =>
 some y1
def ed (n:Nat) (u:Int) (oA:(List Int)):Option (ByteArray×(List Int)) :=
 (bP n).bind fun y1 =>
 (cW n).bind fun y2 =>
 if (decide (u≥16))=true then
  (ae (ByteArray.mk #[48,49,50,51,52,53,54,55,56,57,97,98,99,100,101,102,103,104,105,106,107,108,109,110,111,112,113,114,115,116,117,118,119,120,121,122]) (aj .u64 u 15)).bind fun x4 =>
  if (decide ((ab .u64 u 4)≥16))=true then
   (ae (ByteArray.mk #[48,49,50,51,52,53,54,55,56,57,97,98,99,100,101,102,103,104,105,106,107,108,109,110,111,112,113,114,115,116,117,118,119,120,121,122]) (aj .u64 (ab .u64 u 4) 15)).bind fun x6 =>
   if (decide ((ab .u64 (ab .u64 u 4) 4)≥16))=true then
    (ae (ByteArray.mk #[48,49,50,51,52,53,54,55,56,57,97,98,99,100,101,102,103,104,105,106,107,108,109,110,111,112,113,114,115,116,117,118,119,120,121,122]) (aj .u64 (ab .u64 (ab .u64 u 4) 4) 15)).bind fun x8 =>
    if (decide ((ab .u64 (ab .u64 (ab .u64 u 4) 4) 4)≥16))=true then
     (ae (ByteArray.mk #[48,49,50,51,52,53,54,55,56,57,97,98,99,100,101,102,103,104,105,106,107,108,109,110,111,112,113,114,115,116,117,118,119,120,121,122]) (aj .u64 (ab .u64 (ab .u64 (ab .u64 u 4) 4) 4) 15)).bind fun x10 =>
     if (decide ((ab .u64 (ab .u64 (ab .u64 (ab .u64 u 4) 4) 4) 4)≥16))=true then
      (ae (ByteArray.mk #[48,49,50,51,52,53,54,55,56,57,97,98,99,100,101,102,103,104,105,106,107,108,109,110,111,112,113,114,115,116,117,118,119,120,121,122]) (aj .u64 (ab .u64 (ab .u64 (ab .u64 (ab .u64 u 4) 4) 4) 4) 15)).bind fun x12 =>
      if (decide ((ab .u64 (ab .u64 (ab .u64 (ab .u64 (ab .u64 u 4) 4) 4) 4) 4)≥16))=true then
       (ae (ByteArray.mk #[48,49,50,51,52,53,54,55,56,57,97,98,99,100,101,102,103,104,105,106,107,108,109,110,111,112,113,114,115,116,117,118,119,120,121,122]) (aj .u64 (ab .u64 (ab .u64 (ab .u64 (ab .u64 (ab .u64 u 4) 4) 4) 4) 4) 15)).bind fun x14 =>
       if (decide ((ab .u64 (ab .u64 (ab .u64 (ab .u64 (ab .u64 (ab .u64 u 4) 4) 4) 4) 4) 4)≥16))=true then
        (ae (ByteArray.mk #[48,49,50,51,52,53,54,55,56,57,97,98,99,100,101,102,103,104,105,106,107,108,109,110,111,112,113,114,115,116,117,118,119,120,121,122]) (aj .u64 (ab .u64 (ab .u64 (ab .u64 (ab .u64 (ab .u64 (ab .u64 u 4) 4) 4) 4) 4) 4) 15)).bind fun x16 =>
        if (decide ((ab .u64 (ab .u64 (ab .u64 (ab .u64 (ab .u64 (ab .u64 (ab .u64 u 4) 4) 4) 4) 4) 4) 4)≥16))=true then
         (ae (ByteArray.mk #[48,49,50,51,52,53,54,55,56,57,97,98,99,100,101,102,103,104,105,106,107,108,109,110,111,112,113,114,115,116,117,118,119,120,121,122]) (aj .u64 (ab .u64 (ab .u64 (ab .u64 (ab .u64 (ab .u64 (ab .u64 (ab .u64 u 4) 4) 4) 4) 4) 4) 4) 15)).bind fun x18 =>
         if (decide ((ab .u64 (ab .u64 (ab .u64 (ab .u64 (ab .u64 (ab .u64 (ab .u64 (ab .u64 u 4) 4) 4) 4) 4) 4) 4) 4)≥16))=true then
          (ae (ByteArray.mk #[48,49,50,51,52,53,54,55,56,57,97,98,99,100,101,102,103,104,105,106,107,108,109,110,111,112,113,114,115,116,117,118,119,120,121,122]) (aj .u64 (ab .u64 (ab .u64 (ab .u64 (ab .u64 (ab .u64 (ab .u64 (ab .u64 (ab .u64 u 4) 4) 4) 4) 4) 4) 4) 4) 15)).bind fun x20 =>
          if (decide ((ab .u64 (ab .u64 (ab .u64 (ab .u64 (ab .u64 (ab .u64 (ab .u64 (ab .u64 (ab .u64 u 4) 4) 4) 4) 4) 4) 4) 4) 4)≥16))=true then
           (ae (ByteArray.mk #[48,49,50,51,52,53,54,55,56,57,97,98,99,100,101,102,103,104,105,106,107,108,109,110,111,112,113,114,115,116,117,118,119,120,121,122]) (aj .u64 (ab .u64 (ab .u64 (ab .u64 (ab .u64 (ab .u64 (ab .u64 (ab .u64 (ab .u64 (ab .u64 u 4) 4) 4) 4) 4) 4) 4) 4) 4) 15)).bind fun x22 =>
           if (decide ((ab .u64 (ab .u64 (ab .u64 (ab .u64 (ab .u64 (ab .u64 (ab .u64 (ab .u64 (ab .u64 (ab .u64 u 4) 4) 4) 4) 4) 4) 4) 4) 4) 4)≥16))=true then
            (ae (ByteArray.mk #[48,49,50,51,52,53,54,55,56,57,97,98,99,100,101,102,103,104,105,106,107,108,109,110,111,112,113,114,115,116,117,118,119,120,121,122]) (aj .u64 (ab .u64 (ab .u64 (ab .u64 (ab .u64 (ab .u64 (ab .u64 (ab .u64 (ab .u64 (ab .u64 (ab .u64 u 4) 4) 4) 4) 4) 4) 4) 4) 4) 4) 15)).bind fun x24 =>
            if (decide ((ab .u64 (ab .u64 (ab .u64 (ab .u64 (ab .u64 (ab .u64 (ab .u64 (ab .u64 (ab .u64 (ab .u64 (ab .u64 u 4) 4) 4) 4) 4) 4) 4) 4) 4) 4) 4)≥16))=true then
             (ae (ByteArray.mk #[48,49,50,51,52,53,54,55,56,57,97,98,99,100,101,102,103,104,105,106,107,108,109,110,111,112,113,114,115,116,117,118,119,120,121,122]) (aj .u64 (ab .u64 (ab .u64 (ab .u64 (ab .u64 (ab .u64 (ab .u64 (ab .u64 (ab .u64 (ab .u64 (ab .u64 (ab .u64 u 4) 4) 4) 4) 4) 4) 4) 4) 4) 4) 4) 15)).bind fun x26 =>
             if (decide ((ab .u64 (ab .u64 (ab .u64 (ab .u64 (ab .u64 (ab .u64 (ab .u64 (ab .u64 (ab .u64 (ab .u64 (ab .u64 (ab .u64 u 4) 4) 4) 4) 4) 4) 4) 4) 4) 4) 4) 4)≥16))=true then
              (ae (ByteArray.mk #[48,49,50,51,52,53,54,55,56,57,97,98,99,100,101,102,103,104,105,106,107,108,109,110,111,112,113,114,115,116,117,118,119,120,121,122]) (aj .u64 (ab .u64 (ab .u64 (ab .u64 (ab .u64 (ab .u64 (ab .u64 (ab .u64 (ab .u64 (ab .u64 (ab .u64 (ab .u64 (ab .u64 u 4) 4) 4) 4) 4) 4) 4) 4) 4) 4) 4) 4) 15)).bind fun x28 =>
              if (decide ((ab .u64 (ab .u64 (ab .u64 (ab .u64 (ab .u64 (ab .u64 (ab .u64 (ab .u64 (ab .u64 (ab .u64 (ab .u64 (ab .u64 (ab .u64 u 4) 4) 4) 4) 4) 4) 4) 4) 4) 4) 4) 4) 4)≥16))=true then
               (ae (ByteArray.mk #[48,49,50,51,52,53,54,55,56,57,97,98,99,100,101,102,103,104,105,106,107,108,109,110,111,112,113,114,115,116,117,118,119,120,121,122]) (aj .u64 (ab .u64 (ab .u64 (ab .u64 (ab .u64 (ab .u64 (ab .u64 (ab .u64 (ab .u64 (ab .u64 (ab .u64 (ab .u64 (ab .u64 (ab .u64 u 4) 4) 4) 4) 4) 4) 4) 4) 4) 4) 4) 4) 4) 15)).bind fun x30 =>
               if (decide ((ab .u64 (ab .u64 (ab .u64 (ab .u64 (ab .u64 (ab .u64 (ab .u64 (ab .u64 (ab .u64 (ab .u64 (ab .u64 (ab .u64 (ab .u64 (ab .u64 u 4) 4) 4) 4) 4) 4) 4) 4) 4) 4) 4) 4) 4) 4)≥16))=true then
                (ae (ByteArray.mk #[48,49,50,51,52,53,54,55,56,57,97,98,99,100,101,102,103,104,105,106,107,108,109,110,111,112,113,114,115,116,117,118,119,120,121,122]) (aj .u64 (ab .u64 (ab .u64 (ab .u64 (ab .u64 (ab .u64 (ab .u64 (ab .u64 (ab .u64 (ab .u64 (ab .u64 (ab .u64 (ab .u64 (ab .u64 (ab .u64 u 4) 4) 4) 4) 4) 4) 4) 4) 4) 4) 4) 4) 4) 4) 15)).bind fun x32 =>
                if (decide ((ab .u64 (ab .u64 (ab .u64 (ab .u64 (ab .u64 (ab .u64 (ab .u64 (ab .u64 (ab .u64 (ab .u64 (ab .u64 (ab .u64 (ab .u64 (ab .u64 (ab .u64 u 4) 4) 4) 4) 4) 4) 4) 4) 4) 4) 4) 4) 4) 4) 4)≥16))=true then
                 (ae (ByteArray.mk #[48,49,50,51,52,53,54,55,56,57,97,98,99,100,101,102,103,104,105,106,107,108,109,110,111,112,113,114,115,116,117,118,119,120,121,122]) (aj .u64 (ab .u64 (ab .u64 (ab .u64 (ab .u64 (ab .u64 (ab .u64 (ab .u64 (ab .u64 (ab .u64 (ab .u64 (ab .u64 (ab .u64 (ab .u64 (ab .u64 (ab .u64 u 4) 4) 4) 4) 4) 4) 4) 4) 4) 4) 4) 4) 4) 4) 4) 15)).bind fun x34 =>
                 none
                else
                 (ae (ByteArray.mk #[48,49,50,51,52,53,54,55,56,57,97,98,99,100,101,102,103,104,105,106,107,108,109,110,111,112,113,114,115,116,117,118,119,120,121,122]) (ab .u64 (ab .u64 (ab .u64 (ab .u64 (ab .u64 (ab .u64 (ab .u64 (ab .u64 (ab .u64 (ab .u64 (ab .u64 (ab .u64 (ab .u64 (ab .u64 (ab .u64 u 4) 4) 4) 4) 4) 4) 4) 4) 4) 4) 4) 4) 4) 4) 4)).bind fun x34 =>
                 grd (Nat.ble ((oA.length + 16) * 1) 140737488355328) <|
                 some ((ByteArray.mk #[]),(oA++([x34,x32,x30,x28,x26,x24,x22,x20,x18,x16,x14,x12,x10,x8,x6,x4]:List Int)))
               else
                (ae (ByteArray.mk #[48,49,50,51,52,53,54,55,56,57,97,98,99,100,101,102,103,104,105,106,107,108,109,110,111,112,113,114,115,116,117,118,119,120,121,122]) (ab .u64 (ab .u64 (ab .u64 (ab .u64 (ab .u64 (ab .u64 (ab .u64 (ab .u64 (ab .u64 (ab .u64 (ab .u64 (ab .u64 (ab .u64 (ab .u64 u 4) 4) 4) 4) 4) 4) 4) 4) 4) 4) 4) 4) 4) 4)).bind fun x32 =>
                grd (Nat.ble ((oA.length + 15) * 1) 140737488355328) <|
                some ((ByteArray.mk #[]),(oA++([x32,x30,x28,x26,x24,x22,x20,x18,x16,x14,x12,x10,x8,x6,x4]:List Int)))
              else
               (ae (ByteArray.mk #[48,49,50,51,52,53,54,55,56,57,97,98,99,100,101,102,103,104,105,106,107,108,109,110,111,112,113,114,115,116,117,118,119,120,121,122]) (ab .u64 (ab .u64 (ab .u64 (ab .u64 (ab .u64 (ab .u64 (ab .u64 (ab .u64 (ab .u64 (ab .u64 (ab .u64 (ab .u64 (ab .u64 u 4) 4) 4) 4) 4) 4) 4) 4) 4) 4) 4) 4) 4)).bind fun x30 =>
               grd (Nat.ble ((oA.length + 14) * 1) 140737488355328) <|
               some ((ByteArray.mk #[]),(oA++([x30,x28,x26,x24,x22,x20,x18,x16,x14,x12,x10,x8,x6,x4]:List Int)))
             else
              (ae (ByteArray.mk #[48,49,50,51,52,53,54,55,56,57,97,98,99,100,101,102,103,104,105,106,107,108,109,110,111,112,113,114,115,116,117,118,119,120,121,122]) (ab .u64 (ab .u64 (ab .u64 (ab .u64 (ab .u64 (ab .u64 (ab .u64 (ab .u64 (ab .u64 (ab .u64 (ab .u64 (ab .u64 u 4) 4) 4) 4) 4) 4) 4) 4) 4) 4) 4) 4)).bind fun x28 =>
              grd (Nat.ble ((oA.length + 13) * 1) 140737488355328) <|
              some ((ByteArray.mk #[]),(oA++([x28,x26,x24,x22,x20,x18,x16,x14,x12,x10,x8,x6,x4]:List Int)))
            else
             (ae (ByteArray.mk #[48,49,50,51,52,53,54,55,56,57,97,98,99,100,101,102,103,104,105,106,107,108,109,110,111,112,113,114,115,116,117,118,119,120,121,122]) (ab .u64 (ab .u64 (ab .u64 (ab .u64 (ab .u64 (ab .u64 (ab .u64 (ab .u64 (ab .u64 (ab .u64 (ab .u64 u 4) 4) 4) 4) 4) 4) 4) 4) 4) 4) 4)).bind fun x26 =>
             grd (Nat.ble ((oA.length + 12) * 1) 140737488355328) <|
             some ((ByteArray.mk #[]),(oA++([x26,x24,x22,x20,x18,x16,x14,x12,x10,x8,x6,x4]:List Int)))
           else
            (ae (ByteArray.mk #[48,49,50,51,52,53,54,55,56,57,97,98,99,100,101,102,103,104,105,106,107,108,109,110,111,112,113,114,115,116,117,118,119,120,121,122]) (ab .u64 (ab .u64 (ab .u64 (ab .u64 (ab .u64 (ab .u64 (ab .u64 (ab .u64 (ab .u64 (ab .u64 u 4) 4) 4) 4) 4) 4) 4) 4) 4) 4)).bind fun x24 =>
            grd (Nat.ble ((oA.length + 11) * 1) 140737488355328) <|
            some ((ByteArray.mk #[]),(oA++([x24,x22,x20,x18,x16,x14,x12,x10,x8,x6,x4]:List Int)))
          else
           (ae (ByteArray.mk #[48,49,50,51,52,53,54,55,56,57,97,98,99,100,101,102,103,104,105,106,107,108,109,110,111,112,113,114,115,116,117,118,119,120,121,122]) (ab .u64 (ab .u64 (ab .u64 (ab .u64 (ab .u64 (ab .u64 (ab .u64 (ab .u64 (ab .u64 u 4) 4) 4) 4) 4) 4) 4) 4) 4)).bind fun x22 =>
           grd (Nat.ble ((oA.length + 10) * 1) 140737488355328) <|
           some ((ByteArray.mk #[]),(oA++([x22,x20,x18,x16,x14,x12,x10,x8,x6,x4]:List Int)))
         else
          (ae (ByteArray.mk #[48,49,50,51,52,53,54,55,56,57,97,98,99,100,101,102,103,104,105,106,107,108,109,110,111,112,113,114,115,116,117,118,119,120,121,122]) (ab .u64 (ab .u64 (ab .u64 (ab .u64 (ab .u64 (ab .u64 (ab .u64 (ab .u64 u 4) 4) 4) 4) 4) 4) 4) 4)).bind fun x20 =>
          grd (Nat.ble ((oA.length + 9) * 1) 140737488355328) <|
          some ((ByteArray.mk #[]),(oA++([x20,x18,x16,x14,x12,x10,x8,x6,x4]:List Int)))
        else
         (ae (ByteArray.mk #[48,49,50,51,52,53,54,55,56,57,97,98,99,100,101,102,103,104,105,106,107,108,109,110,111,112,113,114,115,116,117,118,119,120,121,122]) (ab .u64 (ab .u64 (ab .u64 (ab .u64 (ab .u64 (ab .u64 (ab .u64 u 4) 4) 4) 4) 4) 4) 4)).bind fun x18 =>
         grd (Nat.ble ((oA.length + 8) * 1) 140737488355328) <|
         some ((ByteArray.mk #[]),(oA++([x18,x16,x14,x12,x10,x8,x6,x4]:List Int)))
       else
        (ae (ByteArray.mk #[48,49,50,51,52,53,54,55,56,57,97,98,99,100,101,102,103,104,105,106,107,108,109,110,111,112,113,114,115,116,117,118,119,120,121,122]) (ab .u64 (ab .u64 (ab .u64 (ab .u64 (ab .u64 (ab .u64 u 4) 4) 4) 4) 4) 4)).bind fun x16 =>
        grd (Nat.ble ((oA.length + 7) * 1) 140737488355328) <|
        some ((ByteArray.mk #[]),(oA++([x16,x14,x12,x10,x8,x6,x4]:List Int)))
      else
       (ae (ByteArray.mk #[48,49,50,51,52,53,54,55,56,57,97,98,99,100,101,102,103,104,105,106,107,108,109,110,111,112,113,114,115,116,117,118,119,120,121,122]) (ab .u64 (ab .u64 (ab .u64 (ab .u64 (ab .u64 u 4) 4) 4) 4) 4)).bind fun x14 =>
       grd (Nat.ble ((oA.length + 6) * 1) 140737488355328) <|
       some ((ByteArray.mk #[]),(oA++([x14,x12,x10,x8,x6,x4]:List Int)))
     else
      (ae (ByteArray.mk #[48,49,50,51,52,53,54,55,56,57,97,98,99,100,101,102,103,104,105,106,107,108,109,110,111,112,113,114,115,116,117,118,119,120,121,122]) (ab .u64 (ab .u64 (ab .u64 (ab .u64 u 4) 4) 4) 4)).bind fun x12 =>
      grd (Nat.ble ((oA.length + 5) * 1) 140737488355328) <|
      some ((ByteArray.mk #[]),(oA++([x12,x10,x8,x6,x4]:List Int)))
    else
     (ae (ByteArray.mk #[48,49,50,51,52,53,54,55,56,57,97,98,99,100,101,102,103,104,105,106,107,108,109,110,111,112,113,114,115,116,117,118,119,120,121,122]) (ab .u64 (ab .u64 (ab .u64 u 4) 4) 4)).bind fun x10 =>
     grd (Nat.ble ((oA.length + 4) * 1) 140737488355328) <|
     some ((ByteArray.mk #[]),(oA++([x10,x8,x6,x4]:List Int)))
   else
    (ae (ByteArray.mk #[48,49,50,51,52,53,54,55,56,57,97,98,99,100,101,102,103,104,105,106,107,108,109,110,111,112,113,114,115,116,117,118,119,120,121,122]) (ab .u64 (ab .u64 u 4) 4)).bind fun x8 =>
    grd (Nat.ble ((oA.length + 3) * 1) 140737488355328) <|
    some ((ByteArray.mk #[]),(oA++([x8,x6,x4]:List Int)))
  else
   (ae (ByteArray.mk #[48,49,50,51,52,53,54,55,56,57,97,98,99,100,101,102,103,104,105,106,107,108,109,110,111,112,113,114,115,116,117,118,119,120,121,122]) (ab .u64 u 4)).bind fun x6 =>
   grd (Nat.ble ((oA.length + 2) * 1) 140737488355328) <|
   some ((ByteArray.mk #[]),(oA++([x6,x4]:List Int)))
 else
  (ae (ByteArray.mk #[48,49,50,51,52,53,54,55,56,57,97,98,99,100,101,102,103,104,105,106,107,108,109,110,111,112,113,114,115,116,117,118,119,120,121,122]) u).bind fun x4 =>
  grd (Nat.ble ((oA.length + 1) * 1) 140737488355328) <|
  some ((ByteArray.mk #[]),(oA++([x4]:List Int)))
def ef (n:Nat) (i:Int) (oA:(List Int)):Option (List Int) :=
 (ed n i oA).bind fun y1 =>
 some y1.2
def cr (n:Nat) (i:Int) (oA:(List Int)):Option (List Int) :=
 (ef n i oA).bind fun y1 =>
 some y1
def fO (n:Nat) (e:Event) (y11:ByteArray) (sa:(List Int)×Int):Option (((List Int)×Int)⊕((List Int))) :=
 if (decide (sa.2<(aE .i64 16 (y11.size:Int))))=true then
  grd (Nat.ble ((sa.1.length + 1) * 1) 140737488355328) <|
  some (.inl ((sa.1++([48]:List Int)),(av .i64 sa.2 1)))
 else
  some (.inr sa.1)
def k9 (n:Nat) (e:Event):Option ByteArray :=
 (eH n e).bind fun y1 =>
 if (y1 != 0)=true then
  some (ByteArray.mk #[])
 else
  (fH n e.Hart).bind fun y3 =>
  grd (Nat.ble ((y3.length + 1) * 1) 140737488355328) <|
  (eN n e.At (y3++([58]:List Int))).bind fun y5 =>
  grd (Nat.ble ((y5.length + 1) * 1) 140737488355328) <|
  (nO n e.Kind).bind fun y7 =>
  grd (Nat.ble (((y5++([32]:List Int)).length + (aR y7).length) * 1) 140737488355328) <|
  (dH n e).bind fun y9 =>
  if y9=true then
   (ge n e.Addr).bind fun y11 =>
   grd (Nat.ble ((((y5++([32]:List Int))++(aR y7)).length + 1) * 1) 140737488355328) <|
   (iter (fun s=>fO n e y11 s) n ((((y5++([32]:List Int))++(aR y7))++([32]:List Int)),0)).bind fun t13 =>
   grd (Nat.ble ((t13.length + (aR y11).length) * 1) 140737488355328) <|
   (cG n e).bind fun y15 =>
   if y15=true then
    grd (Nat.ble (((t13++(aR y11)).length + 2) * 1) 140737488355328) <|
    (bD n e.Load ((t13++(aR y11))++([32,114]:List Int))).bind fun y18 =>
    (bq n e).bind fun y21 =>
    if y21=true then
     grd (Nat.ble ((y18.length + 2) * 1) 140737488355328) <|
     (cr n e.Store (y18++([32,119]:List Int))).bind fun y24 =>
     some (aV y24)
    else
     some (aV y18)
   else
    (bq n e).bind fun y17 =>
    if y17=true then
     grd (Nat.ble (((t13++(aR y11)).length + 2) * 1) 140737488355328) <|
     (bD n e.Store ((t13++(aR y11))++([32,119]:List Int))).bind fun y20 =>
     some (aV y20)
    else
     some (aV (t13++(aR y11)))
  else
   (cG n e).bind fun y11 =>
   if y11=true then
    grd (Nat.ble ((((y5++([32]:List Int))++(aR y7)).length + 2) * 1) 140737488355328) <|
    (bD n e.Load (((y5++([32]:List Int))++(aR y7))++([32,114]:List Int))).bind fun y14 =>
    (bq n e).bind fun y17 =>
    if y17=true then
     grd (Nat.ble ((y14.length + 2) * 1) 140737488355328) <|
     (cr n e.Store (y14++([32,119]:List Int))).bind fun y20 =>
     some (aV y20)
    else
     some (aV y14)
   else
    (bq n e).bind fun y13 =>
    if y13=true then
     grd (Nat.ble ((((y5++([32]:List Int))++(aR y7)).length + 2) * 1) 140737488355328) <|
     (bD n e.Store (((y5++([32]:List Int))++(aR y7))++([32,119]:List Int))).bind fun y16 =>
     some (aV y16)
    else
     some (aV ((y5++([32]:List Int))++(aR y7)))
def ga (n:Nat) (a:(List Int)) (b:(List Int)) (sa:Int):Option (Int⊕(Unit⊕Unit)) :=
 if (decide (sa<(a.length:Int)))=true then
  (i4 a sa).bind fun xa2 =>
  (i4 b sa).bind fun xa3 =>
  if (xa2 != xa3)=true then
   some (.inr (.inr ()))
  else
   some (.inl (av .i64 sa 1))
 else
  some (.inr (.inl ()))
def cE (n:Nat) (a:(List Int)) (b:(List Int)):Option Bool :=
 if ((a.length:Int) != (b.length:Int))=true then
  some false
 else
  (iter (fun s=>ga n a b s) n 0).bind fun t2 =>
  match t2 with
  | .inl w3 =>
   some true
  | .inr w3 =>
   some false
def pe (n:Nat) (a:Deps) (b:Deps):Option Bool :=
 (cE n a.Addr b.Addr).bind fun y1 =>
 if y1=true then
  (cE n a.Data b.Data).bind fun y3 =>
  if y3=true then
   (cE n a.Way b.Way).bind fun y5 =>
   some y5
  else
   some false
 else
  some false
def ar (n:Nat) (d:Deps) (sj:Int×Int×Int×(List Int)×(List Int)×(List Int)×Int×Int×Int×Int×Bool×Bool×Int×Int×Bool):Option Bool :=
 (cE n sj.2.2.2.1 d.Addr).bind fun yj1 =>
 if yj1=true then
  (cE n sj.2.2.2.2.2.1 d.Way).bind fun yj3 =>
  if yj3=true then
   if sj.2.2.2.2.2.2.2.2.2.2.2.2.2.2=true then
    (cE n sj.2.2.2.2.1 d.Data).bind fun yj6 =>
    if yj6=true then
     some true
    else
     if (!sj.2.2.2.2.2.2.2.2.2.2.2.2.2.2)=true then
      some ((sj.2.2.2.2.1.length:Int)==0)
     else
      some false
   else
    if (!sj.2.2.2.2.2.2.2.2.2.2.2.2.2.2)=true then
     some ((sj.2.2.2.2.1.length:Int)==0)
    else
     some false
  else
   some false
 else
  some false
def ci (n:Nat) (a:Ask) (d:Deps) (y4:Int) (ya1:Int) (ya2:Int) (ya3:Int×Int) (si:Int×Int×Int×(List Int)×(List Int)×(List Int)×Int×Int×Int×Int×Bool×Bool×Int×Int×Bool×Bool×Bool):Option Bool :=
 if (a.Kind==5)=true then
  if (si.2.2.2.2.2.2.2.2.2.1 != ya3.1)=true then
   some false
  else
   if (a.Kind != 5)=true then
    if si.2.2.2.2.2.2.2.2.2.2.2.2.2.2.2.2=true then
     if (si.2.2.2.2.2.2.2.2.2.1 != a.Value)=true then
      some false
     else
      if (!((a.Kind==4)==(si.2.2.1==(aE .i64 (av .i64 1 y4) 1))))=true then
       if (decide ((av .i64 1 y4)>1))=true then
        some false
       else
        (ar n d (si.1,si.2.1,si.2.2.1,si.2.2.2.1,si.2.2.2.2.1,si.2.2.2.2.2.1,si.2.2.2.2.2.2.1,si.2.2.2.2.2.2.2.1,si.2.2.2.2.2.2.2.2.1,si.2.2.2.2.2.2.2.2.2.1,si.2.2.2.2.2.2.2.2.2.2.1,si.2.2.2.2.2.2.2.2.2.2.2.1,si.2.2.2.2.2.2.2.2.2.2.2.2.1,si.2.2.2.2.2.2.2.2.2.2.2.2.2.1,si.2.2.2.2.2.2.2.2.2.2.2.2.2.2.2.2)).bind fun ti8 =>
        some ti8
      else
       (ar n d (si.1,si.2.1,si.2.2.1,si.2.2.2.1,si.2.2.2.2.1,si.2.2.2.2.2.1,si.2.2.2.2.2.2.1,si.2.2.2.2.2.2.2.1,si.2.2.2.2.2.2.2.2.1,si.2.2.2.2.2.2.2.2.2.1,si.2.2.2.2.2.2.2.2.2.2.1,si.2.2.2.2.2.2.2.2.2.2.2.1,si.2.2.2.2.2.2.2.2.2.2.2.2.1,si.2.2.2.2.2.2.2.2.2.2.2.2.2.1,si.2.2.2.2.2.2.2.2.2.2.2.2.2.2.2.2)).bind fun ti7 =>
       some ti7
    else
     if (!((a.Kind==4)==(si.2.2.1==(aE .i64 (av .i64 1 y4) 1))))=true then
      if (decide ((av .i64 1 y4)>1))=true then
       some false
      else
       (ar n d (si.1,si.2.1,si.2.2.1,si.2.2.2.1,si.2.2.2.2.1,si.2.2.2.2.2.1,si.2.2.2.2.2.2.1,si.2.2.2.2.2.2.2.1,si.2.2.2.2.2.2.2.2.1,si.2.2.2.2.2.2.2.2.2.1,si.2.2.2.2.2.2.2.2.2.2.1,si.2.2.2.2.2.2.2.2.2.2.2.1,si.2.2.2.2.2.2.2.2.2.2.2.2.1,si.2.2.2.2.2.2.2.2.2.2.2.2.2.1,si.2.2.2.2.2.2.2.2.2.2.2.2.2.2.2.2)).bind fun ti7 =>
       some ti7
     else
      (ar n d (si.1,si.2.1,si.2.2.1,si.2.2.2.1,si.2.2.2.2.1,si.2.2.2.2.2.1,si.2.2.2.2.2.2.1,si.2.2.2.2.2.2.2.1,si.2.2.2.2.2.2.2.2.1,si.2.2.2.2.2.2.2.2.2.1,si.2.2.2.2.2.2.2.2.2.2.1,si.2.2.2.2.2.2.2.2.2.2.2.1,si.2.2.2.2.2.2.2.2.2.2.2.2.1,si.2.2.2.2.2.2.2.2.2.2.2.2.2.1,si.2.2.2.2.2.2.2.2.2.2.2.2.2.2.2.2)).bind fun ti6 =>
      some ti6
   else
    if (!((a.Kind==4)==(si.2.2.1==(aE .i64 (av .i64 1 y4) 1))))=true then
     if (decide ((av .i64 1 y4)>1))=true then
      some false
     else
      (ar n d (si.1,si.2.1,si.2.2.1,si.2.2.2.1,si.2.2.2.2.1,si.2.2.2.2.2.1,si.2.2.2.2.2.2.1,si.2.2.2.2.2.2.2.1,si.2.2.2.2.2.2.2.2.1,si.2.2.2.2.2.2.2.2.2.1,si.2.2.2.2.2.2.2.2.2.2.1,si.2.2.2.2.2.2.2.2.2.2.2.1,si.2.2.2.2.2.2.2.2.2.2.2.2.1,si.2.2.2.2.2.2.2.2.2.2.2.2.2.1,si.2.2.2.2.2.2.2.2.2.2.2.2.2.2.2.2)).bind fun ti6 =>
      some ti6
    else
     (ar n d (si.1,si.2.1,si.2.2.1,si.2.2.2.1,si.2.2.2.2.1,si.2.2.2.2.2.1,si.2.2.2.2.2.2.1,si.2.2.2.2.2.2.2.1,si.2.2.2.2.2.2.2.2.1,si.2.2.2.2.2.2.2.2.2.1,si.2.2.2.2.2.2.2.2.2.2.1,si.2.2.2.2.2.2.2.2.2.2.2.1,si.2.2.2.2.2.2.2.2.2.2.2.2.1,si.2.2.2.2.2.2.2.2.2.2.2.2.2.1,si.2.2.2.2.2.2.2.2.2.2.2.2.2.2.2.2)).bind fun ti5 =>
     some ti5
 else
  if (a.Kind != 5)=true then
   if si.2.2.2.2.2.2.2.2.2.2.2.2.2.2.2.2=true then
    if (si.2.2.2.2.2.2.2.2.2.1 != a.Value)=true then
     some false
    else
     if (!((a.Kind==4)==(si.2.2.1==(aE .i64 (av .i64 1 y4) 1))))=true then
      if (decide ((av .i64 1 y4)>1))=true then
       some false
      else
       (ar n d (si.1,si.2.1,si.2.2.1,si.2.2.2.1,si.2.2.2.2.1,si.2.2.2.2.2.1,si.2.2.2.2.2.2.1,si.2.2.2.2.2.2.2.1,si.2.2.2.2.2.2.2.2.1,si.2.2.2.2.2.2.2.2.2.1,si.2.2.2.2.2.2.2.2.2.2.1,si.2.2.2.2.2.2.2.2.2.2.2.1,si.2.2.2.2.2.2.2.2.2.2.2.2.1,si.2.2.2.2.2.2.2.2.2.2.2.2.2.1,si.2.2.2.2.2.2.2.2.2.2.2.2.2.2.2.2)).bind fun ti7 =>
       some ti7
     else
      (ar n d (si.1,si.2.1,si.2.2.1,si.2.2.2.1,si.2.2.2.2.1,si.2.2.2.2.2.1,si.2.2.2.2.2.2.1,si.2.2.2.2.2.2.2.1,si.2.2.2.2.2.2.2.2.1,si.2.2.2.2.2.2.2.2.2.1,si.2.2.2.2.2.2.2.2.2.2.1,si.2.2.2.2.2.2.2.2.2.2.2.1,si.2.2.2.2.2.2.2.2.2.2.2.2.1,si.2.2.2.2.2.2.2.2.2.2.2.2.2.1,si.2.2.2.2.2.2.2.2.2.2.2.2.2.2.2.2)).bind fun ti6 =>
      some ti6
   else
    if (!((a.Kind==4)==(si.2.2.1==(aE .i64 (av .i64 1 y4) 1))))=true then
     if (decide ((av .i64 1 y4)>1))=true then
      some false
     else
      (ar n d (si.1,si.2.1,si.2.2.1,si.2.2.2.1,si.2.2.2.2.1,si.2.2.2.2.2.1,si.2.2.2.2.2.2.1,si.2.2.2.2.2.2.2.1,si.2.2.2.2.2.2.2.2.1,si.2.2.2.2.2.2.2.2.2.1,si.2.2.2.2.2.2.2.2.2.2.1,si.2.2.2.2.2.2.2.2.2.2.2.1,si.2.2.2.2.2.2.2.2.2.2.2.2.1,si.2.2.2.2.2.2.2.2.2.2.2.2.2.1,si.2.2.2.2.2.2.2.2.2.2.2.2.2.2.2.2)).bind fun ti6 =>
      some ti6
    else
     (ar n d (si.1,si.2.1,si.2.2.1,si.2.2.2.1,si.2.2.2.2.1,si.2.2.2.2.2.1,si.2.2.2.2.2.2.1,si.2.2.2.2.2.2.2.1,si.2.2.2.2.2.2.2.2.1,si.2.2.2.2.2.2.2.2.2.1,si.2.2.2.2.2.2.2.2.2.2.1,si.2.2.2.2.2.2.2.2.2.2.2.1,si.2.2.2.2.2.2.2.2.2.2.2.2.1,si.2.2.2.2.2.2.2.2.2.2.2.2.2.1,si.2.2.2.2.2.2.2.2.2.2.2.2.2.2.2.2)).bind fun ti5 =>
     some ti5
  else
   if (!((a.Kind==4)==(si.2.2.1==(aE .i64 (av .i64 1 y4) 1))))=true then
    if (decide ((av .i64 1 y4)>1))=true then
     some false
    else
     (ar n d (si.1,si.2.1,si.2.2.1,si.2.2.2.1,si.2.2.2.2.1,si.2.2.2.2.2.1,si.2.2.2.2.2.2.1,si.2.2.2.2.2.2.2.1,si.2.2.2.2.2.2.2.2.1,si.2.2.2.2.2.2.2.2.2.1,si.2.2.2.2.2.2.2.2.2.2.1,si.2.2.2.2.2.2.2.2.2.2.2.1,si.2.2.2.2.2.2.2.2.2.2.2.2.1,si.2.2.2.2.2.2.2.2.2.2.2.2.2.1,si.2.2.2.2.2.2.2.2.2.2.2.2.2.2.2.2)).bind fun ti5 =>
     some ti5
   else
    (ar n d (si.1,si.2.1,si.2.2.1,si.2.2.2.1,si.2.2.2.2.1,si.2.2.2.2.2.1,si.2.2.2.2.2.2.1,si.2.2.2.2.2.2.2.1,si.2.2.2.2.2.2.2.2.1,si.2.2.2.2.2.2.2.2.2.1,si.2.2.2.2.2.2.2.2.2.2.1,si.2.2.2.2.2.2.2.2.2.2.2.1,si.2.2.2.2.2.2.2.2.2.2.2.2.1,si.2.2.2.2.2.2.2.2.2.2.2.2.2.1,si.2.2.2.2.2.2.2.2.2.2.2.2.2.2.2.2)).bind fun ti4 =>
    some ti4
def bu (n:Nat) (a:Ask) (found:Int) (d:Deps) (y4:Int) (ya1:Int) (ya2:Int) (ya3:Int×Int) (sh:Int×Int×Int×(List Int)×(List Int)×(List Int)×Int×Int×Int×Int×Bool×Bool×Int×Int×Bool×Bool×Bool×Bool):Option Bool :=
 (cG n (Event.mk sh.1 sh.2.1 sh.2.2.2.2.2.2.1 sh.2.2.2.2.2.2.2.1 sh.2.2.2.2.2.2.2.2.1 sh.2.2.2.2.2.2.2.2.2.1 sh.2.2.2.2.2.2.2.2.2.2.1 sh.2.2.2.2.2.2.2.2.2.2.2.1 sh.2.2.2.2.2.2.2.2.2.2.2.2.1 sh.2.2.2.2.2.2.2.2.2.2.2.2.2.1 sh.2.2.1 (Deps.mk sh.2.2.2.1 sh.2.2.2.2.1 sh.2.2.2.2.2.1))).bind fun yh1 =>
 if (!(yh1==sh.2.2.2.2.2.2.2.2.2.2.2.2.2.2.2.2.1))=true then
  some false
 else
  (bq n (Event.mk sh.1 sh.2.1 sh.2.2.2.2.2.2.1 sh.2.2.2.2.2.2.2.1 sh.2.2.2.2.2.2.2.2.1 sh.2.2.2.2.2.2.2.2.2.1 sh.2.2.2.2.2.2.2.2.2.2.1 sh.2.2.2.2.2.2.2.2.2.2.2.1 sh.2.2.2.2.2.2.2.2.2.2.2.2.1 sh.2.2.2.2.2.2.2.2.2.2.2.2.2.1 sh.2.2.1 (Deps.mk sh.2.2.2.1 sh.2.2.2.2.1 sh.2.2.2.2.2.1))).bind fun yh3 =>
  if (!(yh3==sh.2.2.2.2.2.2.2.2.2.2.2.2.2.2.2.2.2))=true then
   some false
  else
   if (sh.2.2.2.2.2.2.2.1 != a.Addr)=true then
    some false
   else
    if (!(sh.2.2.2.2.2.2.2.2.2.2.1==sh.2.2.2.2.2.2.2.2.2.2.2.2.2.2.1))=true then
     some false
    else
     if (!(sh.2.2.2.2.2.2.2.2.2.2.2.1==sh.2.2.2.2.2.2.2.2.2.2.2.2.2.2.2.1))=true then
      some false
     else
      if sh.2.2.2.2.2.2.2.2.2.2.2.2.2.2.2.2.1=true then
       if (sh.2.2.2.2.2.2.2.2.1 != found)=true then
        some false
       else
        (ci n a d y4 ya1 ya2 ya3 (sh.1,sh.2.1,sh.2.2.1,sh.2.2.2.1,sh.2.2.2.2.1,sh.2.2.2.2.2.1,sh.2.2.2.2.2.2.1,sh.2.2.2.2.2.2.2.1,sh.2.2.2.2.2.2.2.2.1,sh.2.2.2.2.2.2.2.2.2.1,sh.2.2.2.2.2.2.2.2.2.2.1,sh.2.2.2.2.2.2.2.2.2.2.2.1,sh.2.2.2.2.2.2.2.2.2.2.2.2.1,sh.2.2.2.2.2.2.2.2.2.2.2.2.2.1,sh.2.2.2.2.2.2.2.2.2.2.2.2.2.2.1,sh.2.2.2.2.2.2.2.2.2.2.2.2.2.2.2.1,sh.2.2.2.2.2.2.2.2.2.2.2.2.2.2.2.2.2)).bind fun th10 =>
        some th10
      else
       (ci n a d y4 ya1 ya2 ya3 (sh.1,sh.2.1,sh.2.2.1,sh.2.2.2.1,sh.2.2.2.2.1,sh.2.2.2.2.2.1,sh.2.2.2.2.2.2.1,sh.2.2.2.2.2.2.2.1,sh.2.2.2.2.2.2.2.2.1,sh.2.2.2.2.2.2.2.2.2.1,sh.2.2.2.2.2.2.2.2.2.2.1,sh.2.2.2.2.2.2.2.2.2.2.2.1,sh.2.2.2.2.2.2.2.2.2.2.2.2.1,sh.2.2.2.2.2.2.2.2.2.2.2.2.2.1,sh.2.2.2.2.2.2.2.2.2.2.2.2.2.2.1,sh.2.2.2.2.2.2.2.2.2.2.2.2.2.2.2.1,sh.2.2.2.2.2.2.2.2.2.2.2.2.2.2.2.2.2)).bind fun th9 =>
       some th9
def bv (n:Nat) (a:Ask) (found:Int) (d:Deps) (y4:Int) (ya1:Int) (ya2:Int) (ya3:Int×Int) (sg:Int×Int×Int×(List Int)×(List Int)×(List Int)×Int×Int×Int×Int×Bool×Bool×Int×Int×Bool×Bool×Bool):Option Bool :=
 if (a.Kind==2)=true then
  (bu n a found d y4 ya1 ya2 ya3 (sg.1,sg.2.1,sg.2.2.1,sg.2.2.2.1,sg.2.2.2.2.1,sg.2.2.2.2.2.1,sg.2.2.2.2.2.2.1,sg.2.2.2.2.2.2.2.1,sg.2.2.2.2.2.2.2.2.1,sg.2.2.2.2.2.2.2.2.2.1,sg.2.2.2.2.2.2.2.2.2.2.1,sg.2.2.2.2.2.2.2.2.2.2.2.1,sg.2.2.2.2.2.2.2.2.2.2.2.2.1,sg.2.2.2.2.2.2.2.2.2.2.2.2.2.1,sg.2.2.2.2.2.2.2.2.2.2.2.2.2.2.1,sg.2.2.2.2.2.2.2.2.2.2.2.2.2.2.2.1,sg.2.2.2.2.2.2.2.2.2.2.2.2.2.2.2.2,true)).bind fun tg2 =>
  some tg2
 else
  if (a.Kind==4)=true then
   (bu n a found d y4 ya1 ya2 ya3 (sg.1,sg.2.1,sg.2.2.1,sg.2.2.2.1,sg.2.2.2.2.1,sg.2.2.2.2.2.1,sg.2.2.2.2.2.2.1,sg.2.2.2.2.2.2.2.1,sg.2.2.2.2.2.2.2.2.1,sg.2.2.2.2.2.2.2.2.2.1,sg.2.2.2.2.2.2.2.2.2.2.1,sg.2.2.2.2.2.2.2.2.2.2.2.1,sg.2.2.2.2.2.2.2.2.2.2.2.2.1,sg.2.2.2.2.2.2.2.2.2.2.2.2.2.1,sg.2.2.2.2.2.2.2.2.2.2.2.2.2.2.1,sg.2.2.2.2.2.2.2.2.2.2.2.2.2.2.2.1,sg.2.2.2.2.2.2.2.2.2.2.2.2.2.2.2.2,true)).bind fun tg3 =>
   some tg3
  else
   (bu n a found d y4 ya1 ya2 ya3 (sg.1,sg.2.1,sg.2.2.1,sg.2.2.2.1,sg.2.2.2.2.1,sg.2.2.2.2.2.1,sg.2.2.2.2.2.2.1,sg.2.2.2.2.2.2.2.1,sg.2.2.2.2.2.2.2.2.1,sg.2.2.2.2.2.2.2.2.2.1,sg.2.2.2.2.2.2.2.2.2.2.1,sg.2.2.2.2.2.2.2.2.2.2.2.1,sg.2.2.2.2.2.2.2.2.2.2.2.2.1,sg.2.2.2.2.2.2.2.2.2.2.2.2.2.1,sg.2.2.2.2.2.2.2.2.2.2.2.2.2.2.1,sg.2.2.2.2.2.2.2.2.2.2.2.2.2.2.2.1,sg.2.2.2.2.2.2.2.2.2.2.2.2.2.2.2.2,(a.Kind==5))).bind fun tg3 =>
   some tg3
def dN (n:Nat) (a:Ask) (found:Int) (d:Deps) (y4:Int) (ya1:Int) (ya2:Int) (ya3:Int×Int) (sf:Int×Int×Int×(List Int)×(List Int)×(List Int)×Int×Int×Int×Int×Bool×Bool×Int×Int×Bool×Bool):Option Bool :=
 if (a.Kind==1)=true then
  (bv n a found d y4 ya1 ya2 ya3 (sf.1,sf.2.1,sf.2.2.1,sf.2.2.2.1,sf.2.2.2.2.1,sf.2.2.2.2.2.1,sf.2.2.2.2.2.2.1,sf.2.2.2.2.2.2.2.1,sf.2.2.2.2.2.2.2.2.1,sf.2.2.2.2.2.2.2.2.2.1,sf.2.2.2.2.2.2.2.2.2.2.1,sf.2.2.2.2.2.2.2.2.2.2.2.1,sf.2.2.2.2.2.2.2.2.2.2.2.2.1,sf.2.2.2.2.2.2.2.2.2.2.2.2.2.1,sf.2.2.2.2.2.2.2.2.2.2.2.2.2.2.1,sf.2.2.2.2.2.2.2.2.2.2.2.2.2.2.2,true)).bind fun tf2 =>
  some tf2
 else
  if (a.Kind==3)=true then
   (bv n a found d y4 ya1 ya2 ya3 (sf.1,sf.2.1,sf.2.2.1,sf.2.2.2.1,sf.2.2.2.2.1,sf.2.2.2.2.2.1,sf.2.2.2.2.2.2.1,sf.2.2.2.2.2.2.2.1,sf.2.2.2.2.2.2.2.2.1,sf.2.2.2.2.2.2.2.2.2.1,sf.2.2.2.2.2.2.2.2.2.2.1,sf.2.2.2.2.2.2.2.2.2.2.2.1,sf.2.2.2.2.2.2.2.2.2.2.2.2.1,sf.2.2.2.2.2.2.2.2.2.2.2.2.2.1,sf.2.2.2.2.2.2.2.2.2.2.2.2.2.2.1,sf.2.2.2.2.2.2.2.2.2.2.2.2.2.2.2,true)).bind fun tf3 =>
   some tf3
  else
   (bv n a found d y4 ya1 ya2 ya3 (sf.1,sf.2.1,sf.2.2.1,sf.2.2.2.1,sf.2.2.2.2.1,sf.2.2.2.2.2.1,sf.2.2.2.2.2.2.1,sf.2.2.2.2.2.2.2.1,sf.2.2.2.2.2.2.2.2.1,sf.2.2.2.2.2.2.2.2.2.1,sf.2.2.2.2.2.2.2.2.2.2.1,sf.2.2.2.2.2.2.2.2.2.2.2.1,sf.2.2.2.2.2.2.2.2.2.2.2.2.1,sf.2.2.2.2.2.2.2.2.2.2.2.2.2.1,sf.2.2.2.2.2.2.2.2.2.2.2.2.2.2.1,sf.2.2.2.2.2.2.2.2.2.2.2.2.2.2.2,(a.Kind==5))).bind fun tf3 =>
   some tf3
def eF (n:Nat) (a:Ask) (found:Int) (d:Deps) (y4:Int) (ya1:Int) (ya2:Int) (ya3:Int×Int) (se:Int×Int×Int×(List Int)×(List Int)×(List Int)×Int×Int×Int×Int×Bool×Bool×Int×Int×Bool×Bool):Option Bool :=
 if (a.Kind==6)=true then
  if (se.2.2.2.2.2.2.1==6)=true then
   if (se.2.2.2.2.2.2.2.2.2.2.2.2.1==ya1)=true then
    if (se.2.2.2.2.2.2.2.2.2.2.2.2.2.1==ya2)=true then
     (dH n (Event.mk se.1 se.2.1 se.2.2.2.2.2.2.1 se.2.2.2.2.2.2.2.1 se.2.2.2.2.2.2.2.2.1 se.2.2.2.2.2.2.2.2.2.1 se.2.2.2.2.2.2.2.2.2.2.1 se.2.2.2.2.2.2.2.2.2.2.2.1 se.2.2.2.2.2.2.2.2.2.2.2.2.1 se.2.2.2.2.2.2.2.2.2.2.2.2.2.1 se.2.2.1 (Deps.mk se.2.2.2.1 se.2.2.2.2.1 se.2.2.2.2.2.1))).bind fun ye5 =>
     if (!ye5)=true then
      (pe n (Deps.mk se.2.2.2.1 se.2.2.2.2.1 se.2.2.2.2.2.1) (Deps.mk ([]:List Int) ([]:List Int) ([]:List Int))).bind fun ye7 =>
      some ye7
     else
      some false
    else
     some false
   else
    some false
  else
   some false
 else
  (dN n a found d y4 ya1 ya2 ya3 (se.1,se.2.1,se.2.2.1,se.2.2.2.1,se.2.2.2.2.1,se.2.2.2.2.2.1,se.2.2.2.2.2.2.1,se.2.2.2.2.2.2.2.1,se.2.2.2.2.2.2.2.2.1,se.2.2.2.2.2.2.2.2.2.1,se.2.2.2.2.2.2.2.2.2.2.1,se.2.2.2.2.2.2.2.2.2.2.2.1,se.2.2.2.2.2.2.2.2.2.2.2.2.1,se.2.2.2.2.2.2.2.2.2.2.2.2.2.1,se.2.2.2.2.2.2.2.2.2.2.2.2.2.2.1,se.2.2.2.2.2.2.2.2.2.2.2.2.2.2.2)).bind fun te2 =>
  some te2
def bQ (n:Nat) (a:Ask) (found:Int) (d:Deps) (y3:Int) (y4:Int) (ya1:Int) (ya2:Int) (ya3:Int×Int) (sd:Int×Int×Int×(List Int)×(List Int)×(List Int)×Int×Int×Int×Int×Bool×Bool×Int×Int×Bool×Bool×Int):Option Bool :=
 if (sd.2.2.2.2.2.2.2.2.2.2.2.2.2.2.2.2 != 0)=true then
  some false
 else
  (eH n (Event.mk sd.1 sd.2.1 sd.2.2.2.2.2.2.1 sd.2.2.2.2.2.2.2.1 sd.2.2.2.2.2.2.2.2.1 sd.2.2.2.2.2.2.2.2.2.1 sd.2.2.2.2.2.2.2.2.2.2.1 sd.2.2.2.2.2.2.2.2.2.2.2.1 sd.2.2.2.2.2.2.2.2.2.2.2.2.1 sd.2.2.2.2.2.2.2.2.2.2.2.2.2.1 sd.2.2.1 (Deps.mk sd.2.2.2.1 sd.2.2.2.2.1 sd.2.2.2.2.2.1))).bind fun yd2 =>
  if (yd2 != 0)=true then
   some false
  else
   if (sd.1 != y3)=true then
    some false
   else
    if (sd.2.1 != (av .i64 1 y4))=true then
     some false
    else
     (k9 n (Event.mk sd.1 sd.2.1 sd.2.2.2.2.2.2.1 sd.2.2.2.2.2.2.2.1 sd.2.2.2.2.2.2.2.2.1 sd.2.2.2.2.2.2.2.2.2.1 sd.2.2.2.2.2.2.2.2.2.2.1 sd.2.2.2.2.2.2.2.2.2.2.2.1 sd.2.2.2.2.2.2.2.2.2.2.2.2.1 sd.2.2.2.2.2.2.2.2.2.2.2.2.2.1 sd.2.2.1 (Deps.mk sd.2.2.2.1 sd.2.2.2.2.1 sd.2.2.2.2.2.1))).bind fun yd6 =>
     if (decide ((yd6.size:Int)<9))=true then
      some false
     else
      (eF n a found d y4 ya1 ya2 ya3 (sd.1,sd.2.1,sd.2.2.1,sd.2.2.2.1,sd.2.2.2.2.1,sd.2.2.2.2.2.1,sd.2.2.2.2.2.2.1,sd.2.2.2.2.2.2.2.1,sd.2.2.2.2.2.2.2.2.1,sd.2.2.2.2.2.2.2.2.2.1,sd.2.2.2.2.2.2.2.2.2.2.1,sd.2.2.2.2.2.2.2.2.2.2.2.1,sd.2.2.2.2.2.2.2.2.2.2.2.2.1,sd.2.2.2.2.2.2.2.2.2.2.2.2.2.1,sd.2.2.2.2.2.2.2.2.2.2.2.2.2.2.1,sd.2.2.2.2.2.2.2.2.2.2.2.2.2.2.2.1)).bind fun td8 =>
      some td8
def dO (n:Nat) (a:Ask) (found:Int) (d:Deps) (y3:Int) (y4:Int) (ya1:Int) (ya2:Int) (ya3:Int×Int) (sb:Bool×Bool):Option Bool :=
 if (a.Kind==5)=true then
  if (ya3.2 != 0)=true then
   some true
  else
   (iR n d).bind fun yb3 =>
   (kM n y3 (av .i64 1 y4) (Ask.mk a.Kind a.Addr a.Value a.Op sb.1 sb.2 ya1 ya2) found (aE .i64 (av .i64 1 y4) 1) yb3).bind fun yb4 =>
   (bQ n a found d y3 y4 ya1 ya2 ya3 (yb4.1.Hart,yb4.1.At,yb4.1.Pair,yb4.1.Deps.Addr,yb4.1.Deps.Data,yb4.1.Deps.Way,yb4.1.Kind,yb4.1.Addr,yb4.1.Load,yb4.1.Store,yb4.1.Aq,yb4.1.Rl,yb4.1.Pred,yb4.1.Succ,sb.1,sb.2,yb4.2)).bind fun tb5 =>
   some tb5
 else
  (iR n d).bind fun yb2 =>
  (kM n y3 (av .i64 1 y4) (Ask.mk a.Kind a.Addr a.Value a.Op sb.1 sb.2 ya1 ya2) found (aE .i64 (av .i64 1 y4) 1) yb2).bind fun yb3 =>
  (bQ n a found d y3 y4 ya1 ya2 ya3 (yb3.1.Hart,yb3.1.At,yb3.1.Pair,yb3.1.Deps.Addr,yb3.1.Deps.Data,yb3.1.Deps.Way,yb3.1.Kind,yb3.1.Addr,yb3.1.Load,yb3.1.Store,yb3.1.Aq,yb3.1.Rl,yb3.1.Pred,yb3.1.Succ,sb.1,sb.2,yb3.2)).bind fun tb4 =>
  some tb4
def bw (n:Nat) (a:Ask) (found:Int) (d:Deps) (y3:Int) (y4:Int) (sa:Bool×Bool):Option Bool :=
 (jF n a.Pred 16).bind fun ya1 =>
 (jF n a.Succ 16).bind fun ya2 =>
 (f9 n a.Op found a.Value).bind fun ya3 =>
 (dO n a found d y3 y4 ya1 ya2 ya3 (sa.1,sa.2)).bind fun ta4 =>
 some ta4
def eO (n:Nat) (hart:Int) (at_:Int) (a:Ask) (found:Int) (d:Deps):Option Bool :=
 (qa n).bind fun y1 =>
 if (!y1)=true then
  some false
 else
  (jF n hart 8).bind fun y3 =>
  (jF n at_ 1000).bind fun y4 =>
  (iM n d 60).bind fun y5 =>
  if (!y5)=true then
   some true
  else
   if (decide (a.Kind<1))=true then
    some true
   else
    if (decide (a.Kind>6))=true then
     some true
    else
     if ((aM .u64 a.Addr 8) != 0)=true then
      some true
     else
      (jn n d.Addr (av .i64 1 y4)).bind fun y10 =>
      if (!y10)=true then
       some true
      else
       (jn n d.Data (av .i64 1 y4)).bind fun y12 =>
       if (!y12)=true then
        some true
       else
        (jn n d.Way (av .i64 1 y4)).bind fun y14 =>
        if (!y14)=true then
         some true
        else
         if (a.Kind==1)=true then
          (bw n a found d y3 y4 (false,false)).bind fun t17 =>
          some t17
         else
          if (a.Kind==2)=true then
           (bw n a found d y3 y4 (false,false)).bind fun t18 =>
           some t18
          else
           (bw n a found d y3 y4 (a.Aq,a.Rl)).bind fun t18 =>
           some t18

end Go.Proofs.YtnmmknnnggcijaaDoor
