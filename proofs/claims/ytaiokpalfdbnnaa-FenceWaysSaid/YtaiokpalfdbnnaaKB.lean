/- The evaluator with answers; contracts out of it. Nothing is claimed here of the program. -/
import Derived.Test.YtaiokpalfdbnnaaK6
import Derived.Test.YtaiokpalfdbnnaaM0
import Derived.Laws.StructEq
namespace Go.Proofs.Ytaiokpalfdbnnaa
namespace A
open Go
def qp {α:Type}:List (Nat×α)→Nat→Option α
  | [],_=>none
  | (d,x)::xs,e=>match Nat.beq d e with | true=>some x | false=>qp xs e
structure Wk where
  ts:List Nat
  ls:List Nat
  no:Nat
  pr:List (Nat×Nat)
  pl:List (Nat×Nat×Nat)
  fz:List Nat
def Gl (ts:List Nat):Nat→List AV→List AV
  | _,[]=>[]
  | i,x::xs=>(match cO ts i with | true=>x | false=>.bad)::Gl ts (i + 1) xs
def y_:List Nat→St→St
  | [],S=>S
  | d::ds,S=>y_ ds (eb d S)
def BX:Nat→Nat→List Nat
  | _,0=>[]
  | i,n + 1=>i::BX (i + 1) n
def E0:List Nat→St→St
  | [],S=>S
  | i::is,S=>E0 is (cV i S)
def za:List Ob→Bool
  | []=>true
  | .dead::os=>za os
  | _=>false
def Hu (n:Nat) (S:St):St :=
  match za (S.o.drop n)&&Nat.ble S.b n with
  | true=>{ t:=S.t,l:=S.l,o:=S.o.take n,b:=S.b }
  | false=>S
def Aw:List (Nat×Nat)→St→St
  | [],S=>S
  | (d,sz)::ps,S=>match S.t[d]? with
    | some .nilsl=>Aw ps { t:=S.t.set d (.mf S.o.length),l:=S.l,o:=S.o++[.arr true sz []],b:=S.b }
    | _=>Aw ps S
def x_:List (Nat×Nat×Nat)→St→St
  | [],S=>S
  | (d,j,sz)::ps,S=>match aJ S.l d with
    | some row=>match row[j]? with
      | some .nilsl=>x_ ps { t:=S.t,l:=qw S.l d (row.set j (.mf S.o.length)),o:=S.o++[.arr true sz []],b:=S.b }
      | _=>x_ ps S
    | none=>x_ ps S
def Hv (ids:List Nat) (d j:Nat) (b:AV) (S:St):St :=
  match aJ (ed ids S).l d with
  | some row=>{ t:=(ed ids S).t,l:=qw (ed ids S).l d (row.set j b),o:=(ed ids S).o,b:=(ed ids S).b }
  | none=>ed ids S
def vQ:List Nat→St→St
  | [],S=>S
  | d::ds,S=>match Nat.ble 10000 d with
    | true=>match aJ S.l ((d - 10000) / 100) with
      | some row=>match row[d % 100]? with
        | some a=>match A8 S.o 6 a with
          | some b=>vQ ds (Hv (dl S.o 6 a) ((d - 10000) / 100) (d % 100) b S)
          | none=>vQ ds S
        | none=>vQ ds S
      | none=>vQ ds S
    | false=>match S.t[d]? with
      | some a=>match A8 S.o 6 a with
        | some b=>vQ ds { t:=(ed (dl S.o 6 a) S).t.set d b,l:=(ed (dl S.o 6 a) S).l,o:=(ed (dl S.o 6 a) S).o,b:=(ed (dl S.o 6 a) S).b }
        | none=>vQ ds S
      | none=>vQ ds S
def Jh (W:Wk) (S:St):St :=
  x_ W.pl (Aw W.pr (Hu W.no (E0 (BX W.no (S.o.length - W.no)) (y_ W.ls { t:=Gl W.ts 0 S.t,l:=S.l,o:=S.o,b:=S.b }))))
def wk (W:Wk) (S:St):St:=Jh W (vQ W.fz S)
def ey (a b:AV):Prop:=∀ E u,VR E a u→VR E b u
def dw (r r':List AV):Prop:=r.length=r'.length∧∀ (i:Nat) (a b:AV),r[i]?=some a→r'[i]?=some b→ey a b
def i6 (r r':List (List AV)):Prop:=r.length=r'.length∧∀ (i:Nat) (a b:List AV),r[i]?=some a→r'[i]?=some b→dw a b
structure Le where
  ts:List (Nat×AV)
  ls:List (Nat×List AV)
  os:List (Nat×List (List AV))
def Hw:List (Nat×AV)→St→(St→Prop)→Prop
  | [],S,K=>K S
  | (d,v)::xs,S,K=>pJ S.t d fun a=>ey a v∧rM S.t d v fun t=>Hw xs { t:=t,l:=S.l,o:=S.o,b:=S.b } K
def Gm:List (Nat×List AV)→St→(St→Prop)→Prop
  | [],S,K=>K S
  | (d,r)::xs,S,K=>match aJ S.l d with
    | some row=>dw row r∧ni (qw S.l d r) fun l=>Gm xs { t:=S.t,l:=l,o:=S.o,b:=S.b } K
    | none=>af 450
def Gn:List (Nat×List (List AV))→St→(St→Prop)→Prop
  | [],S,K=>K S
  | (i,R)::xs,S,K=>match S.o[i]? with
    | some (.arr fl sz rows)=>i6 rows R∧bg (S.o.set i (.arr fl sz R)) fun o=>Gn xs { t:=S.t,l:=S.l,o:=o,b:=S.b } K
    | _=>af 451
def E4 (L:Le) (S:St) (K:St→Prop):Prop:=Hw L.ts S fun S=>Gm L.ls S fun S=>Gn L.os S K
structure wT where
  at_:Option Nat
  row:Option (List (List AV))
  ks:List AV
  cs:List (Option (List (List AV)))
structure dz where
  dem:List Nat
  chk:List Nat
  row:List (Nat×List AV)
  val:List (Nat×AV)
  call:List (Nat×AV)
  sto:List (Nat×(AV×List Ob))
  obr:List (Nat×(Nat×List (List AV)))
  mpr:List (Nat×List (AV×AV))
  own:List (Nat×wT)
inductive PT where
  | done
  | go (i:Nat) (t:PT)
  | alt (i:Nat) (t r:PT)
def iz:List Nat→PT
  | []=>.done
  | i::is=>.go i (iz is)
def BY:PT→PT→Bool
  | .done,.done=>true
  | .go i t,.go j u=>Nat.beq i j&&BY t u
  | .alt i t r,.alt j u s=>Nat.beq i j&&(BY t u&&BY r s)
  | _,_=>false
structure Hy where
  ord:List (Nat×PT)
  reg:List (Nat×dz)
  wr:List (Nat×Le)
  lps:List (Nat×(Wk×Le×Ex×St))
  cut:List (Nat×(Wk×Le×Ex×St))
def DU (A:Hy) (id:Nat):dz :=
  match qp A.reg id with
  | some R=>R
  | none=>⟨[],[],[],[],[],[],[],[],[]⟩
def keyOf (o:Oper):Nat :=
  match o.dst with
  | some d=>d
  | none=>match o.op with
    | .store _ (.tmp t) _=>t + 1000000
    | .mapUpdate _ (.tmp t) _ _=>t + 1000000
    | .insert _ (.tmp t) _ _=>t + 1000000
    | _=>0
def GV (rows:List (List AV)) (i:Int):Option (List AV):=if 0≤i then rows[i.toNat]? else none
def E5 (op:BinOp) (x y:Value) (K:Value→Prop):Prop :=
  match op,x,y with
  | .quo,.int k a,.int k' b=>(decide (k=k')&&!(b==0))=true∧K (.int k (k.wrap (a.tdiv b)))
  | .rem,.int k a,.int k' b=>(decide (k=k')&&!(b==0))=true∧K (.int k (a.tmod b))
  | .shl,.int k a,.int _ b=>decide (0≤b)=true∧K (.int k (k.wrap (a * 2 ^ (min b.toNat k.bits))))
  | .shr,.int k a,.int _ b=>decide (0≤b)=true∧K (.int k (a.fdiv (2 ^ (min b.toNat k.bits))))
  | .add,.string a,.string b=>decide (((a.size + b.size:Nat):Int)≤9223372036854775807)=true∧K (.string (a++b))
  | _,_,_=>af 20
def E6 (C:Ctx) (A:dz) (o:Oper) (op:BinOp) (t:TypeId) (x y:AV) (k:AV→Prop):Prop :=
  match x,y with
  | .v a,.v b=>match F6 op a b with
    | none=>match a,b with
      | .bool x,.bool y=>zE C.P op t x y k
      | a,b=>E5 op a b fun c=>k (.v c)
    | some c=>k (.v c)
  | .agg as,.agg bs=>match tA as,tA bs with
    | some xs,some ys=>match qp A.val (keyOf o) with
      | some (.v (.bool b))=>bG C.P op t xs ys=some (.bool b)∧k (.v (.bool b))
      | _=>af 400
    | _,_=>af 401
  | _,_=>af 402
def zb (C:Ctx) (A:dz) (o:Oper) (t:TypeId) (x ix:AV) (k:AV→Prop):Prop :=
  intOf ix fun i =>
  match C.P.underlying t,x with
  | some .string,.v (.string s)=>match qp A.val (keyOf o) with
    | some (.v (.int .u8 n))=>(if 0≤i then s[i.toNat]? else none)=some (UInt8.ofNat n.toNat)∧(n=((UInt8.ofNat n.toNat).toNat:Int)∧k (.v (.int .u8 n)))
    | _=>af 403
  | some (.array len e),.agg cs=>match C.P.info? e with
    | some inf=>(decide (0≤i)&&decide (i<len))=true∧im C.P e cs (i.toNat * inf.size) k
    | none=>af 404
  | _,_=>af 405
def Hz (C:Ctx) (A:dz) (pl:bK) (o:Oper) (vs:List AV) (k:AV→Prop):Prop :=
  match cO A.chk (keyOf o) with
  | false=>pop C pl o vs k
  | true=>match o.op,vs with
    | .binOp op t _ _ _,[a,b]=>E6 C A o op t a b k
    | .index t _ _,[a,i]=>zb C A o t a i k
    | _,_=>af 406
def ya (len cap:Nat) (lo hi mx:Option Int) (k:Nat→Nat→Nat→Prop):Prop :=
  match lo,hi,mx with
  | none,none,none=>k 0 len cap
  | some l,none,none=>(decide (0≤l)&&decide (l≤len))=true∧k l.toNat len cap
  | none,some h,none=>(decide (0≤h)&&decide (h≤cap))=true∧k 0 h.toNat cap
  | some l,some h,none=>(decide (0≤l)&&decide (l≤h)&&decide (h≤cap))=true∧k l.toNat h.toNat cap
  | none,some h,some m=>(decide (0≤h)&&decide (h≤m)&&decide (m≤cap))=true∧k 0 h.toNat m.toNat
  | some l,some h,some m=>(decide (0≤l)&&decide (l≤h)&&decide (h≤m)&&decide (m≤cap))=true∧k l.toNat h.toNat m.toNat
  | _,_,_=>af 63
def I5 (mx hi:Option Int) (k:Bool→Prop):Prop :=
  match mx with
  | none=>k false
  | some _=>(d8 mx&&d8 hi)=false∧k false
def k9 (C:Ctx) (t:TypeId) (x:AV) (lo hi mx:Option Int) (S:St) (k:AV→Prop):Prop :=
  match C.P.underlying t with
  | some .string =>
    match x,mx with
    | .v (.string s),none=>ya s.size s.size lo hi none fun l h _=>k (.v (.string (s.extract l h)))
    | _,_=>af 64
  | some (.slice e) =>
    match C.P.info? e with
    | some i=>bF (Nat.blt 0 i.size) (
      match x with
      | .sl rows=>cR i.size rows=true∧I5 mx hi fun zz=>ya rows.length rows.length lo hi mx fun l h _ =>
        match lo,hi,zz with
        | _,_,true=>k .esl
        | none,none,_=>k (.sl rows)
        | _,none,_=>k (.sl (rows.drop l))
        | none,_,_=>k (.sl (rows.take h))
        | _,_,_=>k (.sl ((rows.drop l).take (h - l)))
      | .mf id=>match S.o[id]? with
        | some (.arr _ sz rows)=>bF (Nat.beq sz i.size) (I5 mx hi fun zz=>ya rows.length rows.length lo hi mx fun l h m =>
          match lo,hi,zz with
          | _,_,true=>k .esl
          | none,none,_=>k (.mf id)
          | _,none,_=>k (.msl id l (rows.length - l) 0)
          | _,_,_=>k (.msl id l (h - l) (m - h)))
        | _=>af 65
      | .msl id off len ext=>match S.o[id]? with
        | some (.arr _ sz _)=>bF (Nat.beq sz i.size) (I5 mx hi fun zz=>ya len (len + ext) lo hi mx fun l h m =>
          match zz with
          | true=>k .esl
          | false=>k (.msl id (l + off) (h - l) (m - h)))
        | _=>af 66
      | _=>af 67)
    | none=>af 68
  | _=>af 69
def nU (C:Ctx) (row:List AV) (t:TypeId) (x ix:AV) (S:St) (k:AV→Prop):Prop :=
  intOf ix fun i =>
  match C.P.underlying t with
  | some (.slice e) =>
    match C.P.info? e with
    | some inf =>
      match x with
      | .sl rows=>GV rows i=some row∧bF (Nat.beq row.length inf.size&&Nat.blt 0 inf.size) (k (.fptr row 0))
      | .mf id=>match S.o[id]? with
        | some (.arr _ _ rows)=>GV rows i=some row∧bF (Nat.beq row.length inf.size&&Nat.blt 0 inf.size) (k (.ptr (.O id) i.toNat 0))
        | some (.own none _ cells _)=>bF (Nat.beq inf.size 1) ((decide (0≤i)&&Nat.blt i.toNat cells.length)=true∧k (.ptr (.O id) i.toNat 0))
        | _=>af 72
      | .msl id off len _=>match S.o[id]? with
        | some (.arr _ _ rows)=>(decide (0≤i)&&decide (i<len))=true∧(rows[i.toNat + off]?=some row∧bF (Nat.beq row.length inf.size&&Nat.blt 0 inf.size) (k (.ptr (.O id) (i.toNat + off) 0)))
        | _=>af 74
      | _=>af 75
    | none=>af 76
  | some (.array len e) =>
    match C.P.info? e with
    | some inf=>(decide (0≤i)&&decide (i<len))=true∧(
      match x with
      | .ptr key a j=>k (.ptr key a (i.toNat * inf.size + j))
      | .fptr row j=>k (.fptr row (i.toNat * inf.size + j))
      | _=>af 77)
    | none=>af 78
  | _=>af 79
def uo (C:Ctx) (A:dz) (o:Oper) (fid:Nat) (as:List AV) (k:AV→Prop):Prop :=
  match qp A.call (keyOf o) with
  | some r=>(C.pcall fid as fun x=>x=r)∧k r
  | none=>C.pcall fid as k
def BZ (P:Program) (op:BinOp) (t:TypeId) (x y:AV) (S:St) (k:AV→Prop):Prop :=
  match x,y with
  | .mf id,.nilsl=>match S.o[id]? with
    | some (.arr _ _ rows)=>dN rows=true∧(match P.underlying t,op with
      | some (.slice _),.eql=>k (.v (.bool false))
      | some (.slice _),.neq=>k (.v (.bool true))
      | _,_=>af 265)
    | _=>af 472
  | .sl rows,.nilsl=>dN rows=true∧(match P.underlying t,op with
      | some (.slice _),.eql=>k (.v (.bool false))
      | some (.slice _),.neq=>k (.v (.bool true))
      | _,_=>af 265)
  | _,_=>af 473
def sj (size:Nat) (S:St) (x:AV) (k:Bool→List (List AV)→Prop):Prop :=
  match x with
  | .nilsl | .esl=>k true []
  | .sl rows=>cR size rows=true∧k true rows
  | .mf id=>match S.o[id]? with | some (.arr fl sz rows)=>bF (Nat.beq sz size) (k fl rows) | _=>af 45
  | .msl id off len _=>match S.o[id]? with | some (.arr fl sz rows)=>bF (Nat.beq sz size) (k fl ((rows.drop off).take len)) | _=>af 46
  | .v (.string s)=>bF (Nat.beq size 1) (k true (s.data.toList.map fun b=>[.v (.int .u8 b.toNat)]))
  | x=>jq size S x k
def zd (P:Program) (src dst:TypeId) (x:AV) (S:St) (s:ByteArray) (k:AV→Prop):Prop :=
  match P.underlying src,P.underlying dst with
  | some (.slice e),some .string =>
    match P.underlying e with
    | some (.int .u8)=>bF (!(H6 x)) (sj 1 S x fun _ rows=>bytesOf rows=some s.data.toList∧k (.v (.string s)))
    | _=>af 481
  | _,_=>af 482
def HA (C:Ctx) (A:dz) (o:Oper) (vs:List AV) (M:St) (k:AV→Prop):Prop :=
  match o.op,vs with
  | .load t _,[p]=>match qp A.row (keyOf o) with
    | some row=>match p with
      | .ptr (.O id) i j=>match M.o[id]? with
        | some (.arr _ _ rows)=>rows[i]?=some row∧im C.P t row j k
        | _=>af 410
      | _=>af 411
    | none=>oQ C o vs M k
  | .slice t _ lo hi mx,a::rest=>match cO A.chk (keyOf o) with
    | false=>oQ C o vs M k
    | true=>match lo,hi,mx,rest with
      | none,none,none,[]=>k9 C t a none none none M k
      | some _,none,none,[x]=>intOf x fun x=>k9 C t a (some x) none none M k
      | none,some _,none,[y]=>intOf y fun y=>k9 C t a none (some y) none M k
      | some _,some _,none,[x,y]=>intOf x fun x=>intOf y fun y=>k9 C t a (some x) (some y) none M k
      | none,some _,some _,[y,z]=>intOf y fun y=>intOf z fun z=>k9 C t a none (some y) (some z) M k
      | some _,some _,some _,[x,y,z]=>intOf x fun x=>intOf y fun y=>intOf z fun z=>k9 C t a (some x) (some y) (some z) M k
      | _,_,_,_=>af 202
  | .indexAddr t _ _,[a,i]=>match qp A.row (keyOf o) with
    | some row=>nU C row t a i M k
    | none=>oQ C o vs M k
  | .lookup t _ _ ok,[m,key]=>match qp A.call (keyOf o) with
    | some a=>match C.P.underlying t,m with
      | some (.map kt e),.mp id=>match M.o[id]? with
        | some (.mapo _ es)=>(∀ k':AV→Prop,k' a→kT C.P kt key es fun _ r=>ot C.P e ok es r k')∧k a
        | _=>af 412
      | _,_=>af 413
    | none=>oQ C o vs M k
  | .binOp op t _ _ _,[a,b]=>match cO A.chk (keyOf o) with
    | false=>oQ C o vs M k
    | true=>BZ C.P op t a b M k
  | .convert src dst _,[x]=>match qp A.call (keyOf o) with
    | some (.v (.string s))=>zd C.P src dst x M s k
    | _=>oQ C o vs M k
  | .call c,vs=>match c.callee with
    | .value _=>match vs with
      | .fn fid first cap::as=>bF (C.pure fid) (iL M.o (first++as++cap) fun bs=>uo C A o fid bs fun r=>bF (uE 4 r||((first++as++cap).flatMap (dl M.o 6)).isEmpty) (k r))
      | _=>af 205
    | _=>oQ C o vs M k
  | _,_=>oQ C o vs M k
def ze (S:St) (row:List AV) (a:AV) (cs:List AV) (K:St→Prop):Prop :=
  match a with
  | .ptr (.O id) i j =>
    match S.o[id]? with
    | some (.arr fl sz rows)=>rows[i]?=some row∧bF (Nat.ble (j + cs.length) row.length&&cs.all (tz 4)) (ik (splice row j cs) fun row'=>bg (S.o.set id (.arr (fl&&cs.all (c7 4)) sz (rows.set i row'))) fun o=>K { t:=S.t,l:=S.l,o:=o,b:=S.b })
    | _=>af 18
  | _=>af 19
def Gp (C:Ctx) (A:dz) (o:Oper) (vs:List AV) (M:St) (k:AV→St→Prop):Prop :=
  match qp A.row (keyOf o) with
  | none=>xt C o vs M k
  | some row=>match o.op,vs with
    | .store t _ _,[p,y]=>match p with
      | .ptr (.O _) _ _=>md y fun cs=>match C.P.info? t with
        | some i=>bF (Nat.beq cs.length i.size) (ze M row p cs fun M'=>k .bad M')
        | none=>af 208
      | _=>xt C o vs M k
    | _,_=>xt C o vs M k
def qY (P:Program) (ts:List TypeId) (base x:AV) (S:St) (k:St→AV→Prop):Prop :=
  match ts with
  | [t0,t1] =>
    match P.underlying t0 with
    | some (.slice e) =>
      match P.info? e with
      | some i=>bF (Nat.blt 0 i.size&&Nat.blt 0 i.bytes&&GQ i&&(match P.underlying t1 with | some (.slice _) | some .string=>true | _=>false)) (sj i.size S x fun fl src=>aY src=true∧(
          match base with
          | .nilsl | .esl=>Nat.ble (src.length * i.bytes) 140737488355328=true∧(bg (S.o++[.arr fl i.size src]) fun o=>k { t:=S.t,l:=S.l,o:=o,b:=S.b } (.mf S.o.length))
          | .mf id=>match S.o[id]? with
            | some (.arr fl' sz rows)=>bF (Nat.beq sz i.size&&(fl||!fl')) (Nat.ble ((rows.length + src.length) * i.bytes) 140737488355328=true∧o6 S id (.arr (fl'&&fl) sz (rows++src)) fun S' id'=>k S' (.mf id'))
            | _=>af 48
          | .msl id off len ext=>match S.o[id]? with
            | some (.arr fl' sz rows)=>bF (Nat.beq sz i.size&&(fl||!fl')) (Nat.ble src.length ext=true∧(Nat.ble (off + len + ext) rows.length=true ∧
                bg (S.o.set id (.arr (fl'&&fl) sz (rows.take (off + len)++(src++rows.drop (off + len + src.length))))) fun o=>k { t:=S.t,l:=S.l,o:=o,b:=S.b } (.msl id off (len + src.length) (ext - src.length))))
            | _=>af 49
          | _=>af 50))
      | none=>af 51
    | _=>af 52
  | _=>af 53
def sq (P:Program) (ts:List TypeId) (base x:AV) (k:AV→Prop):Prop :=
  match ts with
  | [t0,t1] =>
    match P.underlying t0 with
    | some (.slice e) =>
      match P.info? e with
      | some i=>bF (Nat.blt 0 i.size&&Nat.blt 0 i.bytes&&GQ i&&(match P.underlying t1 with | some (.slice _) | some .string=>true | _=>false)) (sj i.size I2 x fun fl src=>bF fl (aY src=true∧(Nat.ble (src.length * i.bytes) 140737488355328=true∧(
          match base with
          | .nilsl | .esl=>k (.sl src)
          | _=>af 254))))
      | none=>af 255
    | _=>af 256
  | _=>af 257
def HB (C:Ctx) (o:Oper) (vs:List AV) (k:AV→Prop):Prop :=
  match o.op,vs with
  | .call c,[x,y]=>match c.callee with
    | .builtin .append=>sq C.P c.argTypes.toList x y k
    | _=>af 258
  | _,_=>af 259
def sr (P:Program) (ts:List TypeId) (base:AV) (n:Int) (S:St) (k:St→AV→Prop):Prop :=
  match ts with
  | [t0,t1] =>
    match P.underlying t0,P.underlying t1 with
    | some (.slice e),some (.int _) =>
      match P.info? e with
      | some i=>(Nat.blt 0 i.size&&Nat.blt 0 i.bytes&&decide (0<n)&&decide (n * i.bytes≤140737488355328)&&decide (n≤140737488355328))=true∧(cx P e fun z=>bF (z.all (c7 2)) (
          match base with
          | .nilsl | .esl=>bg (S.o++[.arr true i.size (List.replicate n.toNat z)]) fun o=>k { t:=S.t,l:=S.l,o:=o,b:=S.b } (.mf S.o.length)
          | _=>af 250))
      | none=>af 251
    | _,_=>af 252
  | _=>af 253
def k_ (P:Program) (t:TypeId) (l c:AV) (S:St) (k:St→AV→Prop):Prop :=
  match P.underlying t with
  | some (.slice e) =>
    match P.info? e with
    | some i=>intOf l fun l=>intOf c fun c=>(decide (0≤l)&&decide (l≤c)&&decide (i.bytes * c≤140737488355328)&&decide (c≤140737488355328)&&Nat.blt 0 i.size)=true ∧
        (cx P e fun z=>bF (z.all (c7 2)) (bg (S.o++[.arr true i.size (List.replicate l.toNat z)]) fun o=>k { t:=S.t,l:=S.l,o:=o,b:=S.b } (.mf S.o.length)))
    | none=>af 61
  | _=>af 62
def B0 (P:Program) (ts:List TypeId) (x y:AV) (M:St) (k:AV→St→Prop):Prop :=
  match ts with
  | t::_ =>
    match P.underlying t with
    | some (.slice e) =>
      match P.info? e with
      | some i=>bF (Nat.blt 0 i.size) (sj i.size M y fun fl src=>aY src=true∧bF (!(H6 y)) (
          match x with
          | .mf id=>match M.o[id]? with
            | some (.arr fl' sz rows)=>bF (Nat.beq sz i.size) (bg (M.o.set id (.arr (fl'&&fl) sz (src.take rows.length++rows.drop src.length))) fun o=>k (.v (.int .i64 ((min src.length rows.length:Nat):Int))) { t:=M.t,l:=M.l,o:=o,b:=M.b })
            | _=>af 243
          | .msl id off len _=>match M.o[id]? with
            | some (.arr fl' sz rows)=>bF (Nat.beq sz i.size) (Nat.ble (off + len) rows.length=true∧(bg (M.o.set id (.arr (fl'&&fl) sz (rows.take off++(src.take len++rows.drop (off + min src.length len))))) fun o=>k (.v (.int .i64 ((min src.length len:Nat):Int))) { t:=M.t,l:=M.l,o:=o,b:=M.b }))
            | _=>af 244
          | _=>af 245))
      | none=>af 246
    | _=>af 247
  | []=>af 248
def B1 (C:Ctx) (A:dz) (o:Oper) (f:AV) (args:List AV) (S:St) (k:St→AV→Prop):Prop :=
  match f with
  | .fn fid first cap =>
    match C.pure fid with
    | true=>iL S.o (first++args++cap) fun as=>uo C A o fid as fun r =>
        match uE 4 r with
        | true=>k S r
        | false=>eN ((first++args++cap).flatMap (dl S.o 6)) S fun S'=>k S' r
    | false=>bF ((first++args++cap).all (tz 4)) (match qp A.sto (keyOf o) with
      | some (r,o')=>(C.scall fid (first++args++cap) S.o fun r' o''=>r'=r∧o''=o')∧jG (bU S.o o' 0) S.t S.l fun t l=>k { t:=t,l:=l,o:=o',b:=S.b } r
      | none=>C.scall fid (first++args++cap) S.o fun r o'=>jG (bU S.o o' 0) S.t S.l fun t l=>k { t:=t,l:=l,o:=o',b:=S.b } r)
  | _=>af 97
def lb (P:Program) (R:List (AV×AV)) (t:TypeId) (m key x:AV) (S:St) (K:St→Prop):Prop :=
  match P.underlying t with
  | some (.map kt _) =>
    match m with
    | .mp id=>match S.o[id]? with
      | some (.mapo fl es)=>bF (tz 4 x) ((∀ K':List (AV×AV)→Prop,K' R→kT P kt key es fun kv r=>bF (Df P kt kv) (
          match r with
          | some i=>bF (Instr.sameBits 10000 ((es[i]?.bind fun e=>A9 e.1).getD (.bool false)) kv) (K' (es.set i (key,x)))
          | none=>K' (es++[(key,x)])))∧bg (S.o.set id (.mapo (fl&&c7 4 x) R)) fun o=>K { t:=S.t,l:=S.l,o:=o,b:=S.b })
      | _=>af 106
    | _=>af 107
  | _=>af 108
def zf (P:Program) (ts:List TypeId) (x:AV) (S:St) (K:St→Prop):Prop :=
  match ts with
  | t::_ =>
    match P.underlying t with
    | some (.slice e) =>
      match P.info? e with
      | some i=>bF (Nat.blt 0 i.size) (
          match x with
          | .msl id off len _=>match S.o[id]? with
            | some (.arr fl sz rows)=>bF (Nat.beq sz i.size) (Nat.ble (off + len) rows.length=true∧cx P e fun z=>bF (z.all (c7 2)&&z.all j_) (bg (S.o.set id (.arr (fl&&true) sz (rows.take off++(List.replicate len z++rows.drop (off + len))))) fun o=>K { t:=S.t,l:=S.l,o:=o,b:=S.b }))
            | _=>af 267
          | _=>af 268)
      | none=>af 269
    | _=>af 270
  | []=>af 271
def Gq (C:Ctx) (A:dz) (pl:bK) (o:Oper) (S:St) (K:St→Prop):Prop :=
  match o.op with
  | .mapUpdate t m key x=>match qp A.mpr (keyOf o) with
    | some R=>cI S m fun m=>cI S key fun key=>cI S x fun x=>lb C.P R t m key x S fun S'=>bB o.dst .bad S' K
    | none=>uK C pl o S K
  | .insert t m key x=>match qp A.mpr (keyOf o) with
    | some R=>cI S m fun m=>cI S key fun key=>cI S x fun x=>lb C.P R t m key x S fun S'=>bB o.dst .bad S' K
    | none=>uK C pl o S K
  | .makeSlice t l c=>match cO A.chk (keyOf o) with
    | true=>cI S l fun l=>cI S c fun c=>k_ C.P t l c S fun S' a=>bB o.dst (I1 (cO pl.nn (o.dst.getD 0)) a) S' K
    | false=>uK C pl o S K
  | .call c=>match c.callee with
    | .builtin .append=>match cO A.chk (keyOf o) with
      | true=>dk S c.args.toList fun as=>match as with
        | [x,.v (.int _ n)]=>sr C.P c.argTypes.toList x n S fun S' r=>bB o.dst r S' K
        | [.ene,y]=>bF (cO pl.nn (o.dst.getD 0)) (qY C.P c.argTypes.toList .esl y S fun S' r=>bB o.dst (If r) S' K)
        | [x,y]=>qY C.P c.argTypes.toList x y S fun S' r=>bB o.dst r S' K
        | _=>af 210
      | false=>uK C pl o S K
    | .builtin .copy=>dk S c.args.toList fun as=>match as with
        | [x,y]=>B0 C.P c.argTypes.toList x y S fun r S'=>bB o.dst r S' K
        | _=>af 249
    | .builtin .clear=>match cO A.chk (keyOf o) with
      | true=>dk S c.args.toList fun as=>match as with
        | [x]=>zf C.P c.argTypes.toList x S fun S'=>bB o.dst (.tup []) S' K
        | _=>af 249
      | false=>uK C pl o S K
    | .value f=>cI S f fun fv=>dk S c.args.toList fun as=>B1 C A o fv as S fun S' r=>bB o.dst r S' K
    | _=>uK C pl o S K
  | _=>uK C pl o S K
def GW (A:dz) (dst:Option Tmp) (S:St) (K:St→Prop):Prop :=
  match dst with
  | none=>K S
  | some d=>match qp A.val d with
    | none=>K S
    | some v=>pJ S.t d fun a=>a=v∧rM S.t d v fun t=>K { t:=t,l:=S.l,o:=S.o,b:=S.b }
def E7 (A:dz) (key:Nat) (S:St) (K:St→Prop):Prop :=
  match qp A.obr key with
  | none=>K S
  | some (id,R)=>match S.o[id]? with
    | some (.arr fl sz rows)=>rows=R∧bg (S.o.set id (.arr fl sz R)) fun o=>K { t:=S.t,l:=S.l,o:=o,b:=S.b }
    | _=>af 430
def E8 (C:Ctx) (A:dz) (pl:bK) (o:Oper) (S:St) (K:St→Prop):Prop :=
  dk S o.op.operands.toList fun vs=>Hz C A pl o vs fun r=>bB o.dst r S K
def E9 (C:Ctx) (A:dz) (o:Oper) (S:St) (K:St→Prop):Prop :=
  dk S o.op.operands.toList fun vs=>HA C A o vs (cL S) fun r=>bB o.dst r S K
def GX (C:Ctx) (A:dz) (o:Oper) (S:St) (K:St→Prop):Prop :=
  dk S o.op.operands.toList fun vs=>Gp C A o vs (cL S) fun r M=>bB o.dst r (fe S M) K
def oH (row:Option (List (List AV))) (M:St) (pk:Bool) (id i:Nat) (k:AV→St→Prop):Prop :=
  match M.o[id]? with
  | some (.own ks sz cells none)=>match row with
    | none=>cells[i]?=some none∧k .nilsl M
    | some rows=>cells[i]?=some (some rows)∧match pk&&zB sz with | true=>k .nn M | false=>iT (Ek sz M.o.length) fun h=>bg (M.o.set id (.own ks sz cells (some (i,h)))++[.arr true (uD sz) rows]) fun o=>k (.mf M.o.length) { t:=M.t,l:=M.l,o:=o,b:=M.b }
  | _=>af 323
def ss (P:Program) (a:wT) (t:TypeId) (same pk:Bool) (M:St) (id i:Nat) (k:AV→St→Prop):Prop :=
  match same with
  | true=>match M.o[id]? with
    | some (.own none _ cells (some (j,a)))=>(Nat.beq i j&&Nat.blt j cells.length)=true∧im P t [Jd a] 0 fun r=>k r M
    | _=>af 324
  | false=>oH a.row M pk id i fun a M'=>im P t [a] 0 fun r=>k r M'
def qc (P:Program) (t:TypeId) (M:St) (id i:Nat) (v:AV) (K:St→Prop):Prop :=
  match P.info? t,M.o[id]? with
  | some inf,some (.own none sz cells hole)=>bF (F7 sz v&&Nat.beq inf.size 1) ((Nat.blt i cells.length&&jI hole i)=true∧(bg (M.o.set id (.own none sz cells (some (i,v)))) fun o=>K { t:=M.t,l:=M.l,o:=o,b:=M.b }))
  | _,_=>af 325
def su (P:Program) (nw:Bool) (j:Nat) (a:wT) (t:TypeId) (l c:AV) (M:St) (k:AV→St→Prop):Prop :=
  match P.underlying t with
  | some (.slice e) =>
    match P.info? e,P.underlying e with
    | some i,some (.slice e2)=>match P.info? e2 with
      | some i2=>intOf l fun l=>intOf c fun c=>(decide (0≤l)&&decide (l≤c)&&decide (i.bytes * c≤140737488355328)&&decide (c≤140737488355328)&&Nat.blt 0 i.size)=true∧bF (Nat.beq i.size 1&&(Nat.blt 0 i2.size&&Nat.blt i2.size 65536))
          (cx P e fun z=>match z with
            | [.nilsl]=>List.replicate l.toNat none=a.cs∧nj j M.o M.b (.own none (match nw with | true=>i2.size + 65536 | false=>i2.size) a.cs none) fun o=>k (.mf j) { t:=M.t,l:=M.l,o:=o,b:=M.b }
            | _=>af 325)
      | none=>af 326
    | _,_=>af 61
  | _=>af 62
def sv (P:Program) (a:wT) (t:TypeId) (m key:AV) (ok:Bool) (M:St) (k:AV→St→Prop):Prop :=
  match P.underlying t with
  | some (.map kt e)=>match m with
    | .mp id=>match M.o[id]? with
      | some (.own (some ks) _ _ none)=>match a.at_ with
        | some i=>(∀ K':Option Nat→Prop,K' (some i)→kT P kt key (kU ks) fun _ r=>K' r)∧oH a.row M false id i fun a M'=>nq ok a true fun r=>k r M'
        | none=>(∀ K':Option Nat→Prop,K' none→kT P kt key (kU ks) fun _ r=>K' r)∧jH P e ok fun r=>k r M
      | _=>af 333
    | _=>af 334
  | _=>af 335
def Io (M:St) (id sz:Nat) (cells:List (Option (List (List AV)))) (hole:Option (Nat×AV)) (x:AV) (K:St→Prop) (r:Option Nat) (ks:List AV):Prop :=
  match r with
  | some i=>jI hole i=true∧(bg (M.o.set id (.own (some ks) sz cells (some (i,x)))) fun o=>K { t:=M.t,l:=M.l,o:=o,b:=M.b })
  | none=>match hole with
    | none=>bg (M.o.set id (.own (some ks) sz (cells++[none]) (some (cells.length,x)))) fun o=>K { t:=M.t,l:=M.l,o:=o,b:=M.b }
    | some _=>af 339
def qZ (P:Program) (a:wT) (t:TypeId) (m key x:AV) (M:St) (K:St→Prop):Prop :=
  match P.underlying t with
  | some (.map kt _)=>match m with
    | .mp id=>match M.o[id]? with
      | some (.own (some ks) sz cells hole)=>bF (Bh x&&!zB sz) ((∀ K':Option Nat→List AV→Prop,K' a.at_ a.ks→kT P kt key (kU ks) fun kv r=>bF (Df P kt kv) (match r with
          | some i=>bF (Instr.sameBits 10000 ((ks[i]?.bind A9).getD (.bool false)) kv) (K' (some i) (ks.set i key))
          | none=>K' none (ks++[key])))∧Io M id sz cells hole x K a.at_ a.ks)
      | _=>af 340
    | _=>af 341
  | _=>af 342
def Cy (P:Program) (A:dz) (pl:bK) (o:Oper) (vs:List AV) (M:St) (k:AV→St→Prop):Prop :=
  match qp A.own (keyOf o) with
  | none=>kP P pl o vs M k
  | some a=>match o.op,vs with
    | .load t _,[p]=>iV M p fun id i=>ss P a t (Ci pl o) (cO pl.pk (o.dst.getD 0)) M id i k
    | .store t _ _,[p,v]=>iV M p fun id i=>qc P t M id i v fun M'=>k .bad M'
    | .makeSlice t _ _,[l,c]=>su P (cO pl.nw (o.dst.getD 0)) (uG pl.ix o.dst M.o.length) a t l c M k
    | .lookup t _ _ ok,[m,key]=>sv P a t m key ok M k
    | .mapUpdate t _ _ _,[m,key,x]=>qZ P a t m key x M fun M'=>k .bad M'
    | .insert t _ _ _,[m,key,x]=>qZ P a t m key x M fun M'=>k .bad M'
    | _,_=>af 343
def oI (A:dz) (S:St) (id:Nat) (K:St→Prop):Prop :=
  match qp A.own (id + 2000000) with
  | none=>io S id K
  | some a=>match S.o[id]? with
    | some (.own ks sz cells (some (j,.mf k)))=>match S.o[k]? with
      | some (.arr true sz' rows)=>bF (Nat.beq sz' (uD sz)&&!zB sz) (Nat.blt j cells.length=true∧(cells.set j (some rows)=a.cs∧eN [k] S fun S1=>bg (S1.o.set id (.own ks sz a.cs none)) fun o=>K { t:=S1.t,l:=S1.l,o:=o,b:=S1.b }))
      | _=>af 320
    | some (.own ks sz cells (some (j,.mfx k)))=>match S.o[k]? with
      | some (.arr true sz' rows)=>bF (Nat.beq sz' (uD sz)) (Nat.blt j cells.length=true∧(cells.set j (some rows)=a.cs∧eN [k] S fun S1=>bg (S1.o.set id (.own ks sz a.cs none)) fun o=>K { t:=S1.t,l:=S1.l,o:=o,b:=S1.b }))
      | _=>af 320
    | some (.own ks sz cells (some (j,.nilsl)))=>Nat.blt j cells.length=true∧(cells.set j none=a.cs∧(bg (S.o.set id (.own ks sz a.cs none)) fun o=>K { t:=S.t,l:=S.l,o:=o,b:=S.b }))
    | _=>af 321
def vR (A:dz):List Nat→St→(St→Prop)→Prop
  | [],S,K=>K S
  | id::ids,S,K=>oI A S id fun S'=>vR A ids S' K
def q0 (A:dz) (S:St) (id:Nat) (K:St→Prop):Prop :=
  match qp A.mpr (id + 2000000) with
  | none=>jS S id K
  | some R=>match S.o[id]? with
    | some (.own (some ks) _ cells none)=>nr ks cells=R∧(bg (S.o.set id (.mapo true R)) fun o=>K { t:=S.t,l:=S.l,o:=o,b:=S.b })
    | _=>af 344
def sw (A:dz):List Nat→St→(St→Prop)→Prop
  | [],S,K=>K S
  | id::ids,S,K=>q0 A S id fun S'=>sw A ids S' K
def vS (A:dz) (pl:bK) (id:Nat) (S:St) (K:St→Prop):Prop :=
  match cO pl.cl id with
  | false=>K S
  | true=>vR A (Bg S.o.length) S fun S1=>match cO pl.fr id with
    | false=>K S1
    | true=>sw A (Bg S1.o.length) S1 K
def B2 (C:Ctx) (A:dz) (o:Oper) (vs:List AV) (M:St) (k:AV→St→Prop):Prop :=
  match o.op,vs with
  | .makeSlice t _ _,[l,c]=>match cO A.chk (keyOf o) with
    | true=>k_ C.P t l c M fun M' r=>k r M'
    | false=>kV C o vs M k
  | .call c,.fn fid first cap::as=>match c.callee with
    | .value _=>bF (!(C.pure fid)&&(first++as++cap).all (tz 4)) (match qp A.sto (keyOf o) with
      | some (r,o')=>(C.scall fid (first++as++cap) M.o fun r' o''=>r'=r∧o''=o')∧bF (bU M.o o' 0).isEmpty (k r { t:=M.t,l:=M.l,o:=o',b:=M.b })
      | none=>C.scall fid (first++as++cap) M.o fun r o'=>bF (bU M.o o' 0).isEmpty (k r { t:=M.t,l:=M.l,o:=o',b:=M.b }))
    | _=>af 310
  | _,_=>Gp C A o vs M k
def E_ (C:Ctx) (A:dz) (pl:bK) (o:Oper) (vs:List AV) (M:St) (k:AV→St→Prop):Prop :=
  match fQ pl o with
  | true=>Cy C.P A pl o vs M k
  | false=>B2 C A o vs M k
def GY (C:Ctx) (A:dz) (pl:bK) (o:Oper) (S:St) (K:St→Prop):Prop :=
  dk S o.op.operands.toList fun vs=>Cy C.P A pl o vs (cL S) fun r M=>bB o.dst r (fe S M) K
def Fa (C:Ctx) (A:dz) (pl:bK) (o:Oper) (S:St) (K:St→Prop):Prop :=
  dk S o.op.operands.toList fun vs=>E_ C A pl o vs (cL S) fun r M=>bB o.dst r (fe S M) K
def GZ (C:Ctx) (o:Oper) (S:St) (K:St→Prop):Prop :=
  dk S o.op.operands.toList fun vs=>HB C o vs fun r=>bB o.dst r S K
def m_ (A:dz) (o:Oper) (K:St→Prop) (S:St):Prop:=GW A o.dst S fun S'=>E7 A (keyOf o) S' K
def HC (C:Ctx) (A:dz) (pl:bK) (o:Oper) (S:St) (K:St→Prop):Prop :=
  match Ew o with
  | 0=>E8 C A pl o S (m_ A o K)
  | 1=>E9 C A o S (m_ A o K)
  | 2=>GX C A o S (m_ A o K)
  | _=>Gq C A pl o S (m_ A o K)
def G0 (C:Ctx) (A:dz) (pl:bK) (o:Oper) (S:St) (K:St→Prop):Prop :=
  match fQ pl o with
  | true=>GY C A pl o S (m_ A o K)
  | false=>HC C A pl o S K
def Ax (C:Ctx) (A:dz) (pl:bK) (o:Oper) (S:St) (K:St→Prop):Prop :=
  match fx pl o with
  | 0=>E8 C A pl o S (m_ A o K)
  | 1=>E9 C A o S (m_ A o K)
  | 2=>Fa C A pl o S (m_ A o K)
  | 4=>match o.dst with
    | some d=>bB o.dst (.ptr (.L d) 0 0) S K
    | none=>af 217
  | 5=>GZ C o S (m_ A o K)
  | _=>match zG pl o with
    | true=>af 219
    | false=>Gq C A pl o S (m_ A o K)
def HD (op:BinOp):Bool :=
  match op with
  | .eql | .neq=>true
  | _=>false
def yc (op:BinOp):Bool :=
  match op with
  | .eql=>true
  | _=>false
def G1 (P:Program) (o:Oper) (S:St) (K:St→Prop):Prop :=
  match o.op with
  | .binOp op t x (.const (.slice none 0 0)) _=>match P.underlying t with
    | some (.slice _)=>cI S x fun a=>match a with
      | .sl rows=>bF (HD op) ((rows=[]→bB o.dst (.v (.bool (yc op))) S K)∧bB o.dst (.v (.bool (!(yc op)))) S K)
      | _=>af 460
    | _=>af 461
  | _=>af 462
def zg (C:Ctx) (A:dz) (pl:bK) (all:Array Oper):List Oper→St→(St→Prop)→Prop
  | [],S,K=>K S
  | o::rest,S,K =>
    match o.guard with
    | none=>match cO A.dem (keyOf o) with
      | true=>G1 C.P o S fun S'=>zg C A pl all rest S' K
      | false=>G0 C A pl o S fun S'=>zg C A pl all rest S' K
    | some (j,want) =>
      match qy all j with
      | none=>af 218
      | some d=>f8 d S fun b S1=>gsel b want (G0 C A pl o S1 fun S'=>zg C A pl all rest S' K) (bB o.dst (.tup []) S1 fun S'=>zg C A pl all rest S' K)
def Ji (C:Ctx) (A:dz) (pl:bK) (all:Array Oper) (o:Oper) (S:St) (K:St→Prop):Prop :=
  match o.guard with
  | none=>bF (iW pl all o S) (Ax C A pl o S K)
  | some (j,want) =>
    match qy all j with
    | none=>af 218
    | some d=>f8 d S fun b S1=>gsel b want (bF (iW pl all o S1) (Ax C A pl o S1 K)) (bB o.dst (.tup []) S1 K)
def H8 (C:Ctx) (A:dz) (pl:bK) (aj:Array Oper) (i:Nat) (S:St) (K:St→Prop):Prop :=
  match aj[i]? with
  | none=>af 303
  | some o=>Ji C A pl aj o S K
def oT (C:Ctx) (A:dz) (pl:bK) (aj:Array Oper):PT→Option (St×Prop)→St→(St→Prop)→Prop
  | .done,m,S,K=>match m with
    | none=>K S
    | some (_,X)=>X
  | .go i t,m,S,K=>match m with
    | none=>H8 C A pl aj i S fun S'=>oT C A pl aj t none S' K
    | some (_,_)=>af 305
  | .alt i t r,m,S,K=>match m with
    | none=>H8 C A pl aj i S fun S'=>oT C A pl aj t none S' fun S1=>oT C A pl aj r (some (S1,K S1)) S K
    | some (S1,X)=>H8 C A pl aj i S fun S'=>oT C A pl aj t none S' fun S2=>S2=S1∧oT C A pl aj r (some (S1,X)) S K
def pu (f:Nat→Option PT):List Nat→Option PT
  | []=>some .done
  | i::is=>match f i with
    | some t=>match pu f is with
      | some r=>some (.alt i t r)
      | none=>none
    | none=>none
def Kq:List Nat→Bool
  | [_,_] | [_,_,_] | [_,_,_,_]=>true
  | _=>false
def jO (pl:bK) (aj:Array Oper) (ws:List Nat):Nat→Nat→Array Bool→Option PT
  | 0,_,listed=>match Region.ready .any aj listed with
    | []=>some .done
    | _::_=>none
  | n + 1,a,listed =>
    match Region.ready .any aj listed with
    | []=>some .done
    | r::rs=>match nu pl aj ws listed (r::rs) with
      | some k=>match jO pl aj ws n a (listed.setIfInBounds k true) with | some t=>some (.go k t) | none=>none
      | none=>match rs with
        | []=>match jO pl aj ws n a (listed.setIfInBounds r true) with | some t=>some (.go r t) | none=>none
        | _::_=>match Kq (r::rs),a with
          | true,a + 1=>pu (fun i=>jO pl aj ws n a (listed.setIfInBounds i true)) (r::rs)
          | _,_=>none
def yd (pl:bK) (aj:Array Oper) (ws:List Nat):Nat→Array Bool→Option PT
  | 0,listed=>jO pl aj ws 0 6 listed
  | n + 1,listed=>match nv aj listed (Region.ready .any aj listed) with
    | some i=>match yd pl aj ws n (listed.setIfInBounds i true) with | some t=>some (.go i t) | none=>none
    | none=>jO pl aj ws (n + 1) 6 listed
def vV (pl:bK) (aj:Array Oper):Option PT :=
  match I3 aj with
  | false=>none
  | true=>match pl.cl with
    | []=>jO pl aj (bV aj.toList []) aj.size 3 (Array.replicate aj.size false)
    | _::_=>yd pl aj (bV aj.toList []) aj.size (Array.replicate aj.size false)
def kD (pl:bK) (ord:List (Nat×PT)):Code→Bool
  | .region id aj true=>match qp ord id,vV pl aj with
    | some is,some js=>BY is js
    | _,_=>false
  | .seq a b=>kD pl ord a&&kD pl ord b
  | .cond _ a b=>kD pl ord a&&kD pl ord b
  | .block _ c=>kD pl ord c
  | .loop c=>kD pl ord c
  | _=>true
def pw:Code→Nat
  | .region id _ _=>id
  | .seq a _=>pw a
  | .cond _ a _=>pw a
  | .block _ c=>pw c
  | .loop c=>pw c
  | _=>0
def DV (A:Hy) (id:Nat) (S:St) (K:St→Prop):Prop :=
  match qp A.wr id with
  | some L=>E4 L S K
  | none=>K S
def Gr:Type:=Code→St→(Ex→St→Prop)→Prop
def vW (C:Ctx) (cd:Gr) (A:Hy) (pl:bK):Code→St→(Ex→St→Prop)→Prop
  | .skip,S,K=>K .nrm S
  | .region id aj draw,S,K =>
    match draw with
    | false=>zg C (DU A id) pl aj aj.toList S fun S'=>vS (DU A id) pl id S' fun S''=>DV A id S'' (K .nrm)
    | true=>match qp A.ord id with
      | some is=>bF (sT pl aj) (wA C.P (cr aj.toList) S fun S1=>oT C (DU A id) pl aj is none S1 fun S'=>km (cr aj.toList) S' (vS (DU A id) pl id S' fun S''=>DV A id S'' (K .nrm)))
      | none=>af 440
  | .seq a b,S,K=>vW C cd A pl a S fun e S'=>match e with
    | .nrm=>match qp A.cut (pw b) with
      | some (W,L,e1,S1)=>E4 L (wk W S') fun S2=>cd b S2 (fun e' S3=>e'=e1∧S3=S1)∧K e1 S1
      | none=>vW C cd A pl b S' K
    | .ex i=>K (.ex i) S'
    | .ret=>K .ret S'
  | .cond c x y,S,K=>nh c S fun b S'=>match b with
    | true=>vW C cd A pl x S' K
    | false=>vW C cd A pl y S' K
  | .block id c,S,K=>vW C cd A pl c S fun e S'=>match e with
    | .ex i=>match Nat.beq i id with | true=>K .nrm S' | false=>K (.ex i) S'
    | .nrm=>K .nrm S'
    | .ret=>K .ret S'
  | .loop c,S,K=>match qp A.lps (pw c) with
    | some (W,L,e,S1)=>E4 L (wk W S) fun S2=>(C.loop pl c S2 fun e' S'=>e'=e∧S'=S1)∧K e S1
    | none=>C.loop pl c S K
  | .exit id,S,K=>K (.ex id) S
  | .ret,S,K=>K .ret S
  | _,_,_=>af 119
def sub:Code→List Nat→Code
  | c,[]=>c
  | .seq a _,0::p=>sub a p
  | .seq _ b,_::p=>sub b p
  | .cond _ a _,0::p=>sub a p
  | .cond _ _ b,_::p=>sub b p
  | .block _ c,_::p=>sub c p
  | .loop c,_::p=>sub c p
  | c,_=>c
def b9 (P:Program) (f:Nat):Code :=
  match P.funcs[f]? with
  | some fn=>fn.body.getD .skip
  | none=>.skip
def dE (S S':St):Prop:=∀ (G:Gh) (E:Env) (a:Act) (w:World),ai G pn E S w→TR E S.t a→∃ E',ai G pn E' S' w∧TR E' S'.t a
def HE:Ex→Nat
  | .nrm=>0
  | .ret=>1
  | .ex i=>i + 2
def HF (C:Ctx) (cd:Gr) (A:Hy) (pl:bK) (we:List (Nat×(Wk×Le))) (c:Code) (S:St) (K:Ex→St→Prop):Prop :=
  vW C cd A pl c S fun e S'=>match qp we (HE e) with
    | some (W,L)=>E4 L (wk W S') (K e)
    | none=>K e S'
def J9:List (Nat×AV)→Nat→Nat→List AV
  | _,_,0=>[]
  | xs,i,n + 1=>(match qp xs i with | some a=>a | none=>.bad)::J9 xs (i + 1) n
def dU (n:Nat) (ts:List (Nat×AV)) (l:List (Nat×List AV)) (o:List Ob) (b:Nat):St:={ t:=J9 ts 0 n,l:=l,o:=o,b:=b }
theorem dE.refl (S:St):dE S S:=fun _ E _ _ h k=>⟨E,h,k⟩
theorem dE.trans {S S' S'':St} (h:dE S S') (k:dE S' S''):dE S S'':=fun G E a w hM ht=>by
  obtain ⟨E1,h1,h2⟩:=h G E a w hM ht
  exact k G E1 a w h1 h2
theorem ey.refl (a:AV):ey a a:=fun _ _ h=>h
theorem ey.trans {a b c:AV} (h:ey a b) (k:ey b c):ey a c:=fun _ _ hv=>k _ _ (h _ _ hv)
theorem ey.bad (a:AV):ey a .bad:=fun _ _ _=>.bad _ _
theorem ey.nil:ey .nilsl (.sl []):=fun E u h=>by cases h; exact .sln E
theorem ey.esl:ey .esl (.sl []):=fun E u h=>by
  cases h with
  | esln=>exact .sln E
  | esl _ a=>exact .sle E a 0
theorem dw.refl (r:List AV):dw r r:=⟨rfl,fun _ _ _ h k=>by rw [h] at k; cases k; exact .refl _⟩
theorem dw.nil:dw [] []:=.refl _
theorem dw.cons {a b:AV} {r r':List AV} (h:ey a b) (k:dw r r'):dw (a::r) (b::r') :=
  ⟨by simp [k.1],fun i x y h1 h2=>by
    cases i with
    | zero=>simp at h1 h2; subst h1 h2; exact h
    | succ i=>exact k.2 i x y (by simpa using h1) (by simpa using h2)⟩
theorem dw.vrs {r r':List AV} {E:Env} {us:List Value} (h:dw r r') (hv:b7 E r us):b7 E r' us :=
  ⟨by rw [← h.1]; exact hv.1,fun m c u h1 h2=>by
    have hm:m<r.length:=by rw [h.1]; exact (List.getElem?_eq_some_iff.1 h1).1
    exact h.2 m _ c (List.getElem?_eq_getElem hm) h1 _ _ (hv.2 m _ u (List.getElem?_eq_getElem hm) h2)⟩
theorem ey.agg {r r':List AV} (h:dw r r'):ey (.agg r) (.agg r'):=fun E u hv=>by
  obtain ⟨us,rfl,h1⟩:=hv.aggI
  exact b7.aggV (h.vrs h1)
theorem ey.tup {r r':List AV} (h:dw r r'):ey (.tup r) (.tup r'):=fun E u hv=>by
  obtain ⟨us,rfl,h1⟩:=hv.tupI
  have:=h.vrs h1
  exact .tup us (by simpa using this.1) (fun m c u h1 h2=>this.2 m c u h1 (by simpa using h2))
theorem ey.fptr {r r':List AV} {j:Nat} (h:dw r r'):ey (.fptr r j) (.fptr r' j):=fun E u hv=>by
  cases hv with
  | fptr j us h1 h2 h3 h4 =>
    have:=h.vrs (E:=E.fz) (us:=us) ⟨h1.symm,h2⟩
    exact .fptr j us this.1.symm this.2 h3 h4
theorem i6.refl (r:List (List AV)):i6 r r:=⟨rfl,fun _ _ _ h k=>by rw [h] at k; cases k; exact .refl _⟩
theorem i6.nil:i6 [] []:=.refl _
theorem i6.cons {a b:List AV} {r r':List (List AV)} (h:dw a b) (k:i6 r r'):i6 (a::r) (b::r') :=
  ⟨by simp [k.1],fun i x y h1 h2=>by
    cases i with
    | zero=>simp at h1 h2; subst h1 h2; exact h
    | succ i=>exact k.2 i x y (by simpa using h1) (by simpa using h2)⟩
theorem i6.app {a b r r':List (List AV)} (h:i6 a b) (k:i6 r r'):i6 (a++r) (b++r'):=by
  induction a generalizing b with
  | nil =>
    have:b=[]:=List.eq_nil_of_length_eq_zero h.1.symm
    subst this
    exact k
  | cons x a ih =>
    cases b with
    | nil=>exact absurd h.1 (by simp)
    | cons y b=>exact .cons (h.2 0 x y rfl rfl) (ih ⟨by simpa using h.1,fun i p q h1 h2=>h.2 (i + 1) p q (by simpa using h1) (by simpa using h2)⟩)
theorem dw.app {a b r r':List AV} (h:dw a b) (k:dw r r'):dw (a++r) (b++r'):=by
  induction a generalizing b with
  | nil =>
    have:b=[]:=List.eq_nil_of_length_eq_zero h.1.symm
    subst this
    exact k
  | cons x a ih =>
    cases b with
    | nil=>exact absurd h.1 (by simp)
    | cons y b=>exact .cons (h.2 0 x y rfl rfl) (ih ⟨by simpa using h.1,fun i p q h1 h2=>h.2 (i + 1) p q (by simpa using h1) (by simpa using h2)⟩)
theorem i6.flat {r r':List (List AV)} (h:i6 r r'):dw r.flatten r'.flatten:=by
  induction r generalizing r' with
  | nil =>
    have:r'=[]:=List.eq_nil_of_length_eq_zero h.1.symm
    subst this
    exact .refl _
  | cons x a ih =>
    cases r' with
    | nil=>exact absurd h.1 (by simp)
    | cons y b =>
      have h1:=h.2 0 x y rfl rfl
      have h2:=ih (r':=b) ⟨by simpa using h.1,fun i p q h1 h2=>h.2 (i + 1) p q (by simpa using h1) (by simpa using h2)⟩
      rw [List.flatten_cons,List.flatten_cons]
      have app:∀ {a b r r':List AV},dw a b→dw r r'→dw (a++r) (b++r'):=by
        intro a b r r' h k
        induction a generalizing b with
        | nil =>
          have:b=[]:=List.eq_nil_of_length_eq_zero h.1.symm
          subst this
          exact k
        | cons x a ih =>
          cases b with
          | nil=>exact absurd h.1 (by simp)
          | cons y b=>exact .cons (h.2 0 x y rfl rfl) (ih ⟨by simpa using h.1,fun i p q h1 h2=>h.2 (i + 1) p q (by simpa using h1) (by simpa using h2)⟩)
      exact app h1 h2
theorem i6.lens {r r':List (List AV)} {sz:Nat} (h:i6 r r') (hl:∀ x∈r,x.length=sz):∀ x∈r',x.length=sz:=by
  intro x hx
  obtain ⟨i,hi⟩:=List.getElem?_of_mem hx
  have hlt:i<r.length:=by rw [h.1]; exact (List.getElem?_eq_some_iff.1 hi).1
  rw [← (h.2 i _ x (List.getElem?_eq_getElem hlt) hi).1]
  exact hl _ (List.getElem_mem hlt)
theorem ey.sl {r r':List (List AV)} (h:i6 r r'):ey (.sl r) (.sl r'):=fun E u hv=>by
  cases hv with
  | sln =>
    have:r'=[]:=List.eq_nil_of_length_eq_zero h.1.symm
    subst this
    exact .sln E
  | sle _ a cap =>
    have:r'=[]:=List.eq_nil_of_length_eq_zero h.1.symm
    subst this
    exact .sle E a cap
  | sl us h1 h2 h3 h4 h5 h6 h7 =>
    have hf:=h.flat
    have:=hf.vrs (E:=E.fz) (us:=us) ⟨h3.symm,h4⟩
    rw [h.1]
    exact .sl us h1 (h.lens h2) this.1.symm this.2 h5 h6 (by rw [← h.1]; exact h7)
theorem Cz {ts:List Nat}:∀ {t:List AV} {i j:Nat} {c:AV},(Gl ts i t)[j]?=some c→c=.bad∨t[j]?=some c
  | [],_,_,_,h=>by simp [Gl] at h
  | x::xs,i,0,c,h=>by
    simp only [Gl,List.getElem?_cons_zero,Option.some.injEq] at h
    split at h
    · exact .inr (by rw [← h]; rfl)
    · exact .inl h.symm
  | x::xs,i,j + 1,c,h=>by
    simp only [Gl,List.getElem?_cons_succ] at h
    rw [List.getElem?_cons_succ]
    exact Cz h
theorem CB {ts:List Nat}:∀ {t:List AV} {i:Nat},(Gl ts i t).length=t.length
  | [],_=>rfl
  | x::xs,i=>by simp [Gl,CB]
theorem Fb (ts:List Nat) (S:St):dE S { t:=Gl ts 0 S.t,l:=S.l,o:=S.o,b:=S.b }:=fun _ E _ _ hM ht =>
  ⟨E,hM.congr rfl rfl rfl,by rw [CB]; exact ht.len,fun n c u h1 h2=>by
    rcases Cz h1 with h | h
    · rw [h]; exact .bad _ _
    · exact ht.val n c u h h2,ht.df,ht.gt⟩
theorem zh (d:Nat) (S:St):dE S (eb d S):=fun G E a w hM ht=>by
  obtain ⟨E1,h1,h2,_⟩:=pT hM ht d rfl
  exact ⟨E1,h1,h2⟩
theorem q6:∀ (ds:List Nat) (S:St),dE S (y_ ds S)
  | [],S=>.refl S
  | d::ds,S=>(zh d S).trans (q6 ds _)
theorem ye (i:Nat) (S:St):dE S (cV i S):=fun _ _ _ _ hM ht =>
  let ⟨h1,h2⟩:=s6 hM ht i
  ⟨_,h1,h2⟩
theorem vX:∀ (ds:List Nat) (S:St),dE S (E0 ds S)
  | [],S=>.refl S
  | d::ds,S=>(ye d S).trans (vX ds _)
theorem nV:∀ {os:List Ob} {i:Nat} {x:Ob},za os=true→os[i]?=some x→x=.dead
  | [],i,x,_,h=>by simp at h
  | .dead::os,0,x,_,h=>by simp at h; exact h.symm
  | .dead::os,i + 1,x,h,h1=>nV (os:=os) (i:=i) h (by simpa using h1)
  | .arr _ _ _::os,_,_,h,_=>by cases h
  | .mapo _ _::os,_,_,h,_=>by cases h
  | .own _ _ _ _::os,_,_,h,_=>by cases h
theorem DW (n:Nat) (S:St):dE S (Hu n S):=fun _ E _ _ hM ht=>by
  unfold Hu
  split
  · rename_i h
    rw [Bool.and_eq_true] at h
    have hb:=Nat.le_of_ble_eq_true h.2
    have hbl:=hM.bl
    refine ⟨E,⟨hM.hp,hM.os,hM.tape,hM.output,hM.size,hM.keep,hM.F0,hM.Flt,hM.Fnew,hM.own,hM.inj,hM.loc,fun id=>?_,fun id hid=>?_,?_,hM.szs,hM.pk,fun id=>?_⟩,ht⟩
    · have h0:=hM.obj id
      show fu E (S.o.take n)[id]? _
      rw [List.getElem?_take]
      split
      · exact h0
      · rename_i hn
        cases hx:S.o[id]? with
        | none=>rw [hx] at h0; exact h0
        | some x =>
          have:x=.dead:=nV h.1 (i:=id - n) (by rw [List.getElem?_drop]; rw [show n + (id - n)=id by omega]; exact hx)
          rw [hx,this] at h0
          revert h0
          cases E.mu (.O id) with
          | none=>exact fun _=>trivial
          | some _=>exact fun h=>h.elim
    · show (S.o.take n)[id]?=some .dead∨_
      have hid':id<S.b:=hid
      rw [List.getElem?_take,if_pos (by omega)]
      exact hM.old id hid
    · show S.b≤(S.o.take n).length
      rw [List.length_take]
      omega
    · have h0:=hM.ow id
      show dB E id (S.o.take n)[id]?
      rw [List.getElem?_take]
      split
      · exact h0
      · rename_i hn
        cases hx:S.o[id]? with
        | none=>rw [hx] at h0; exact h0
        | some x =>
          have:x=.dead:=nV h.1 (i:=id - n) (by rw [List.getElem?_drop]; rw [show n + (id - n)=id by omega]; exact hx)
          rw [hx,this] at h0
          exact h0
  · exact ⟨E,hM,ht⟩
theorem vY {G:Gh} {E:Env} {S:St} {w:World} (hM:ai G pn E S w):E.mu (.O S.o.length)=none:=by
  have:=hM.obj S.o.length
  rw [List.getElem?_eq_none (Nat.le_refl _)] at this
  revert this
  cases E.mu (.O S.o.length) with
  | none=>exact fun _=>rfl
  | some _=>exact fun h=>h.elim
theorem Ay {G:Gh} {E:Env} {S:St} {w:World} (hM:ai G pn E S w) (sz:Nat) (t:List AV):ai G pn ⟨E.F,aF E.mu (.O S.o.length) .virt,E.h⟩ { t:=t,l:=S.l,o:=S.o++[.arr true sz []],b:=S.b } w:=by
  have hbl:=hM.bl
  refine hM.addkey' (key:=.O S.o.length) (mv:=.virt) (fun _ _=>rfl) (fun _ h=>by cases h) (vY hM) (fun _ _ _ _ h=>by cases h) (fun _ _=>rfl) (fun id hid=>?_) rfl ?_ (fun id h=>?_) (fun _ h=>by cases h) (fun id h=>?_) ?_
  · show (S.o++[_])[id]?=_
    by_cases h:id<S.o.length
    · rw [List.getElem?_append_left h]
    · have hne:id≠S.o.length:=fun e=>hid (by rw [e])
      rw [List.getElem?_eq_none (by simp; omega),List.getElem?_eq_none (by omega)]
  · show S.b≤(S.o++[_]).length
    simp
    omega
  · cases h
    exact hbl
  · cases h
    show fu _ (S.o++[_])[S.o.length]? _
    rw [List.getElem?_append_right (Nat.le_refl _),Nat.sub_self]
    rfl
  · exact hM.ow_push rfl rfl
theorem qd:∀ (ps:List (Nat×Nat)) (S:St),dE S (Aw ps S)
  | [],S=>.refl S
  | (d,sz)::ps,S=>by
    unfold Aw
    split
    · rename_i hd
      refine dE.trans ?_ (qd ps _)
      intro G E a w hM ht
      refine ⟨_,Ay hM sz _,?_⟩
      have hle:LE E ⟨E.F,aF E.mu (.O S.o.length) .virt,E.h⟩:=jw (vY hM)
      refine ⟨by simpa using ht.len,fun n c u h1 h2=>?_,ht.df,ht.gt.mono hle⟩
      have h1':(S.t.set d (.mf S.o.length))[n]?=some c:=h1
      rw [List.getElem?_set] at h1'
      split at h1'
      · rename_i e
        subst e
        split at h1'
        · cases h1'
          have hv:=ht.val d _ u hd h2
          cases hv
          exact .mfn (by show aF _ _ _ _=_; unfold aF; rw [if_pos rfl])
        · cases h1'
      · exact (ht.val n c u h1' h2).mono hle
    · exact qd ps S
theorem mH:∀ (ps:List (Nat×Nat×Nat)) (S:St),dE S (x_ ps S)
  | [],S=>.refl S
  | (d,j,sz)::ps,S=>by
    unfold x_
    split
    · rename_i row hd
      split
      · rename_i hj
        refine dE.trans ?_ (mH ps _)
        intro G E a w hM ht
        have hle:LE E ⟨E.F,aF E.mu (.O S.o.length) .virt,E.h⟩:=jw (vY hM)
        refine ⟨_,?_,ht.mono hle⟩
        have h0:=Ay hM sz S.t
        refine ⟨h0.hp,h0.os,h0.tape,h0.output,h0.size,h0.keep,h0.F0,h0.Flt,h0.Fnew,h0.own,h0.inj,fun e=>?_,h0.obj,h0.old,h0.bl,h0.szs,(fun _ _ h=>by cases h),h0.ow⟩
        have h1:=h0.loc e
        show gB pn _ (aJ (qw S.l d (row.set j (.mf S.o.length))) e) e
        rw [i1 hd]
        split
        · rename_i e'
          subst e'
          have h1':gB pn ⟨E.F,aF E.mu (.O S.o.length) .virt,E.h⟩ (aJ S.l d) d:=h1
          rw [hd] at h1'
          rcases h1' with ⟨b,h2,h3,h4,us,ty,h5,h6,h7⟩ | ⟨_,h2,_⟩
          · refine .inl ⟨b,by simpa using h2,by simpa using h3,by simp,us,ty,h5,by simpa using h6,fun m c hc=>?_⟩
            have hf:[row.set j (.mf S.o.length)].flatten=row.set j (.mf S.o.length):=by simp
            have hf0:[row].flatten=row:=by simp
            rw [hf,List.getElem?_set] at hc
            split at hc
            · rename_i e'
              subst e'
              split at hc
              · cases hc
                obtain ⟨u,hu,hv⟩:=h7 j .nilsl (by rw [hf0]; exact hj)
                refine ⟨u,hu,?_⟩
                cases hv
                exact .mfn (by show aF _ _ _ _=_; unfold aF; rw [if_pos rfl])
              · cases hc
            · exact h7 m c (by rw [hf0]; exact hc)
          · cases h2
        · exact h1
      · exact mH ps S
    · exact mH ps S
theorem CC {G:Gh} {E:Env} {S:St} {w:World} {a:Act} (hM:ai G pn E S w) (ht:TR E S.t a) (ids:List Nat):LE (E.fd ids) ⟨FD E ids,i5 ids E.mu,E.h⟩∧ai G pn ⟨FD E ids,i5 ids E.mu,E.h⟩ (ed ids S) w∧TR ⟨FD E ids,i5 ids E.mu,E.h⟩ (ed ids S).t a:=by
  obtain ⟨hS1,ht1⟩:=lk (ids:=ids) hM ht
  obtain ⟨hle2,hS2⟩:=hS1.freeze (F':=FD E ids) (fun b h=>.inl h) (fun b h=>by
    rcases h with h | ⟨id,hid,o',s,n,hm⟩
    · exact .inl h
    · obtain ⟨h1,h2,h3⟩:=hM.own _ _ _ _ _ hm
      refine .inr ⟨h2,h3,fun k o'' s' n' h'=>?_⟩
      obtain ⟨h4,h5⟩:=gW h'
      exact h5 id hid (hM.inj _ _ _ _ _ _ _ _ _ h4 hm))
  exact ⟨⟨fun _ h=>h,fun _ _ _ h=>(by cases h),fun _ _=>rfl,fun _ _ _ _ _ _ h=>(by cases h)⟩,hS2,ht1.mono hle2⟩
theorem DX {S:St} {d j:Nat} {row:List AV} {x y:AV} (hr:aJ S.l d=some row) (hj:row[j]?=some x) (hy:A8 S.o 6 x=some y):dE S (Hv (dl S.o 6 x) d j y S):=by
  intro G E a w hM ht
  obtain ⟨hle,hS2,ht2⟩:=CC hM ht (dl S.o 6 x)
  unfold Hv
  split
  · rename_i row' hr'
    refine ⟨_,⟨hS2.hp,hS2.os,hS2.tape,hS2.output,hS2.size,hS2.keep,hS2.F0,hS2.Flt,hS2.Fnew,hS2.own,hS2.inj,fun e=>?_,hS2.obj,hS2.old,hS2.bl,hS2.szs,(fun _ _ h=>by cases h),hS2.ow⟩,ht2⟩
    show gB pn _ (aJ (qw (ed (dl S.o 6 x) S).l d (row'.set j y)) e) e
    rw [i1 hr']
    split
    · rename_i e'
      subst e'
      have l1:=hM.loc d
      have l2:=hS2.loc d
      rw [hr] at l1
      rw [hr'] at l2
      rcases l1 with ⟨b,h2,h3,h4,us,ty,h5,h6,h7⟩ | ⟨_,h2,_⟩
      · rcases l2 with ⟨b',k2,k3,k4,us',ty',k5,k6,k7⟩ | ⟨_,k2,_⟩
        · have k2':=(gW k2).1
          rw [h2] at k2'
          injection k2' with k2'
          injection k2' with e1 _ _ _
          subst e1
          have k5':E.h[b]?=_:=k5
          rw [h5] at k5'
          cases k5'
          refine .inl ⟨b,by simpa using k2,by simpa using k3,by simp,us,ty,k5,by simpa using k6,fun m c hc=>?_⟩
          have hf:[row'.set j y].flatten=row'.set j y:=by simp
          have hf0:[row'].flatten=row':=by simp
          rw [hf,List.getElem?_set] at hc
          split at hc
          · rename_i e'
            subst e'
            split at hc
            · cases hc
              have hf1:[row].flatten=row:=by simp
              obtain ⟨u,hu,hv⟩:=h7 j x (by rw [hf1]; exact hj)
              exact ⟨u,hu,(ga hM 6 hy hv (ids:=dl S.o 6 x) (fun _ h=>h)).mono hle⟩
            · cases hc
          · exact k7 m c (by rw [hf0]; exact hc)
        · cases k2
      · cases h2
    · exact hS2.loc e
  · exact ⟨_,hS2,ht2⟩
theorem gg:∀ (ds:List Nat) (S:St),dE S (vQ ds S)
  | [],S=>.refl S
  | d::ds,S=>by
    unfold vQ
    split
    · split
      · rename_i row hr
        split
        · rename_i x hx
          split
          · rename_i y hy
            exact (DX hr hx hy).trans (gg ds _)
          · exact gg ds S
        · exact gg ds S
      · exact gg ds S
    · split
      · rename_i x hx
        split
        · rename_i y hy
          refine dE.trans ?_ (gg ds _)
          intro G E a w hM ht
          obtain ⟨hle,hS2,ht2⟩:=CC hM ht (dl S.o 6 x)
          refine ⟨_,hS2.congr rfl rfl rfl,by simpa using ht2.len,fun n c u h1 h2=>?_,ht2.df,ht2.gt⟩
          have h1':((ed (dl S.o 6 x) S).t.set d y)[n]?=some c:=h1
          rw [List.getElem?_set] at h1'
          split at h1'
          · rename_i e
            subst e
            split at h1'
            · cases h1'
              exact (ga hM 6 hy (ht.val d _ u hx h2) (ids:=dl S.o 6 x) (fun _ h=>h)).mono hle
            · cases h1'
          · exact ht2.val n c u h1' h2
        · exact gg ds S
      · exact gg ds S
theorem Fc (W:Wk) (S:St):dE S (Jh W S):=by
  unfold Jh
  exact (Fb W.ts S).trans ((q6 W.ls _).trans ((vX _ _).trans ((DW _ _).trans ((qd _ _).trans (mH _ _)))))
theorem oJ (W:Wk) (S:St):dE S (wk W S):=(gg W.fz S).trans (Fc W _)
theorem Az:∀ {xs:List (Nat×AV)} {S:St} {K:St→Prop},Hw xs S K→∃ S',dE S S'∧K S'
  | [],S,K,h=>⟨S,.refl S,h⟩
  | (d,v)::xs,S,K,h=>by
    obtain ⟨a,ha,hl,h⟩:=ca.1 h
    rw [d3] at h
    obtain ⟨S',h1,h2⟩:=Az h
    refine ⟨S',dE.trans ?_ h1,h2⟩
    intro G E act w hM ht
    refine ⟨E,hM.congr rfl rfl rfl,by simpa using ht.len,fun n c u h1 h2=>?_,ht.df,ht.gt⟩
    have h1':(S.t.set d v)[n]?=some c:=h1
    rw [List.getElem?_set] at h1'
    split at h1'
    · rename_i e
      subst e
      split at h1'
      · cases h1'
        exact hl _ _ (ht.val d _ u ha h2)
      · cases h1'
    · exact ht.val n c u h1' h2
theorem AA:∀ {xs:List (Nat×List AV)} {S:St} {K:St→Prop},Gm xs S K→∃ S',dE S S'∧K S'
  | [],S,K,h=>⟨S,.refl S,h⟩
  | (d,r)::xs,S,K,h=>by
    unfold Gm at h
    split at h
    · rename_i row hd
      obtain ⟨hl,h⟩:=h
      rw [iu] at h
      obtain ⟨S',h1,h2⟩:=AA h
      refine ⟨S',dE.trans ?_ h1,h2⟩
      intro G E act w hM ht
      refine ⟨E,?_,ht⟩
      refine ⟨hM.hp,hM.os,hM.tape,hM.output,hM.size,hM.keep,hM.F0,hM.Flt,hM.Fnew,hM.own,hM.inj,fun e=>?_,hM.obj,hM.old,hM.bl,hM.szs,(fun _ _ h=>by cases h),hM.ow⟩
      have h1:=hM.loc e
      show gB pn _ (aJ (qw S.l d r) e) e
      rw [i1 hd]
      split
      · rename_i e'
        subst e'
        rw [hd] at h1
        rcases h1 with ⟨b,h2,h3,h4,us,ty,h5,h6,h7⟩ | ⟨_,h2,_⟩
        · refine .inl ⟨b,by rw [← hl.1]; exact h2,by rw [← hl.1]; exact h3,by simp,us,ty,h5,by rw [← hl.1]; exact h6,fun m c hc=>?_⟩
          have hf:[r].flatten=r:=by simp
          have hf0:[row].flatten=row:=by simp
          rw [hf] at hc
          have hm:m<row.length:=by rw [hl.1]; exact (List.getElem?_eq_some_iff.1 hc).1
          obtain ⟨u,hu,hv⟩:=h7 m _ (by rw [hf0]; exact List.getElem?_eq_getElem hm)
          exact ⟨u,hu,hl.2 m _ c (List.getElem?_eq_getElem hm) hc _ _ hv⟩
        · cases h2
      · exact h1
    · exact False.elim h
theorem AB:∀ {xs:List (Nat×List (List AV))} {S:St} {K:St→Prop},Gn xs S K→∃ S',dE S S'∧K S'
  | [],S,K,h=>⟨S,.refl S,h⟩
  | (i,R)::xs,S,K,h=>by
    unfold Gn at h
    split at h
    · rename_i fl sz rows hi
      obtain ⟨hl,h⟩:=h
      rw [az] at h
      obtain ⟨S',h1,h2⟩:=AB h
      refine ⟨S',dE.trans ?_ h1,h2⟩
      intro G E act w hM ht
      refine ⟨E,?_,ht⟩
      refine ⟨hM.hp,hM.os,hM.tape,hM.output,hM.size,hM.keep,hM.F0,hM.Flt,hM.Fnew,hM.own,hM.inj,hM.loc,fun id=>?_,fun id hid=>?_,by show S.b≤(S.o.set _ _).length; rw [List.length_set]; exact hM.bl,hM.szs,hM.pk,fun id=>?_⟩
      · have h1:=hM.obj id
        show fu E (S.o.set i _)[id]? _
        rw [List.getElem?_set]
        split
        · rename_i e
          subst e
          rw [if_pos (List.getElem?_eq_some_iff.1 hi).1]
          rw [hi] at h1
          revert h1
          cases E.mu (.O i) with
          | none=>exact fun h=>h
          | some mv =>
            cases mv with
            | virt =>
              intro h
              have h:rows=[]:=h
              subst h
              exact List.eq_nil_of_length_eq_zero hl.1.symm
            | blk b o s n =>
              rintro ⟨⟨h1,h2⟩,h3,h4,us,ty,h5,h6,h7⟩
              refine ⟨⟨h1,by rw [← hl.1]; exact h2⟩,h3,hl.lens h4,us,ty,h5,by rw [← hl.1]; exact h6,fun m c hc=>?_⟩
              have hf:=hl.flat
              have hm:m<rows.flatten.length:=by rw [hf.1]; exact (List.getElem?_eq_some_iff.1 hc).1
              obtain ⟨u,hu,hv⟩:=h7 m _ (List.getElem?_eq_getElem hm)
              exact ⟨u,hu,hf.2 m _ c (List.getElem?_eq_getElem hm) hc _ _ hv⟩
        · exact h1
      · have h1:=hM.old id hid
        show (S.o.set i _)[id]?=some .dead∨_
        rw [List.getElem?_set]
        split
        · rename_i e
          subst e
          rcases h1 with h1 | h1
          · rw [hi] at h1; cases h1
          · exact .inr h1
        · exact h1
      · have h1:=hM.ow id
        show dB E id (S.o.set i _)[id]?
        rw [List.getElem?_set]
        split
        · rename_i e
          subst e
          rw [if_pos (List.getElem?_eq_some_iff.1 hi).1]
          rw [hi] at h1
          exact h1
        · exact h1
    · exact False.elim h
theorem lc {L:Le} {S:St} {K:St→Prop} (h:E4 L S K):∃ S',dE S S'∧K S':=by
  obtain ⟨S1,h1,h⟩:=Az h
  obtain ⟨S2,h2,h⟩:=AA h
  obtain ⟨S3,h3,h⟩:=AB h
  exact ⟨S3,h1.trans (h2.trans h3),h⟩
structure vZ (C:Ctx):Prop where
  det:gd C
theorem aw.mono2 {α β:Type} {X:(α→β→Prop)→Prop} (h:ar X) {K K':α→β→Prop} (hx:X K) (hk:∀ r s,K r s→K' r s):X K':=by
  obtain ⟨r,s,h1,h2⟩:=h _ hx
  exact h2 _ (hk r s h1)
theorem aw.mono {α:Type} {X:(α→Prop)→Prop} (h:aw X) {K K':α→Prop} (hx:X K) (hk:∀ r,K r→K' r):X K':=by
  obtain ⟨r,h1,h2⟩:=h K hx
  exact h2 _ (hk r h1)
theorem ar.mono {α β:Type} {X:(α→β→Prop)→Prop} (h:ar X) {K K':α→β→Prop} (hx:X K) (hk:∀ a b,K a b→K' a b):X K':=by
  obtain ⟨a,b,h1,h2⟩:=h K hx
  exact h2 _ (hk a b h1)
theorem DY {op:BinOp} {x y:Value} {K:Value→Prop} (h:E5 op x y K):uF op x y K:=by
  unfold E5 at h
  unfold uF
  split at h <;> first
    | exact al h.1 h.2
    | exact False.elim h
section
variable {C:Ctx} {A:dz} {pl:bK} {o:Oper}
theorem DZ {op:BinOp} {t:TypeId} {x y:AV} {k:AV→Prop} (h:E6 C A o op t x y k):Bf C.P op t x y k:=by
  unfold E6 at h
  split at h
  · rename_i a b
    show xo C.P op t a b k
    unfold xo
    split at h
    · rename_i hn
      rw [hn]
      dsimp only
      split at h
      · exact h
      · rename_i a b hne
        split
        · exact (hne _ _ rfl rfl).elim
        · exact DY h
    · rename_i c hc
      rw [hc]
      exact h
  · rename_i as bs
    show (match tA as,tA bs with
    | some xs,some ys =>
      match bG C.P op t xs ys with
      | some (.bool b)=>k (.v (.bool b))
      | _=>af 226
    | _,_=>af 227)
    split at h
    · rename_i xs ys h1 h2
      try rw [h1,h2]
      try dsimp only
      split at h
      · rw [h.1]
        exact h.2
      · exact False.elim h
    · exact False.elim h
  · exact False.elim h
theorem AC {t:TypeId} {x ix:AV} {k:AV→Prop} (h:zb C A o t x ix k):pK C.P t x ix k:=by
  unfold zb at h
  unfold pK
  refine aw.mono ba h (fun i h'=>?_)
  clear h
  split at h'
  · rename_i s hu
    rw [hu]
    dsimp only
    split at h'
    · rw [h'.1]
      dsimp only
      have h2:=h'.2.2
      rw [h'.2.1] at h2
      exact h2
    · exact False.elim h'
  · rename_i len e cs hu
    rw [hu]
    dsimp only
    have h:=h'
    split at h
    · rename_i inf hi
      rw [hi]
      exact al h.1 h.2
    · exact False.elim h
  · exact False.elim h'
theorem Fe {vs:List AV} {k:AV→Prop} (h:Hz C A pl o vs k):pop C pl o vs k:=by
  unfold Hz at h
  split at h
  · exact h
  · split at h
    · rename_i ho
      unfold pop
      rw [ho]
      exact DZ h
    · rename_i ho
      unfold pop
      rw [ho]
      exact AC h
    · exact False.elim h
theorem oK {len cap:Nat} {lo hi mx:Option Int} {k:Nat→Nat→Nat→Prop} (h:ya len cap lo hi mx k):rN len cap lo hi mx k:=by
  unfold ya at h
  unfold rN
  split at h <;> first
    | exact h
    | exact al h.1 h.2
    | exact False.elim h
theorem zi {mx hi:Option Int} {k:Bool→Prop} (h:I5 mx hi k):k (d8 mx&&d8 hi):=by
  cases mx with
  | none=>exact h
  | some m =>
    obtain ⟨h1,h2⟩:=h
    rw [h1]
    exact h2
theorem gY {t:TypeId} {x:AV} {lo hi mx:Option Int} {S:St} {k:AV→Prop} (h:k9 C t x lo hi mx S k):iU C.P t x lo hi mx S k:=by
  unfold k9 at h
  unfold iU
  split at h
  · rename_i hu
    rw [hu]
    dsimp only
    split at h
    · exact oK h
    · exact False.elim h
  · rename_i e hu
    rw [hu]
    dsimp only
    split at h
    · rename_i i hi
      rw [hi]
      dsimp only
      obtain ⟨h0,h⟩:=ac h
      refine al h0 ?_
      split at h
      · have h2:=zi h.2
        rw [Bool.and_comm (d8 _) (d8 _)] at h2
        exact al h.1 (oK h2)
      · split at h
        · rename_i ho
          dsimp only
          rw [ho]
          obtain ⟨h1,h⟩:=ac h
          have h2:=zi h
          rw [Bool.and_comm (d8 _) (d8 _)] at h2
          exact al h1 (oK h2)
        · exact False.elim h
      · split at h
        · rename_i ho
          dsimp only
          rw [ho]
          obtain ⟨h1,h⟩:=ac h
          have h2:=zi h
          rw [Bool.and_comm (d8 _) (d8 _)] at h2
          exact al h1 (oK h2)
        · exact False.elim h
      · exact False.elim h
    · exact False.elim h
  · exact False.elim h
theorem t7 {row:List AV} {t:TypeId} {x ix:AV} {S:St} {k:AV→Prop} (h:nU C row t x ix S k):gM C.P t x ix S k:=by
  unfold nU at h
  unfold gM
  refine aw.mono ba h (fun i h=>?_)
  split at h
  · rename_i e hu
    rw [hu]
    dsimp only
    split at h
    · rename_i inf hi
      rw [hi]
      dsimp only
      split at h
      · have h1:=h.1
        unfold GV at h1
        dsimp only
        rw [h1]
        exact h.2
      · split at h
        · rename_i ho
          dsimp only
          rw [ho]
          dsimp only
          have h1:=h.1
          unfold GV at h1
          rw [h1]
          exact h.2
        · rename_i ho
          dsimp only
          rw [ho]
          obtain ⟨h1,h2,h3⟩:=ac h
          refine al ?_ h3
          rw [Bool.and_eq_true]
          exact ⟨h2,h1⟩
        · exact False.elim h
      · split at h
        · rename_i ho
          dsimp only
          rw [ho]
          dsimp only
          refine al h.1 ?_
          rw [h.2.1]
          exact h.2.2
        · exact False.elim h
      · exact False.elim h
    · exact False.elim h
  · rename_i len e hu
    rw [hu]
    dsimp only
    split at h
    · rename_i inf hi
      rw [hi]
      exact al h.1 h.2
    · exact False.elim h
  · exact False.elim h
theorem tm (hC:vZ C) {fid:Nat} {as:List AV} {k:AV→Prop} (h:uo C A o fid as k):C.pcall fid as k:=by
  unfold uo at h
  split at h
  · exact aw.mono (hC.det.pcall _ _) h.1 (fun _ e=>by rw [e]; exact h.2)
  · exact h
theorem B3 {P:Program} {op:BinOp} {t:TypeId} {x y:AV} {S:St} {k:AV→Prop} (h:BZ P op t x y S k):sR P op t x y S k:=by
  unfold BZ at h
  split at h
  · rename_i id
    split at h
    · rename_i rows hob
      obtain ⟨h1,h⟩:=h
      have:pL S (.mf id)=true:=by
        unfold pL
        dsimp only
        rw [hob]
        cases rows with
        | nil=>cases h1
        | cons _ _=>rfl
      unfold sR
      rw [this]
      exact h
    · exact False.elim h
  · rename_i rows
    obtain ⟨h1,h⟩:=h
    have:pL S (.sl rows)=true:=by
      unfold pL
      cases rows with
      | nil=>cases h1
      | cons _ _=>rfl
    unfold sR
    rw [this]
    exact h
  · exact False.elim h
theorem mI {size:Nat} {S:St} {x:AV} {k:Bool→List (List AV)→Prop} (h:sj size S x k):jq size S x k:=by
  unfold sj at h
  unfold jq
  split at h <;> first
    | exact al h.1 h.2
    | exact h
    | exact False.elim h
theorem AD {src dst:TypeId} {x:AV} {S:St} {s:ByteArray} {k:AV→Prop} (h:zd C.P src dst x S s k):ft C.P src dst x S k:=by
  unfold zd at h
  unfold ft
  split at h
  · rename_i hu hd
    rw [hu,hd]
    dsimp only
    split at h
    · rename_i he
      rw [he]
      dsimp only
      obtain ⟨h1,h⟩:=ac h
      refine al h1 (ar.mono du (mI h) (fun fl rows h=>?_))
      rw [h.1]
      show k (.v (.string ⟨s.data.toList.toArray⟩))
      have:(⟨s.data.toList.toArray⟩:ByteArray)=s:=by cases s; simp
      rw [this]
      exact h.2
    · exact False.elim h
  · exact False.elim h
theorem Ff (hC:vZ C) {vs:List AV} {M:St} {k:AV→Prop} (h:HA C A o vs M k):oQ C o vs M k:=by
  unfold HA at h
  split at h
  · rename_i ho
    split at h
    · split at h
      · split at h
        · rename_i hob
          unfold oQ
          rw [ho]
          dsimp only
          unfold El
          dsimp only
          unfold wy
          dsimp only
          rw [hob]
          dsimp only
          rw [h.1]
          exact h.2
        · exact False.elim h
      · exact False.elim h
    · exact h
  · rename_i ho
    split at h
    · exact h
    · unfold oQ
      rw [ho]
      split at h
      · exact gY h
      · exact aw.mono ba h (fun _ h=>gY h)
      · exact aw.mono ba h (fun _ h=>gY h)
      · exact aw.mono ba h (fun _ h=>aw.mono ba h (fun _ h=>gY h))
      · exact aw.mono ba h (fun _ h=>aw.mono ba h (fun _ h=>gY h))
      · exact aw.mono ba h (fun _ h=>aw.mono ba h (fun _ h=>aw.mono ba h (fun _ h=>gY h)))
      · exact False.elim h
  · rename_i ho
    split at h
    · unfold oQ
      rw [ho]
      exact t7 h
    · exact h
  · rename_i ho
    split at h
    · split at h
      · rename_i hu
        split at h
        · rename_i hob
          unfold oQ
          rw [ho]
          dsimp only
          unfold ou
          rw [hu]
          dsimp only
          rw [hob]
          exact h.1 _ h.2
        · exact False.elim h
      · exact False.elim h
    · exact h
  · rename_i ho
    split at h
    · exact h
    · unfold oQ
      rw [ho]
      exact B3 h
  · rename_i ho
    split at h
    · unfold oQ
      rw [ho]
      exact AD h
    · exact h
  · rename_i c ho
    split at h
    · rename_i hcal
      split at h
      · unfold oQ
        rw [ho]
        dsimp only
        rw [hcal]
        dsimp only
        obtain ⟨h1,h⟩:=ac h
        exact al h1 (aw.mono (dv _ _) h (fun bs hb=>tm hC hb))
      · exact False.elim h
    · exact h
  · exact h
theorem AE {S:St} {row:List AV} {a:AV} {cs:List AV} {K:St→Prop} (h:ze S row a cs K):lh S a cs K:=by
  unfold ze at h
  split at h
  · unfold lh
    split at h
    · rename_i ho
      dsimp only
      rw [ho]
      dsimp only
      rw [h.1]
      exact h.2
    · exact False.elim h
  · exact False.elim h
theorem AF {vs:List AV} {M:St} {k:AV→St→Prop} (h:Gp C A o vs M k):xt C o vs M k:=by
  unfold Gp at h
  split at h
  · exact h
  · split at h
    · rename_i ho
      split at h
      · unfold xt
        rw [ho]
        refine aw.mono b5 h (fun cs h=>?_)
        split at h
        · rename_i hi
          rw [hi]
          obtain ⟨h1,h⟩:=ac h
          exact al h1 (AE h)
        · exact False.elim h
      · exact h
    · exact h
theorem q7 {ts:List TypeId} {base x:AV} {S:St} {k:St→AV→Prop} (h:qY C.P ts base x S k):jh C.P ts base x S k:=by
  unfold qY at h
  unfold jh
  split at h
  · split at h
    · rename_i e hu
      dsimp only
      rw [hu]
      dsimp only
      split at h
      · rename_i i hi
        rw [hi]
        dsimp only
        obtain ⟨h1,h⟩:=ac h
        refine al h1 ?_
        refine ar.mono du (mI h) (fun fl src h=>?_)
        refine al h.1 ?_
        replace h:=h.2
        split at h
        · exact al h.1 h.2
        · exact al h.1 h.2
        · split at h
          · rename_i ho
            dsimp only
            rw [ho]
            obtain ⟨h1,h⟩:=ac h
            refine al ?_ h.2
            simp only [Bool.and_eq_true] at h1 ⊢
            exact ⟨⟨h1.1,h.1⟩,h1.2⟩
          · exact False.elim h
        · split at h
          · rename_i ho
            dsimp only
            rw [ho]
            obtain ⟨h1,h2,h3,h⟩:=ac h
            refine al h1 ?_
            rw [h2]
            exact al h3 h
          · exact False.elim h
        · exact False.elim h
      · exact False.elim h
    · exact False.elim h
  · exact False.elim h
theorem wU {ts:List TypeId} {base x:AV} {k:AV→Prop} (h:sq C.P ts base x k):kg C.P ts base x k:=by
  unfold sq at h
  unfold kg
  split at h
  · split at h
    · rename_i e hu
      dsimp only
      rw [hu]
      dsimp only
      split at h
      · rename_i i hi
        rw [hi]
        dsimp only
        obtain ⟨h1,h⟩:=ac h
        refine al h1 ?_
        refine ar.mono du (mI h) (fun fl src h=>?_)
        obtain ⟨h2,h3,h4,h⟩:=ac h
        refine al ?_ h
        rw [h2,h3,h4]
        rfl
      · exact False.elim h
    · exact False.elim h
  · exact False.elim h
theorem Fg {vs:List AV} {k:AV→Prop} (h:HB C o vs k):Hg C o vs k:=by
  unfold HB at h
  unfold Hg
  split at h
  · rename_i c x y ho
    rw [ho]
    dsimp only
    split at h
    · rename_i hc
      rw [hc]
      exact wU h
    · exact False.elim h
  · exact False.elim h
theorem wV {ts:List TypeId} {base:AV} {n:Int} {S:St} {k:St→AV→Prop} (h:sr C.P ts base n S k):kh C.P ts base n S k:=by
  unfold sr at h
  unfold kh
  split at h
  · split at h
    · rename_i hu hv
      dsimp only
      rw [hu,hv]
      dsimp only
      split at h
      · rename_i hi
        rw [hi]
        exact al h.1 h.2
      · exact False.elim h
    · exact False.elim h
  · exact False.elim h
theorem m2 {t:TypeId} {l c:AV} {S:St} {k:St→AV→Prop} (h:k_ C.P t l c S k):bZ C.P t l c S k:=by
  unfold k_ at h
  unfold bZ
  split at h
  · rename_i hu
    rw [hu]
    dsimp only
    split at h
    · rename_i hi
      rw [hi]
      dsimp only
      exact aw.mono ba h (fun _ h=>aw.mono ba h (fun _ h=>al h.1 h.2))
    · exact False.elim h
  · exact False.elim h
theorem B4 (hC:vZ C) {f:AV} {args:List AV} {S:St} {k:St→AV→Prop} (h:B1 C A o f args S k):xr C f args S k:=by
  unfold B1 at h
  unfold xr
  split at h
  · dsimp only
    split at h
    · rename_i hp
      rw [hp]
      exact aw.mono (dv _ _) h (fun bs hb=>tm hC hb)
    · rename_i hp
      rw [hp]
      obtain ⟨h1,h⟩:=ac h
      refine al h1 ?_
      split at h
      · exact ar.mono (hC.det.scall _ _ _) h.1 (fun r o' ⟨e1,e2⟩=>by subst e1 e2; exact h.2)
      · exact h
  · exact False.elim h
theorem m3 {R:List (AV×AV)} {t:TypeId} {m key x:AV} {S:St} {K:St→Prop} (h:lb C.P R t m key x S K):ep C.P t m key x S K:=by
  unfold lb at h
  unfold ep
  split at h
  · rename_i hu
    rw [hu]
    dsimp only
    split at h
    · split at h
      · rename_i fl es ho
        dsimp only
        rw [ho]
        dsimp only
        obtain ⟨h1,h2,h3⟩:=ac h
        refine al h1 ?_
        have:=h2 (fun es'=>bg (S.o.set _ (.mapo (fl&&c7 4 x) es')) fun o=>K { t:=S.t,l:=S.l,o:=o,b:=S.b }) h3
        exact this
      · exact False.elim h
    · exact False.elim h
  · exact False.elim h
theorem B5 {ts:List TypeId} {x y:AV} {M:St} {k:AV→St→Prop} (h:B0 C.P ts x y M k):sQ C.P ts x y M k:=by
  unfold B0 at h
  unfold sQ
  split at h
  · split at h
    · rename_i e hu
      dsimp only
      rw [hu]
      dsimp only
      split at h
      · rename_i i hi
        rw [hi]
        dsimp only
        obtain ⟨h1,h⟩:=ac h
        refine al h1 ?_
        refine ar.mono du (mI h) (fun fl src h=>?_)
        obtain ⟨h2,h⟩:=h
        obtain ⟨h3,h⟩:=ac h
        refine al (by rw [h2,h3]; rfl) ?_
        split at h
        · split at h
          · rename_i ho
            dsimp only
            rw [ho]
            exact h
          · exact False.elim h
        · split at h
          · rename_i ho
            dsimp only
            rw [ho]
            obtain ⟨h1,h2,h⟩:=ac h
            exact al (by rw [h1,h2]; rfl) h
          · exact False.elim h
        · exact False.elim h
      · exact False.elim h
    · exact False.elim h
  · exact False.elim h
theorem AG {ts:List TypeId} {x:AV} {S:St} {K:St→Prop} (h:zf C.P ts x S K):nm C.P ts x S K:=by
  unfold zf at h
  unfold nm
  split at h
  · split at h
    · rename_i e hu
      dsimp only
      rw [hu]
      dsimp only
      split at h
      · rename_i i hi
        rw [hi]
        dsimp only
        obtain ⟨h1,h⟩:=ac h
        refine al h1 ?_
        split at h
        · split at h
          · rename_i ho
            dsimp only
            rw [ho]
            obtain ⟨h1,h2,h⟩:=ac h
            exact al (by rw [h1,h2]; rfl) h
          · exact False.elim h
        · exact False.elim h
      · exact False.elim h
    · exact False.elim h
  · exact False.elim h
theorem AH (hC:vZ C) {S:St} {K:St→Prop} (h:Gq C A pl o S K):uK C pl o S K:=by
  unfold Gq at h
  split at h
  · rename_i ho
    split at h
    · unfold uK
      rw [ho]
      refine aw.mono cb h (fun m h=>?_)
      refine aw.mono cb h (fun k h=>?_)
      refine aw.mono cb h (fun x h=>?_)
      exact m3 h
    · exact h
  · rename_i ho
    split at h
    · unfold uK
      rw [ho]
      refine aw.mono cb h (fun m h=>?_)
      refine aw.mono cb h (fun k h=>?_)
      refine aw.mono cb h (fun x h=>?_)
      exact m3 h
    · exact h
  · rename_i ho
    split at h
    · unfold uK
      rw [ho]
      refine aw.mono cb h (fun l h=>?_)
      refine aw.mono cb h (fun c h=>?_)
      exact m2 h
    · exact h
  · rename_i c ho
    split at h
    · rename_i hcal
      split at h
      · unfold uK
        rw [ho]
        dsimp only
        rw [hcal]
        dsimp only
        refine aw.mono aZ h (fun as h=>?_)
        split at h
        · exact wV h
        · rename_i y hne
          split
          · rename_i e
            cases e
            exact (hne _ _ rfl).elim
          · rename_i e
            cases e
            exact al (ac h).1 (q7 (ac h).2)
          · rename_i h4 e
            cases e
            exact (h4 rfl).elim
          · rename_i h3
            exact (h3 _ _ rfl).elim
        · rename_i x y hne hne2
          split
          · rename_i e
            cases e
            exact (hne _ _ rfl).elim
          · rename_i e
            cases e
            exact (hne2 rfl).elim
          · rename_i e
            cases e
            exact q7 h
          · rename_i h3
            exact (h3 _ _ rfl).elim
        · exact False.elim h
      · exact h
    · rename_i hcal
      unfold uK
      rw [ho]
      dsimp only
      rw [hcal]
      dsimp only
      refine aw.mono aZ h (fun as h=>?_)
      split at h
      · exact B5 h
      · exact False.elim h
    · rename_i hcal
      split at h
      · unfold uK
        rw [ho]
        dsimp only
        rw [hcal]
        dsimp only
        refine aw.mono aZ h (fun as h=>?_)
        split at h
        · exact AG h
        · exact False.elim h
      · exact h
    · rename_i f hcal
      unfold uK
      rw [ho]
      dsimp only
      rw [hcal]
      dsimp only
      refine aw.mono cb h (fun l h=>?_)
      refine aw.mono aZ h (fun c h=>?_)
      exact B4 hC h
    · exact h
  · exact h
theorem kE {K:St→Prop} {S:St} (h:m_ A o K S):K S:=by
  have h2:∀ {key:Nat} {S:St} {K:St→Prop},E7 A key S K→K S:=by
    intro key S K h
    unfold E7 at h
    split at h
    · exact h
    · split at h
      · rename_i ho
        obtain ⟨h1,h⟩:=h
        subst h1
        rw [az] at h
        have e:∀ {α:Type} {l:List α} {i:Nat} {x:α},l[i]?=some x→l.set i x=l:=by
          intro α l i x hx
          refine List.ext_getElem? (fun m=>?_)
          rw [List.getElem?_set]
          split
          · rename_i e
            subst e
            rw [if_pos (List.getElem?_eq_some_iff.1 hx).1,hx]
          · rfl
        rw [e ho] at h
        exact h
      · exact False.elim h
  unfold m_ at h
  unfold GW at h
  split at h
  · exact h2 h
  · split at h
    · exact h2 h
    · rename_i v hv
      obtain ⟨a,ha,e,h⟩:=ca.1 h
      subst e
      rw [d3,fU ha] at h
      exact h2 h
theorem yf {S:St} {K:St→Prop} (h:E8 C A pl o S K):Dh C pl o S K:=aw.mono aZ h (fun _ h=>Fe h)
theorem yg (hC:vZ C) {S:St} {K:St→Prop} (h:E9 C A o S K):Di C o S K:=aw.mono aZ h (fun _ h=>Ff hC h)
theorem D1 {S:St} {K:St→Prop} (h:GX C A o S K):Dj C o S K:=aw.mono aZ h (fun _ h=>AF h)
theorem px {row:Option (List (List AV))} {M:St} {pk:Bool} {id i:Nat} {k:AV→St→Prop} (h:oH row M pk id i k):ff M pk id i k:=by
  unfold oH at h
  unfold ff
  split at h
  · rename_i hob
    rw [hob]
    dsimp only
    split at h
    · obtain ⟨h1,h⟩:=h
      rw [h1]
      exact h
    · obtain ⟨h1,h⟩:=h
      rw [h1]
      exact h
  · exact h.elim
theorem wW {P:Program} {a:wT} {t:TypeId} {same pk:Bool} {M:St} {id i:Nat} {k:AV→St→Prop} (h:ss P a t same pk M id i k):ip P t same pk M id i k:=by
  unfold ss at h
  unfold ip
  split at h
  · split at h
    · rename_i hob
      rw [hob]
      exact al h.1 h.2
    · exact h.elim
  · exact px h
theorem v4 {P:Program} {t:TypeId} {M:St} {id i:Nat} {v:AV} {K:St→Prop} (h:qc P t M id i v K):f7 P t M id i v K:=by
  unfold qc at h
  unfold f7
  split at h
  · rename_i hi hob
    rw [hi,hob]
    obtain ⟨h1,h2,h3⟩:=ac h
    refine al ?_ h3
    simp only [Bool.and_eq_true] at h1 h2 ⊢
    exact ⟨⟨⟨h1.1,h2.1⟩,h1.2⟩,h2.2⟩
  · exact h.elim
theorem wX {P:Program} {nw:Bool} {j:Nat} {a:wT} {t:TypeId} {l c:AV} {M:St} {k:AV→St→Prop} (h:su P nw j a t l c M k):gz P nw j t l c M k:=by
  unfold su at h
  unfold gz
  split at h
  · rename_i hu
    rw [hu]
    dsimp only
    split at h
    · rename_i hi he
      rw [hi,he]
      dsimp only
      split at h
      · rename_i hi2
        rw [hi2]
        dsimp only
        refine mr h (fun n h=>?_)
        refine mr h (fun m h=>?_)
        obtain ⟨h1,h⟩:=h
        obtain ⟨h2,h⟩:=ac h
        refine al ?_ ?_
        · simp only [Bool.and_eq_true] at h1 h2 ⊢
          exact ⟨⟨h1,h2.1⟩,h2.2⟩
        · refine qN h (fun z h=>?_)
          split at h
          · obtain ⟨h3,h⟩:=h
            dsimp only
            rw [h3]
            exact h
          · exact h.elim
      · exact h.elim
    · exact h.elim
  · exact h.elim
theorem wY {P:Program} {a:wT} {t:TypeId} {m key:AV} {ok:Bool} {M:St} {k:AV→St→Prop} (h:sv P a t m key ok M k):iq P t m key ok M k:=by
  unfold sv at h
  unfold iq
  split at h
  · rename_i hu
    rw [hu]
    dsimp only
    split at h
    · dsimp only
      split at h
      · rename_i hob
        rw [hob]
        dsimp only
        split at h
        · obtain ⟨h1,h2⟩:=h
          exact h1 (fun r=>match r with
            | some i=>ff M false _ i fun a M'=>nq ok a true fun r=>k r M'
            | none=>jH P _ ok fun r=>k r M) (px h2)
        · obtain ⟨h1,h2⟩:=h
          exact h1 (fun r=>match r with
            | some i=>ff M false _ i fun a M'=>nq ok a true fun r=>k r M'
            | none=>jH P _ ok fun r=>k r M) h2
      · exact h.elim
    · exact h.elim
  · exact h.elim
theorem q8 {P:Program} {a:wT} {t:TypeId} {m key x:AV} {M:St} {K:St→Prop} (h:qZ P a t m key x M K):ji P t m key x M K:=by
  unfold qZ at h
  unfold ji
  split at h
  · rename_i hu
    rw [hu]
    dsimp only
    split at h
    · rename_i id
      dsimp only
      split at h
      · rename_i ks sz cells hole hob
        rw [hob]
        dsimp only
        obtain ⟨h1,h2,h3⟩:=ac h
        refine al h1 ?_
        have h4:=h2 (Io M id sz cells hole x K) h3
        refine aw.mono2 c6 h4 (fun kv r h5=>?_)
        obtain ⟨h6,h7⟩:=ac h5
        refine al h6 ?_
        cases r with
        | none=>exact h7
        | some i =>
          obtain ⟨h8,h9,h10⟩:=ac h7
          refine al ?_ h10
          rw [Bool.and_eq_true]
          exact ⟨h8,h9⟩
      · exact h.elim
    · exact h.elim
  · exact h.elim
theorem tn {M:St} {x:AV} {X Y:Nat→Nat→Prop} (h:iV M x X) (hk:∀ id i,X id i→Y id i):iV M x Y:=by
  unfold iV at h ⊢
  split at h
  · split at h
    · exact hk _ _ h
    · exact h.elim
  · exact h.elim
theorem yh {P:Program} {vs:List AV} {M:St} {k:AV→St→Prop} (h:Cy P A pl o vs M k):kP P pl o vs M k:=by
  unfold Cy at h
  split at h
  · exact h
  · split at h
    · rename_i ho
      unfold kP
      rw [ho]
      exact tn h (fun _ _ h=>wW h)
    · rename_i ho
      unfold kP
      rw [ho]
      exact tn h (fun _ _ h=>v4 h)
    · rename_i ho
      unfold kP
      rw [ho]
      exact wX h
    · rename_i ho
      unfold kP
      rw [ho]
      exact wY h
    · rename_i ho
      unfold kP
      rw [ho]
      exact q8 h
    · rename_i ho
      unfold kP
      rw [ho]
      exact q8 h
    · exact h.elim
theorem py {S:St} {id:Nat} {K:St→Prop} (h:oI A S id K):io S id K:=by
  unfold oI at h
  split at h
  · exact h
  · unfold io
    split at h
    · rename_i hob
      rw [hob]
      dsimp only
      split at h
      · rename_i hk
        rw [hk]
        obtain ⟨h1,h2,h3,h4⟩:=ac h
        refine al ?_ ?_
        · rw [Bool.and_eq_true] at h1
          rw [Bool.and_eq_true,Bool.and_eq_true]
          exact ⟨⟨h1.1,h2⟩,h1.2⟩
        · rw [h3]
          exact h4
      · exact h.elim
    · rename_i hob
      rw [hob]
      dsimp only
      split at h
      · rename_i hk
        rw [hk]
        obtain ⟨h1,h2,h3,h4⟩:=ac h
        refine al ?_ ?_
        · rw [Bool.and_eq_true]
          exact ⟨h1,h2⟩
        · rw [h3]
          exact h4
      · exact h.elim
    · rename_i hob
      rw [hob]
      dsimp only
      obtain ⟨h2,h3,h4⟩:=h
      refine al h2 ?_
      rw [h3]
      exact h4
    · exact h.elim
theorem q9:∀ {ids:List Nat} {S:St} {K:St→Prop},vR A ids S K→mh ids S K
  | [],_,_,h=>h
  | _::_,_,_,h=>aw.mono mE (py h) (fun _ h=>q9 h)
theorem q_ {S:St} {id:Nat} {K:St→Prop} (h:q0 A S id K):jS S id K:=by
  unfold q0 at h
  split at h
  · exact h
  · unfold jS
    split at h
    · rename_i hob
      rw [hob]
      dsimp only
      rw [h.1]
      exact h.2
    · exact h.elim
theorem pz:∀ {ids:List Nat} {S:St} {K:St→Prop},sw A ids S K→kj ids S K
  | [],_,_,h=>h
  | _::_,_,_,h=>aw.mono nO (q_ h) (fun _ h=>pz h)
theorem v5 {id:Nat} {S:St} {K:St→Prop} (h:vS A pl id S K):jL pl id S K:=by
  unfold vS at h
  unfold jL
  split at h
  · rename_i hc
    rw [hc]
    exact h
  · rename_i hc
    rw [hc]
    dsimp only
    refine aw.mono (jA _ _) (q9 h) (fun S1 h=>?_)
    split at h
    · rename_i hc
      rw [hc]
      exact h
    · rename_i hc
      rw [hc]
      exact pz h
theorem B6 (hC:vZ C) {vs:List AV} {M:St} {k:AV→St→Prop} (h:B2 C A o vs M k):kV C o vs M k:=by
  unfold B2 at h
  split at h
  · rename_i t X Y l c ho
    split at h
    · unfold kV
      rw [ho]
      exact m2 h
    · exact h
  · rename_i c fid first cap as ho
    unfold kV
    rw [ho]
    dsimp only
    split at h
    · rename_i x hcal
      rw [hcal]
      obtain ⟨h1,h⟩:=ac h
      refine al h1 ?_
      split at h
      · obtain ⟨h2,h3⟩:=h
        obtain ⟨r0,o0,⟨e1,e2⟩,h4⟩:=hC.det.scall _ _ _ _ h2
        subst e1 e2
        exact h4 _ h3
      · exact h
    · exact h.elim
  · rename_i hne hne2
    have h':=AF h
    unfold kV
    split
    · rename_i t X Y l c ho
      exact absurd rfl (hne t X Y l c ho)
    · rename_i c fid first cap as ho
      exact absurd rfl (hne2 c fid first cap as ho)
    · exact h'
theorem D2 (hC:vZ C) {vs:List AV} {M:St} {k:AV→St→Prop} (h:E_ C A pl o vs M k):mi C pl o vs M k:=by
  unfold E_ at h
  unfold mi
  split at h
  · rename_i hw
    rw [hw]
    exact yh h
  · rename_i hw
    rw [hw]
    exact B6 hC h
theorem B7 (hC:vZ C) {S:St} {K:St→Prop} (h:Fa C A pl o S K):o7 C pl o S K:=aw.mono aZ h (fun _ h=>D2 hC h)
theorem D3 {S:St} {K:St→Prop} (h:GY C A pl o S K):yr C pl o S K:=aw.mono aZ h (fun _ h=>yh h)
theorem D4 {S:St} {K:St→Prop} (h:GZ C o S K):Dk C o S K:=aw.mono aZ h (fun _ h=>Fg h)
theorem Fh (hC:vZ C) {S:St} {K:St→Prop} (h:HC C A pl o S K):yu C pl o S K:=by
  refine aw.mono (Ae hC.det) (K:=m_ A o K) ?_ (fun _ h=>kE h)
  unfold HC at h
  unfold yu
  split at h
  · rename_i hc
    rw [hc]
    exact yf h
  · rename_i hc
    rw [hc]
    exact yg hC h
  · rename_i hc
    rw [hc]
    exact D1 h
  · rename_i h0 h1 h2
    have:=AH hC h
    split
    · exact absurd (by assumption) h0
    · exact absurd (by assumption) h1
    · exact absurd (by assumption) h2
    · exact this
theorem uq (hC:vZ C) {S:St} {K:St→Prop} (h:G0 C A pl o S K):Ey C pl o S K:=by
  unfold G0 at h
  unfold Ey
  split at h
  · rename_i hw
    rw [hw]
    exact aw.mono Ac (D3 h) (fun _ h=>kE h)
  · rename_i hw
    rw [hw]
    exact Fh hC h
theorem v6 (hC:vZ C) {S:St} {K:St→Prop} (h:Ax C A pl o S K):wx C pl o S K:=by
  unfold Ax at h
  split at h
  · rename_i hc
    refine aw.mono (gK hC.det) (K:=m_ A o K) ?_ (fun _ h=>kE h)
    unfold wx
    rw [hc]
    exact yf h
  · rename_i hc
    refine aw.mono (gK hC.det) (K:=m_ A o K) ?_ (fun _ h=>kE h)
    unfold wx
    rw [hc]
    exact yg hC h
  · rename_i hc
    refine aw.mono (gK hC.det) (K:=m_ A o K) ?_ (fun _ h=>kE h)
    unfold wx
    rw [hc]
    exact B7 hC h
  · rename_i hc
    unfold wx
    rw [hc]
    exact h
  · rename_i hc
    refine aw.mono (gK hC.det) (K:=m_ A o K) ?_ (fun _ h=>kE h)
    unfold wx
    rw [hc]
    exact D4 h
  · rename_i h0 h1 h2 h4 h5
    refine aw.mono (gK hC.det) (K:=m_ A o K) ?_ (fun _ h=>kE h)
    unfold wx
    split
    · exact absurd (by assumption) h0
    · exact absurd (by assumption) h1
    · exact absurd (by assumption) h2
    · exact absurd (by assumption) h4
    · exact absurd (by assumption) h5
    · split at h
      · exact False.elim h
      · rename_i hb
        rw [hb]
        exact AH hC h
theorem Gs (hC:vZ C) {all:Array Oper} {S:St} {K:St→Prop} (h:Ji C A pl all o S K):ag C pl all o S K:=by
  unfold Ji at h
  unfold ag
  split at h
  · rename_i hg
    rw [hg]
    obtain ⟨h1,h⟩:=ac h
    exact al h1 (v6 hC h)
  · rename_i j want hg
    rw [hg]
    dsimp only
    split at h
    · exact False.elim h
    · rename_i d hd
      rw [hd]
      dsimp only
      refine ar.mono dn h (fun b S1 h=>?_)
      have key:∀ {S:St},bF (iW pl all o S) (Ax C A pl o S K)→pM C pl all o S K:=by
        intro S h
        obtain ⟨h1,h⟩:=ac h
        exact al h1 (v6 hC h)
      unfold gsel at h ⊢
      split at h
      · exact key h
      · exact key h
      · exact h
theorem CE (hC:vZ C) {aj:Array Oper} {i:Nat} {S:St} {K:St→Prop} (h:H8 C A pl aj i S K):xv C pl aj i S K:=by
  unfold H8 at h
  unfold xv
  split at h
  · exact False.elim h
  · rename_i o ho
    rw [ho]
    exact Gs hC h
theorem AI {S2 S1:St} {X:Prop} (h:S2=S1∧X):sS S2 S1 X:=by
  unfold sS
  split
  · exact h.2
  · exact h
theorem zj (hC:vZ C) {aj:Array Oper} {ws:List Nat}:∀ {n a:Nat} {listed:Array Bool} {t:PT} {S:St} {K:St→Prop},jO pl aj ws n a listed=some t→oT C A pl aj t none S K→jt C pl aj ws n listed S K
  | 0,a,listed,t,S,K,hp,h=>by
    unfold jO at hp
    unfold jt
    split at hp
    · cases hp
      rename_i hr
      rw [hr]
      exact h
    · cases hp
  | n + 1,a,listed,t,S,K,hp,h=>by
    unfold jO at hp
    unfold jt
    split at hp
    · cases hp
      rename_i hr
      rw [hr]
      exact h
    · rename_i r rs hr
      rw [hr]
      dsimp only
      have step:∀ {k b:Nat} {u:PT} {S:St} {K:St→Prop},jO pl aj ws n b (listed.setIfInBounds k true)=some u→(H8 C A pl aj k S fun S'=>oT C A pl aj u none S' K)→xv C pl aj k S fun S'=>jt C pl aj ws n (listed.setIfInBounds k true) S' K :=
        fun hj h=>aw.mono (fF hC.det) (CE hC h) (fun _ h=>zj hC hj h)
      have alts:∀ {b:Nat} {is:List Nat} {u:PT} {S S1:St} {K:St→Prop} {X:Prop},pu (fun i=>jO pl aj ws n b (listed.setIfInBounds i true)) is=some u→oT C A pl aj u (some (S1,X)) S K →
          Bj (fun i K'=>xv C pl aj i S fun S'=>jt C pl aj ws n (listed.setIfInBounds i true) S' K') is S1 X:=by
        intro b is
        induction is with
        | nil =>
          intro u S S1 K X hu h
          unfold pu at hu
          cases hu
          exact h
        | cons i is ih =>
          intro u S S1 K X hu h
          unfold pu at hu
          split at hu
          · rename_i v hv
            split at hu
            · rename_i w hw
              cases hu
              refine aw.mono (aw.bind (fF hC.det) (fun S'=>fh hC.det _ _ _)) (step hv h) (fun S2 h=>?_)
              exact AI ⟨h.1,ih hw h.2⟩
            · cases hu
          · cases hu
      split at hp
      · rename_i k hk
        rw [hk]
        dsimp only
        split at hp
        · cases hp
          rename_i u hj
          exact step hj h
        · cases hp
      · rename_i hk
        rw [hk]
        dsimp only
        split at hp
        · split at hp
          · cases hp
            rename_i u hj
            refine aw.mono (aw.bind (fF hC.det) (fun S'=>fh hC.det _ _ _)) (step hj h) (fun _ h=>?_)
            exact h
          · cases hp
        · split at hp
          · rename_i b _ _
            unfold pu at hp
            split at hp
            · rename_i v hv
              split at hp
              · rename_i w hw
                cases hp
                refine aw.mono (aw.bind (fF hC.det) (fun S'=>fh hC.det _ _ _)) (step hv h) (fun S1 h=>?_)
                exact alts hw h
              · cases hp
            · cases hp
          · cases hp
theorem Fi (hC:vZ C) {aj:Array Oper} {ws:List Nat}:∀ {n:Nat} {listed:Array Bool} {t:PT} {S:St} {K:St→Prop},yd pl aj ws n listed=some t→oT C A pl aj t none S K→tE C pl aj ws n listed S K
  | 0,listed,t,S,K,hp,h=>zj hC (n:=0) hp h
  | n + 1,listed,t,S,K,hp,h=>by
    unfold yd at hp
    unfold tE
    split at hp
    · rename_i i hi
      rw [hi]
      dsimp only
      split at hp
      · cases hp
        rename_i u hj
        exact aw.mono (fF hC.det) (CE hC h) (fun _ h=>Fi hC hj h)
      · cases hp
    · rename_i hi
      rw [hi]
      exact zj hC hp h
theorem Fj (hC:vZ C) {aj:Array Oper} {t:PT} {S:St} {K:St→Prop} (hp:vV pl aj=some t) (h:oT C A pl aj t none S K):wz C pl aj S K:=by
  unfold vV at hp
  unfold wz
  split at hp
  · cases hp
  · rename_i hn
    refine al hn ?_
    split at hp
    · rename_i hc
      rw [hc]
      exact zj hC hp h
    · rename_i hc
      rw [hc]
      exact Fi hC hp h
theorem ra:∀ {x y:PT},BY x y=true→x=y
  | .done,.done,_=>rfl
  | .go i t,.go j u,h=>by
    unfold BY at h
    rw [Bool.and_eq_true] at h
    rw [Nat.eq_of_beq_eq_true h.1,ra h.2]
  | .alt i t r,.alt j u s,h=>by
    unfold BY at h
    rw [Bool.and_eq_true,Bool.and_eq_true] at h
    rw [Nat.eq_of_beq_eq_true h.1,ra h.2.1,ra h.2.2]
  | .done,.go _ _,h=>by cases h
  | .done,.alt _ _ _,h=>by cases h
  | .go _ _,.done,h=>by cases h
  | .go _ _,.alt _ _ _,h=>by cases h
  | .alt _ _ _,.done,h=>by cases h
  | .alt _ _ _,.go _ _,h=>by cases h
end
open Go.RowKit (Below)
def ew (P:Program) (c:Code) (S:St) (K:Ex→St→Prop):Prop :=
  ∃ e S',(∀ (r:Option Nat) (G:Gh) (E:Env) (a:Act) (w:World) (Q:Exit→Act→World→Prop),ai G pn E S w→TR E S.t a→EM G (fun e' S''=>e'=e∧S''=S') Q→c.wpIn (rd r) 0 P Q a w)∧K e S'
theorem ew.mono {P:Program} {c:Code} {S:St} {K K':Ex→St→Prop} (h:ew P c S K) (hk:∀ e S',K e S'→K' e S'):ew P c S K' :=
  let ⟨e,S',h1,h2⟩:=h
  ⟨e,S',h1,hk _ _ h2⟩
theorem AJ (cfg:oR):vZ (iH cfg):=⟨nS cfg⟩
theorem tp {P:Program} {op:BinOp} {t e:TypeId} {rows:List (List AV)} {E:Env} {u:Value} (hop:HD op=true) (hu:P.underlying t=some (.slice e)) (hx:VR E (.sl rows) u) (w:World) (X Y:Operand) :
    ∃ b,(do eqGuard op t X Y u (.slice none 0 0); binOp op t u (.slice none 0 0):Sem Value).run P w=.ok (.bool b) w∧((b=yc op∧rows=[])∨b=!(yc op)):=by
  have h0:∃ b,(∀ d:Nat,(Op.equalIn (d + 1) t u (.slice none 0 0)).run P w=.ok b w)∧((b=true∧rows=[])∨b=false):=by
    cases hx with
    | sln=>exact ⟨true,fun d=>by unfold Op.equalIn; rw [Sem.run_bind,run_underlying hu]; rfl,.inl ⟨rfl,rfl⟩⟩
    | sle _ a cap=>exact ⟨false,fun d=>by unfold Op.equalIn; rw [Sem.run_bind,run_underlying hu]; rfl,.inr rfl⟩
    | sl us h1 h2 h3 h4 h5 h6 h7=>exact ⟨false,fun d=>by unfold Op.equalIn; rw [Sem.run_bind,run_underlying hu]; rfl,.inr rfl⟩
  obtain ⟨b,hb,hr⟩:=h0
  have hn:EB u=true:=by cases hx <;> rfl
  have he:(Op.equal t u (.slice none 0 0)).run P w=.ok b w:=rT hb
  rw [iY hn]
  cases op with
  | eql =>
    refine ⟨b,?_,hr⟩
    have:binOp .eql t u (.slice none 0 0)=(do pure (.bool (← Op.equal t u (.slice none 0 0)))):=by cases hx <;> rfl
    simp [this,he]
  | neq =>
    refine ⟨!b,?_,?_⟩
    · have:binOp .neq t u (.slice none 0 0)=(do pure (.bool (!(← Op.equal t u (.slice none 0 0))))):=by cases hx <;> rfl
      simp [this,he]
    · rcases hr with ⟨rfl,hr⟩ | rfl
      · exact .inl ⟨rfl,hr⟩
      · exact .inr rfl
  | _=>cases hop
section
variable {G:Gh} {C:Ctx} {A:dz} {pl:bK}
theorem mJ (hO:vZ C) (hC:d5 C) {rr:Option Nat} {all:Array Oper} {Q:Exit→Act→World→Prop}:∀ {aj:List Oper} {E:Env} {S:St} {w:World} {a:Act} {K:St→Prop},ai G pn E S w→TR E S.t a→zg C A pl all aj S K →
    (∀ S' E' a' w',K S'→ai G pn E' S' w'→TR E' S'.t a'→Q .normal a' w')→wpListIn (rd rr) 0 C.P all Q aj a w
  | [],E,S,w,a,K,hM,ht,h,hQ=>hQ _ _ _ _ h hM ht
  | o::rest,E,S,w,a,K,hM,ht,h,hQ=>by
    have step:∀ {S1:St},ai G pn E S1 w→TR E S1.t a→Region.wanted o (yielded all a.tmps)=true→(G0 C A pl o S1 fun S'=>zg C A pl all rest S' K)→wpListIn (rd rr) 0 C.P all Q (o::rest) a w:=by
      intro S1 hM1 ht1 hw h
      unfold wpListIn
      rw [if_pos hw]
      refine xO (BA (uq hO h)) (rZ hC hM1 ht1 (uq hO h) _ _ (fun S' E' a' w' hk hS htr=>?_))
      exact mJ hO hC hS htr hk hQ
    unfold zg at h
    split at h
    · rename_i hg
      have hw:Region.wanted o (yielded all a.tmps)=true:=by unfold Region.wanted; rw [hg]
      split at h
      · unfold wpListIn
        rw [if_pos hw]
        unfold G1 at h
        split at h
        · rename_i op t x yt ho
          split at h
          · rename_i e hu
            obtain ⟨c,h,hc⟩:=cX h ht
            split at h
            · rename_i rows
              obtain ⟨hop,h1,h2⟩:=ac h
              obtain ⟨b,hrun,hbr⟩:=tp hop hu hc w x (.const (.slice none 0 0))
              have hex:(execOp a.eval o).run C.P w=.ok (.value (.bool b)) w:=by
                have:(execOp a.eval o)=(do pure (.value (← (do eqGuard op t x (.const (.slice none 0 0)) (a.eval x) (.slice none 0 0); binOp op t (a.eval x) (.slice none 0 0):Sem Value)))):=by
                  unfold execOp
                  rw [ho]
                  simp [Act.eval]
                rw [this,Sem.run_bind,hrun]
                rfl
              refine xO (fun c hc=>by rw [ho] at hc; cases hc) (cU hex ?_)
              have h3:bB o.dst (.v (.bool b)) S fun S'=>zg C A pl all rest S' K:=by
                rcases hbr with ⟨rfl,hr⟩ | rfl
                · exact h1 hr
                · exact h2
              rw [aE] at h3
              exact mJ hO hC (hM.congr cu cv cC) (ht.put (.v _ _ rfl)) h3 hQ
            · exact False.elim h
          · exact False.elim h
        · exact False.elim h
      · exact step hM ht hw h
    · rename_i j want hg
      split at h
      · exact False.elim h
      · rename_i d hd
        obtain ⟨b,S1,h,hb,hM1,ht1⟩:=jU hM ht h
        rcases kY hg (mt hd hb) h with ⟨hw,h⟩ | ⟨hw,h⟩
        · exact step hM1 ht1 hw h
        · rw [aE] at h
          unfold wpListIn
          rw [if_neg (by rw [hw]; exact fun h=>by cases h)]
          exact ⟨fun _ _=>trivial,mJ hO hC (hM1.congr cu cv cC) (ht1.put (qO _)) h hQ⟩
end
theorem AK {A:Hy} {id:Nat} {S:St} {K:St→Prop} (h:DV A id S K):∃ S',dE S S'∧K S':=by
  unfold DV at h
  split at h
  · exact lc h
  · exact ⟨S,.refl S,h⟩
theorem AL {cfg:oR} (hmix:cfg.P.follows .mixedOrders=true) {A:Hy} {pl:bK}:∀ (c:Code) {S:St} {K:Ex→St→Prop},kD pl A.ord c=true→vW (iH cfg) (ew cfg.P) A pl c S K →
    ∀ (r:Option Nat) (G:Gh) (E:Env) (a:Act) (w:World) (Q:Exit→Act→World→Prop),ai G pn E S w→TR E S.t a→EM G K Q→c.wpIn (rd r) 0 cfg.P Q a w:=by
  have hC:=AJ cfg
  intro c
  induction c with
  | skip=>exact fun _ h r G E a w Q hM ht hQ=>wpIn_skip (hQ .nrm _ E _ _ h hM ht)
  | region id aj draw =>
    intro S K hB h r G E a w Q hM ht hQ
    cases draw with
    | false =>
      refine wpIn_region_list (mJ hC (j4 cfg) hM ht h (fun S' E' a' w' hk hS htr=>?_))
      obtain ⟨S3,E3,hk,hS,htr⟩:=kX hS htr (v5 hk)
      obtain ⟨S2,hw,hk⟩:=AK hk
      obtain ⟨E2,hM2,ht2⟩:=hw G E3 a' w' hS htr
      exact hQ .nrm _ _ _ _ hk hM2 ht2
    | true =>
      refine lV hmix pl id aj S (fun e S'=>e=.nrm∧DV A id S' (K .nrm)) ?_ r G E a w Q hM ht (fun e S' E' a' w' hk hS htr=>?_)
      · unfold kD at hB
        have h':(match qp A.ord id with
        | some is=>bF (sT pl aj) (wA (iH cfg).P (cr aj.toList) S fun S1=>oT (iH cfg) (DU A id) pl aj is none S1 fun S'=>km (cr aj.toList) S' (vS (DU A id) pl id S' fun S''=>DV A id S'' (K .nrm)))
        | none=>af 440):=h
        split at hB
        · rename_i is js h1 h2
          rw [h1] at h'
          dsimp only at h'
          obtain ⟨h3,h'⟩:=ac h'
          refine al h3 ?_
          refine aw.mono vq h' (fun S1 h=>?_)
          rw [ra hB] at h
          refine aw.mono (vr hC.det) (Fj hC h2 h) (fun S' h=>?_)
          obtain ⟨h4,h5⟩:=lT h
          exact h5 _ (aw.mono oF (v5 h4) (fun S'' h=>⟨rfl,h⟩))
        · cases hB
      · obtain ⟨rfl,hk⟩:=hk
        obtain ⟨S2,hw,hk⟩:=AK hk
        obtain ⟨E2,hM2,ht2⟩:=hw G E' a' w' hS htr
        exact hQ .nrm _ _ _ _ hk hM2 ht2
  | seq x y ihx ihy =>
    intro S K hB h r G E a w Q hM ht hQ
    unfold kD at hB
    rw [Bool.and_eq_true] at hB
    refine wpIn_seq (ihx hB.1 h r G E a w _ hM ht (fun e S' E' a' w' hk hS htr=>?_))
    cases e with
    | nrm =>
      dsimp only at hk
      split at hk
      · obtain ⟨S2,h1,⟨e2,S3,h2,h3,h4⟩,h5⟩:=lc hk
        subst h3 h4
        obtain ⟨E2,hM2,ht2⟩:=((oJ _ _).trans h1) G E' a' w' hS htr
        refine h2 r G E2 a' w' Q hM2 ht2 (fun e' S'' E'' a'' w'' he hS' ht'=>?_)
        obtain ⟨rfl,rfl⟩:=he
        exact hQ _ _ _ _ _ h5 hS' ht'
      · exact ihy hB.2 hk r G E' a' w' Q hS htr hQ
    | ex i=>exact hQ (.ex i) _ _ _ _ hk hS htr
    | ret=>exact hQ .ret _ _ _ _ hk hS htr
  | cond c x y ihx ihy =>
    intro S K hB h r G E a w Q hM ht hQ
    unfold kD at hB
    rw [Bool.and_eq_true] at hB
    obtain ⟨b,S1,h1,h2,h3,h4⟩:=nH hM ht h
    cases b with
    | true=>exact wpIn_cond_true h2 (ihx hB.1 h1 r G E a w Q h3 h4 hQ)
    | false=>exact wpIn_cond_false h2 (ihy hB.2 h1 r G E a w Q h3 h4 hQ)
  | block id c ih =>
    intro S K hB h r G E a w Q hM ht hQ
    refine wpIn_block (ih hB h r G E a w _ hM ht (fun e S' E' a' w' hk hS htr=>?_))
    cases e with
    | nrm=>exact hQ .nrm _ _ _ _ hk hS htr
    | ret=>exact hQ .ret _ _ _ _ hk hS htr
    | ex i =>
      show Exit.inBlock id Q (.exit i) a' w'
      unfold Exit.inBlock
      dsimp only at hk
      split at hk
      · rename_i hb
        have:=Nat.eq_of_beq_eq_true hb
        subst this
        simp only [if_pos]
        exact hQ .nrm _ _ _ _ hk hS htr
      · rename_i hb
        have hne:¬ i=id:=fun e=>by subst e; simp at hb
        simp only [if_neg hne]
        exact hQ (.ex i) _ _ _ _ hk hS htr
  | loop c ih =>
    intro S K hB h r G E a w Q hM ht hQ
    have h':(match qp A.lps (pw c) with
    | some (W,L,e,S1)=>E4 L (wk W S) fun S2=>((iH cfg).loop pl c S2 fun e' S'=>e'=e∧S'=S1)∧K e S1
    | none=>(iH cfg).loop pl c S K):=h
    split at h'
    · obtain ⟨S2,h1,h2,h3⟩:=lc h'
      obtain ⟨E2,hM2,ht2⟩:=((oJ _ _).trans h1) G E a w hM ht
      refine j5 cfg pl c S2 _ h2 r G E2 a w Q hM2 ht2 (fun e' S'' E'' a'' w'' he hS' ht'=>?_)
      obtain ⟨rfl,rfl⟩:=he
      exact hQ _ _ _ _ _ h3 hS' ht'
    · exact j5 cfg pl c S K h' r G E a w Q hM ht hQ
  | exit id=>exact fun _ h r G E a w Q hM ht hQ=>wpIn_exit (hQ (.ex id) _ E _ _ h hM ht)
  | ret=>exact fun _ h r G E a w Q hM ht hQ=>wpIn_ret (hQ .ret _ E _ _ h hM ht)
  | _=>exact fun _ h=>False.elim h
theorem ew.of {cfg:oR} (hmix:cfg.P.follows .mixedOrders=true) {pl:bK} {c:Code} {S S1:St} {e:Ex} {K:Ex→St→Prop} {A:Hy} {we:List (Nat×(Wk×Le))} (hB:kD pl A.ord c=true)
    (h:HF (iH cfg) (ew cfg.P) A pl we c S (fun e' S'=>e'=e∧S'=S1)) (hk:K e S1):ew cfg.P c S K:=by
  refine ⟨e,S1,fun r G E a w Q hM ht hQ=>?_,hk⟩
  refine AL hmix c hB h r G E a w Q hM ht (fun e' S' E' a' w' hk hS htr=>?_)
  dsimp only at hk
  split at hk
  · obtain ⟨S2,h1,rfl,rfl⟩:=lc hk
    obtain ⟨E2,hM2,ht2⟩:=((oJ _ _).trans h1) G E' a' w' hS htr
    exact hQ _ _ _ _ _ ⟨rfl,rfl⟩ hM2 ht2
  · obtain ⟨rfl,rfl⟩:=hk
    exact hQ _ _ _ _ _ ⟨rfl,rfl⟩ hS htr
theorem iM.round {cfg:oR} {pl:bK} {c:Code} {S:St} {K:Ex→St→Prop}
    (h:ew cfg.P c S fun e S'=>match e with
      | .nrm=>iM cfg.P pl c S' K
      | .ex i=>K (.ex i) S'
      | .ret=>K .ret S'):iM cfg.P pl c S K:=by
  obtain ⟨e1,S1,h2,h1⟩:=h
  have run:∀ (e:Ex) (S3:St) (n:Nat),(∀ (r:Option Nat) (G:Gh) (E:Env) (a:Act) (w:World) (Q:Exit→Act→World→Prop),ai G pn E S1 w→TR E S1.t a→EM G (fun e' S''=>e'=e∧S''=S3) Q→Exit.then (Code.roundsIn (rd r) 0 cfg.P c Q n) Q (Gd e1) a w) →
      ∀ (r:Option Nat) (G:Gh) (E:Env) (a:Act) (w:World) (Q:Exit→Act→World→Prop),ai G pn E S w→TR E S.t a→EM G (fun e' S''=>e'=e∧S''=S3) Q→Code.roundsIn (rd r) 0 cfg.P c Q (n + 1) a w:=by
    intro e S3 n hn r G E a w Q hM ht hQ
    refine h2 r G E a w _ hM ht (fun e' S' E' a' w' hk hS htr=>?_)
    obtain ⟨rfl,rfl⟩:=hk
    exact hn r G E' a' w' Q hS htr hQ
  cases e1 with
  | nrm =>
    obtain ⟨n,e,S',hl,hk⟩:=h1
    exact ⟨n + 1,e,S',run e S' n (fun r G E a w Q hM ht hQ=>hl r G E a w Q hM ht hQ),hk⟩
  | ex i=>exact ⟨1,.ex i,S1,run _ _ 0 (fun r G E a w Q hM ht hQ=>hQ _ _ _ _ _ ⟨rfl,rfl⟩ hM ht),h1⟩
  | ret=>exact ⟨1,.ret,S1,run _ _ 0 (fun r G E a w Q hM ht hQ=>hQ _ _ _ _ _ ⟨rfl,rfl⟩ hM ht),h1⟩
def rk {σ τ:Type} (Sf:σ→St) (out:τ→Ex×St) (r:σ⊕τ) (e:Ex) (S':St):Prop :=
  match r with
  | .inl s'=>e=.nrm∧S'=Sf s'
  | .inr t=>e≠.nrm∧e=(out t).1∧S'=(out t).2
theorem Kr {σ τ:Type} {Sf:σ→St} {out:τ→Ex×St} {s:σ}:rk Sf out (.inl s) .nrm (Sf s):=⟨rfl,rfl⟩
def pk {τ:Type} (out:τ→Ex×St) (t:τ) (e:Ex) (S':St):Prop:=e=(out t).1∧S'=(out t).2
theorem iM.iter {cfg:oR} {pl:bK} {c:Code} {σ τ:Type} {step:σ→Option (σ⊕τ)} (Sf:σ→St) (out:τ→Ex×St)
    (hs:∀ s r,step s=some r→ew cfg.P c (Sf s) (rk Sf out r)):∀ (n:Nat) (s:σ) (t:τ),A.iter step n s=some t→iM cfg.P pl c (Sf s) fun e S'=>e=(out t).1∧S'=(out t).2
  | 0,s,t,h=>by cases h
  | n + 1,s,t,h=>by
    unfold A.iter at h
    split at h
    · cases h
    · rename_i s' hs'
      refine iM.round ((hs s _ hs').mono fun e S' h1=>?_)
      obtain ⟨rfl,rfl⟩:=h1
      exact iM.iter Sf out hs n s' t h
    · rename_i t' ht'
      cases h
      refine iM.round ((hs s _ ht').mono fun e S' h1=>?_)
      obtain ⟨h0,h1,h2⟩:=h1
      cases e with
      | nrm=>exact absurd rfl h0
      | ex i=>exact ⟨h1,h2⟩
      | ret=>exact ⟨h1,h2⟩
theorem d9.le {P:Program} {f:Nat} {as as':List AV} {K:AV→Prop} (h:d9 P f as' K) (hl:dw as as'):d9 P f as K:=by
  obtain ⟨r,⟨h1,h2⟩,h3⟩:=h
  exact ⟨r,⟨h1,fun F w us hF hg hv=>h2 F w us hF hg (hl.vrs hv)⟩,h3⟩
theorem d9.to {P:Program} {f:Nat} {as:List AV} {r:AV} (h:d9 P f as fun x=>ey x r):d9 P f as fun x=>x=r:=by
  obtain ⟨x,⟨h1,h2⟩,h3⟩:=h
  refine ⟨r,⟨h1,fun F w us hF hg hv=>(h2 F w us hF hg hv).mono ?_⟩,rfl⟩
  rintro e w' ⟨v,F',h4,h5,h6⟩
  exact ⟨v,F',h4,h3 _ _ h5,h6⟩
def Ip (x:Bool):AV:=.v (.bool x)
def ez {α:Type} (f:α→List AV) (x:α):AV:=.agg (f x)
def ao (k:IntKind) (x:Int):List AV:=[.v (.int k x)]
def ae (x:Bool):List AV:=[.v (.bool x)]
def J_ {α:Type} (f:α→List AV) (l:List α):List AV:=[.sl (l.map f)]
theorem bP {k:IntKind} {a b:Int} (h:(a==b)=true):AV.v (.int k a)=AV.v (.int k b):=by rw [eq_of_beq h]
theorem nW {i:Nat}:Ex.ex i≠Ex.nrm:=fun h=>by cases h
theorem Em:Ex.ret≠Ex.nrm:=fun h=>by cases h
theorem Gt {α:Type} (f:α→List AV) (l:List α):AV.v (.int .i64 (((l.map f).length:Nat):Int))=AV.v (.int .i64 (l.length:Int)):=by rw [List.length_map]
theorem Fl {α:Type} (f:α→List AV) {l:List α} {i:Int} {x:α} (h:aT l i=some x):GV (l.map f) i=some (f x):=by
  unfold aT at h
  unfold GV
  split
  · rename_i h0
    rw [if_pos h0] at h
    rw [List.getElem?_map,h]
    rfl
  · rename_i h0
    rw [if_neg h0] at h
    cases h
theorem co {α:Type} (f:α→List AV) {l:List α} {i:Int} {x:α} (h:aT l i=some x):(l.map f)[i.toNat]?=some (f x):=by
  unfold aT at h
  split at h
  · rw [List.getElem?_map,h]
    rfl
  · cases h
theorem kF {α:Type} (f:α→List AV) (l:List α) {sz:Nat} (hf:∀ x,Nat.beq (f x).length sz=true):cR sz (l.map f)=true:=by
  cases l with
  | nil=>rfl
  | cons x l=>exact hf x
theorem B8 {α:Type} (f:α→List AV) (l:List α) (hf:∀ x,(f x).all j_=true):aY (l.map f)=true:=by
  unfold aY
  rw [List.all_eq_true]
  intro r hr
  obtain ⟨x,_,rfl⟩:=List.mem_map.1 hr
  exact hf x
theorem eg {α:Type} (f:α→List AV) (l m:List α):l.map f++m.map f=(l++m).map f:=List.map_append.symm
theorem c9 {α:Type} (f:α→List AV) (l:List α) (i:Nat) (x:α):(l.map f).set i (f x)=(l.set i x).map f:=(List.map_set).symm
theorem mK {α:Type} (f:α→List AV) (n:Nat) (x:α):List.replicate n (f x)=(List.replicate n x).map f:=List.map_replicate.symm
theorem rb {α:Type} (f:α→List AV) (l:List α) (i off a b:Nat):AV.msl i off a ((l.map f).length - b)=AV.msl i off a (l.length - b):=by rw [List.length_map]
theorem AM {α:Type} (f:α→List AV) (l:List α) (i off a b:Nat):AV.msl i off ((l.map f).length - a) b=AV.msl i off (l.length - a) b:=by rw [List.length_map]
theorem ut {α:Type} (f:α→List AV) (l:List α) (a:Nat):AV.sl ((l.map f).drop a)=AV.sl ((l.drop a).map f):=by rw [List.map_drop]
theorem CF {α:Type} (f:α→List AV) (l:List α) (a:Nat):AV.sl ((l.map f).take a)=AV.sl ((l.take a).map f):=by rw [List.map_take]
theorem Iq {α:Type} (f:α→List AV) (l:List α) (a b:Nat):AV.sl (((l.map f).drop a).take b)=AV.sl (((l.drop a).take b).map f):=by rw [List.map_take,List.map_drop]
theorem v7 {α:Type} (f:α→List AV) (l:List α) (a b:Nat):ey (.sl (((l.map f).drop a).take b)) (.sl (((l.drop a).take b).map f)):=by rw [Iq]; exact ey.refl _
theorem i7 {α:Type} {f:α→List AV} {l:List α} {h:Int} (e:(decide (0≤h)&&decide (h≤(l.length:Int)))=true):(decide (0≤h)&&decide (h≤(((l.map f).length:Nat):Int)))=true:=by rw [List.length_map]; exact e
theorem gh {α:Type} {f:α→List AV} {l:List α} {k m:Nat} (h:Nat.ble (l.length * k) m=true):Nat.ble ((l.map f).length * k) m=true:=by rw [List.length_map]; exact h
theorem dS {α:Type} {f:α→List AV} {l:List α} {k m n:Nat} (h:Nat.ble ((l.length + n) * k) m=true):Nat.ble (((l.map f).length + n) * k) m=true:=by rw [List.length_map]; exact h
theorem oL {α:Type} {f:α→List AV} {l l':List α} {k m:Nat} (h:Nat.ble ((l.length + l'.length) * k) m=true):Nat.ble (((l.map f).length + (l'.map f).length) * k) m=true:=by rw [List.length_map,List.length_map]; exact h
def bH {α:Type} (f:α→List AV) (c:Option (List α)):Option (List (List AV)):=c.map fun l=>l.map f
section
variable {α:Type} (f:α→List AV)
theorem lW {β:Type} {l:List β} {i:Int} {x:β} (h:aT l i=some x):0≤i∧l[i.toNat]?=some x:=by
  unfold aT at h
  split at h
  · rename_i h0
    exact ⟨h0,h⟩
  · cases h
theorem Fo {cs:List (Option (List α))} {i:Nat} {x:Option (List α)} {r:List α} (h:cs[i]?=some x) (h1:x=some r):(cs.map (bH f))[i]?=some (some (r.map f)):=by
  rw [List.getElem?_map,h,h1]
  rfl
theorem HG {cs:List (Option (List α))} {i:Nat} {x:Option (List α)} (h:cs[i]?=some x) (h1:x=none):(cs.map (bH f))[i]?=some none:=by
  rw [List.getElem?_map,h,h1]
  rfl
theorem pA {cs:List (Option (List α))} {i:Int} {x:Option (List α)} {r:List α} (h:aT cs i=some x) (h1:x=some r):(cs.map (bH f))[i.toNat]?=some (some (r.map f)):=Fo f (lW h).2 h1
theorem AN {cs:List (Option (List α))} {i:Int} {x:Option (List α)} (h:aT cs i=some x) (h1:x=none):(cs.map (bH f))[i.toNat]?=some none:=HG f (lW h).2 h1
theorem Ir {cs:List (Option (List α))} {i:Nat} {x:Option (List α)} (h:cs[i]?=some x):Nat.blt i (cs.map (bH f)).length=true:=by
  have:i<cs.length:=(List.getElem?_eq_some_iff.1 h).1
  rw [List.length_map]
  exact Nat.blt_eq.mpr this
theorem fj {cs:List (Option (List α))} {i:Int} {x:Option (List α)} (h:aT cs i=some x):Nat.blt i.toNat (cs.map (bH f)).length=true:=Ir f (lW h).2
theorem oS {cs:List (Option (List α))} {i:Int} {x:Option (List α)} (h:aT cs i=some x):(decide (0≤i)&&Nat.blt i.toNat (cs.map (bH f)).length)=true:=by
  rw [Bool.and_eq_true]
  exact ⟨decide_eq_true (lW h).1,fj f h⟩
theorem B9 {a b:Bool} (h:a=true) (k:b=true):(a&&b)=true:=by rw [h,k]; rfl
theorem HH (i:Nat):Nat.beq i i=true:=Nat.beq_refl i
theorem lq (cs:List (Option (List α))) (i:Nat) (r:List α):(cs.map (bH f)).set i (some (r.map f))=(cs.set i (some r)).map (bH f):=by
  rw [List.map_set]
  rfl
theorem Gu {cs:List (Option (List α))} {i:Nat} {x:Option (List α)} {r:List α} (h:cs[i]?=some x) (h1:x=some r):(cs.map (bH f)).set i (some (r.map f))=cs.map (bH f):=by
  have hs:=Fo f h h1
  apply List.ext_getElem?
  intro j
  rw [List.getElem?_set]
  split
  · rename_i hj
    subst hj
    rw [hs]
    split
    · rfl
    · rename_i hn
      exact absurd (List.getElem?_eq_some_iff.1 hs).1 hn
  · rfl
theorem qe {cs:List (Option (List α))} {i:Int} {x:Option (List α)} {r:List α} (h:aT cs i=some x) (h1:x=some r):(cs.map (bH f)).set i.toNat (some (r.map f))=cs.map (bH f):=Gu f (lW h).2 h1
theorem Is (n:Nat):List.replicate n (none:Option (List (List AV)))=(List.replicate n (none:Option (List α))).map (bH f):=by
  rw [List.map_replicate]
  rfl
end
theorem rc {α:Type} {P:Program} (c:Prop) [Decidable c] (x y:Sem α):aA P (if c then x else y)=if c then aA P x else aA P y:=by
  split <;> rfl
def HI (f:Nat→Option Bool):List Nat→Option Bool
  | []=>some true
  | i::is=>match f i with
    | some e=>match HI f is with
      | some s=>some (e&&s)
      | none=>none
    | none=>none
def F3 (P:Program):Nat→TypeId→Value→Value→Option Bool
  | 0,_,_,_=>none
  | n + 1,t,x,y =>
    match P.underlying t,x,y with
    | some .bool,.bool a,.bool b=>some (a==b)
    | some (.int _),.int k a,.int k' b=>if k=k' then some (a==b) else none
    | some .string,.string a,.string b=>some (a.toList==b.toList)
    | some (.struct fs),.agg xs,.agg ys=>match P.stoodInHeld t with
      | true=>none
      | false => fs.toList.foldr (fun f (r : Option Bool × Bool) => match f.name == "_", aA P (part f.type xs f.offset), aA P (part f.type ys f.offset) with
          | false,some a,some b=>match F3 P n f.type a b,r with
            | some e,(_,false)=>(some e,true)
            | some e,(some s,true)=>(some (e&&s),true)
            | _,_=>(none,true)
          | _,_,_=>(none,true)) (some true,false) |>.1
    | some (.array len e),.agg xs,.agg ys=>match aA P (sizeOf e) with
      | some m=>HI (fun i=>match aA P (part e xs (i * m)),aA P (part e ys (i * m)) with
        | some a,some b=>F3 P n e a b
        | _,_=>none) (List.range' 0 len)
      | none=>none
    | _,_,_=>none
theorem gF {P:Program} {t:TypeId} {d:TypeDesc} (h:P.underlying t=some d):aA P (underlying t)=some d:=by
  unfold underlying
  simp [aV,program,aA,h]
  rfl
theorem D5 {P:Program} {t:TypeId} {fs:Array Field} {xs ys:Array Value} {d:Nat} (ht:P.underlying t=some (.struct fs)) (hp:P.stoodInHeld t=false) :
    aA P (Op.equalIn (d + 1) t (.agg xs) (.agg ys))=aA P (Op.eqFields d xs ys fs.toList):=by
  simp only [Op.equalIn,aV,gF ht,Option.bind_some]
  have hprog:aA P program=some P:=rfl
  simp only [aV,hprog,Option.bind_some,hp,Bool.false_eq_true,if_false]
  rw [← Array.forIn_toList]
  generalize fs.toList=l
  clear ht
  induction l with
  | nil=>rfl
  | cons f l ih =>
    simp only [List.forIn_cons,Op.eqFields,aV,rc]
    split
    · try simp only [aV]
      generalize aA P (part f.type xs f.offset)=r1
      cases r1 with
      | none=>rfl
      | some a =>
        simp only [Option.bind_some]
        generalize aA P (part f.type ys f.offset)=r2
        cases r2 with
        | none=>rfl
        | some b =>
          simp only [Option.bind_some]
          generalize aA P (Op.equalIn d f.type a b)=r3
          cases r3 with
          | none=>rfl
          | some r =>
            cases r
            · rfl
            · simp only [Option.bind_some]
              exact ih
    · exact ih
def uu (d:Nat) (e:TypeId) (m:Nat) (xs ys:Array Value):List Nat→Sem Bool
  | []=>pure true
  | i::is=>do
    if !(← Op.equalIn d e (← part e xs (i * m)) (← part e ys (i * m))) then return false
    uu d e m xs ys is
theorem Fp {P:Program} {t e:TypeId} {len m:Nat} {xs ys:Array Value} {d:Nat} (ht:P.underlying t=some (.array len e)) (hm:aA P (sizeOf e)=some m) :
    aA P (Op.equalIn (d + 1) t (.agg xs) (.agg ys))=aA P (uu d e m xs ys (List.range' 0 len)):=by
  simp only [Op.equalIn,aV,gF ht,Option.bind_some,hm]
  simp only [Std.Legacy.Range.forIn_eq_forIn_range',Std.Legacy.Range.size,Nat.sub_zero,Nat.add_one_sub_one,Nat.div_one]
  generalize List.range' 0 len=l
  clear ht
  induction l with
  | nil=>rfl
  | cons i l ih =>
    simp only [List.forIn_cons,uu,aV,rc]
    generalize aA P (part e xs (i * m))=r1
    cases r1 with
    | none=>rfl
    | some a =>
      simp only [Option.bind_some]
      generalize aA P (part e ys (i * m))=r2
      cases r2 with
      | none=>rfl
      | some b =>
        simp only [Option.bind_some]
        generalize aA P (Op.equalIn d e a b)=r3
        cases r3 with
        | none=>rfl
        | some r =>
          cases r
          · rfl
          · simp only [Option.bind_some]
            exact ih
theorem oM {P:Program}:∀ (n d:Nat) {t:TypeId} {x y:Value} {b:Bool},n≤d→F3 P n t x y=some b→aA P (Op.equalIn d t x y)=some b
  | 0,_,_,_,_,_,_,h=>by cases h
  | n + 1,0,_,_,_,_,hd,_=>by omega
  | n + 1,d + 1,t,x,y,b,hd,h=>by
    unfold F3 at h
    split at h
    · rename_i hu
      cases h
      simp only [Op.equalIn,aV,gF hu,Option.bind_some]
      rfl
    · rename_i hu
      split at h
      · rename_i hk
        cases h
        simp only [Op.equalIn,aV,gF hu,Option.bind_some]
        rw [if_pos hk]
        rfl
      · cases h
    · rename_i hu
      cases h
      simp only [Op.equalIn,aV,gF hu,Option.bind_some,← beq_toListBytes]
      rfl
    · rename_i fs xs ys hu
      split at h
      · cases h
      · rename_i hp
        rw [D5 hu hp]
        have key : ∀ (l : List Field) (r : Option Bool) (m : Bool), l.foldr (fun f (r : Option Bool × Bool) => match f.name == "_", aA P (part f.type xs f.offset), aA P (part f.type ys f.offset) with
          | false,some a,some b=>match F3 P n f.type a b,r with
            | some e,(_,false)=>(some e,true)
            | some e,(some s,true)=>(some (e&&s),true)
            | _,_=>(none,true)
          | _,_,_=>(none,true)) (some true,false)=(r,m)→(m=false→l=[])∧∀ b,r=some b→aA P (Op.eqFields d xs ys l)=some b:=by
          intro l
          induction l with
          | nil =>
            intro r m h
            cases h
            exact ⟨fun _=>rfl,fun b hb=>by cases hb; rfl⟩
          | cons f l ih =>
            intro r m h
            rw [List.foldr_cons] at h
            generalize hq:(l.foldr _ (some true,false):Option Bool×Bool)=q at h
            obtain ⟨r',m'⟩:=q
            obtain ⟨ih1,ih2⟩:=ih r' m' hq
            split at h
            · rename_i a b hn ha hb
              have hn' : f.name ≠ "_" := by simpa using hn
              have step:∀ e,F3 P n f.type a b=some e→aA P (Op.eqFields d xs ys (f::l))=match e with | true=>aA P (Op.eqFields d xs ys l) | false=>some false:=by
                intro e he
                simp only [Op.eqFields]
                rw [if_pos hn']
                simp only [aV,ha,hb,Option.bind_some,oM n d (by omega) he]
                cases e <;> rfl
              cases hv:F3 P n f.type a b with
              | none =>
                rw [hv] at h
                cases h
                exact ⟨fun h=>(by cases h),fun b' hb'=>(by cases hb')⟩
              | some e =>
                rw [hv] at h
                cases m' with
                | false =>
                  cases h
                  refine ⟨fun h=>(by cases h),fun b' hb'=>?_⟩
                  cases hb'
                  rw [step e hv,ih1 rfl]
                  cases e <;> rfl
                | true =>
                  cases r' with
                  | none =>
                    cases h
                    exact ⟨fun h=>(by cases h),fun b' hb'=>(by cases hb')⟩
                  | some s =>
                    cases h
                    refine ⟨fun h=>(by cases h),fun b' hb'=>?_⟩
                    cases hb'
                    rw [step e hv,ih2 s rfl]
                    cases e <;> rfl
            · cases h
              exact ⟨fun h=>(by cases h),fun b' hb'=>(by cases hb')⟩
        generalize hq:(fs.toList.foldr _ (some true,false):Option Bool×Bool)=q at h
        obtain ⟨r,m⟩:=q
        exact (key _ r m hq).2 b h
    · rename_i len e xs ys hu
      split at h
      · rename_i m hm
        rw [Fp hu hm]
        generalize List.range' 0 len=l at h ⊢
        induction l generalizing b with
        | nil =>
          cases h
          rfl
        | cons i l ih =>
          unfold HI at h
          split at h
          · rename_i c hc
            split at hc
            · rename_i u v h1 h2
              split at h
              · rename_i s hs
                cases h
                simp only [uu,aV,h1,h2,Option.bind_some,oM n d (by omega) hc]
                cases c
                · rfl
                · exact ih _ hs
              · cases h
            · cases hc
          · cases h
      · cases h
    · cases h
theorem D6 {P:Program} {t:TypeId} {xs ys:List Value} {b:Bool} (hg:P.eqGuardType P.depth t=false) (h:F3 P 16 t (.agg xs.toArray) (.agg ys.toArray)=some b):bG P .eql t xs ys=some (.bool b):=by
  unfold bG
  have h1:aA P (eqGuard .eql t (.tmp 0) (.tmp 0) (.agg xs.toArray) (.agg ys.toArray))=some ():=by
    simp [eqGuard,aV,program,aA,hg]
    rfl
  have h2:aA P (binOp .eql t (.agg xs.toArray) (.agg ys.toArray))=some (.bool b):=by
    have:=oM (P:=P) 16 10000 (by omega) h
    simp only [binOp,Op.equal,Op.maxDepth]
    rw [aV,this]
    rfl
  rw [aV,h1]
  exact h2
theorem D7 {P:Program} {t:TypeId} {xs ys:List Value} {b:Bool} (hg:P.eqGuardType P.depth t=false) (h:F3 P 16 t (.agg xs.toArray) (.agg ys.toArray)=some b):bG P .neq t xs ys=some (.bool (!b)):=by
  unfold bG
  have h1:aA P (eqGuard .neq t (.tmp 0) (.tmp 0) (.agg xs.toArray) (.agg ys.toArray))=some ():=by
    simp [eqGuard,aV,program,aA,hg]
    rfl
  have h2:aA P (binOp .neq t (.agg xs.toArray) (.agg ys.toArray))=some (.bool (!b)):=by
    have:=oM (P:=P) 16 10000 (by omega) h
    simp only [binOp,Op.equal,Op.maxDepth]
    rw [aV,this]
    rfl
  rw [aV,h1]
  exact h2
structure Ka (P:Program) (kt:TypeId) {κ:Type} (kf:κ→AV) (kv:κ→Value) (beq:κ→κ→Bool):Prop where
  tok:∀ k,A9 (kf k)=some (kv k)
  eqv:∀ a b,F3 P 16 kt (kv a) (kv b)=some (beq a b)
  chk:∀ e k,aA P (Instr.checkKey e 10000 kt (kv k))=some ()
  sam:∀ a b,beq a b=true→Instr.sameBits 10000 (kv b) (kv a)=true
section
variable {P:Program} {kt:TypeId} {κ:Type} {kf:κ→AV} {kv:κ→Value} {beq:κ→κ→Bool}
end
def qq (H:Type) (P:Program) (t:TypeId) {α:Type} (f:α→List AV) (wf:α→Prop):Prop:=∀ (n:Nat) (d:DataW H),dy P n t d=true→∃ x,dw (g7 P n t d) (f x)∧wf x
def mL (H:Type) (P:Program) (ts:List TypeId) {α:Type} (f:α→List AV) (wf:α→Prop):Prop:=∀ (n:Nat) (ds:List (DataW H)),ds.length=ts.length→((ts.zip ds).all fun x=>dy P n x.1 x.2)=true→∃ x,dw ((ts.zip ds).flatMap fun x=>g7 P n x.1 x.2) (f x)∧wf x
section
variable {H:Type} {P:Program} {t:TypeId}
theorem qq.int {k:IntKind} (hu:P.underlying t=some (.int k)):qq H P t (ao k) (Ej k):=by
  intro n d h
  cases n with
  | zero=>cases h
  | succ n =>
    unfold dy at h
    rw [hu] at h
    cases d with
    | lit l =>
      cases l with
      | int k' m =>
        have h:(decide (k'=k)&&(Lit.int k m).wf)=true:=h
        rw [Bool.and_eq_true] at h
        obtain ⟨h1,h2⟩:=h
        have h1:=of_decide_eq_true h1
        subst h1
        have h2:(decide (k'.min≤m)&&decide (m≤k'.max))=true:=h2
        rw [Bool.and_eq_true] at h2
        refine ⟨m,?_,of_decide_eq_true h2.1,of_decide_eq_true h2.2⟩
        unfold g7
        rw [hu]
        exact dw.refl _
      | _=>cases h
    | _=>cases h
theorem qq.bool (hu:P.underlying t=some .bool):qq H P t ae (fun _=>True):=by
  intro n d h
  cases n with
  | zero=>cases h
  | succ n =>
    unfold dy at h
    rw [hu] at h
    cases d with
    | lit l =>
      cases l with
      | bool b =>
        refine ⟨b,?_,trivial⟩
        unfold g7
        rw [hu]
        exact dw.refl _
      | _=>cases h
    | _=>cases h
theorem qq.slice {e:TypeId} (hu:P.underlying t=some (.slice e)) {α:Type} {f:α→List AV} {wf:α→Prop} (he:qq H P e f wf):qq H P t (J_ f) (fun l=>l.length≤maxLen∧∀ x∈l,wf x):=by
  intro n d h
  cases n with
  | zero=>cases h
  | succ n =>
    unfold dy at h
    rw [hu] at h
    cases d with
    | nil =>
      refine ⟨[],?_,by simp [maxLen],fun x hx=>by cases hx⟩
      unfold g7
      rw [hu]
      exact dw.cons ey.nil dw.nil
    | slice xs sp =>
      have h:(decide (xs.length≤maxLen)&&xs.all (dy P n e))=true:=h
      rw [Bool.and_eq_true] at h
      obtain ⟨h1,h2⟩:=h
      have key:∀ xs:List (DataW H),xs.all (dy P n e)=true→∃ l:List α,i6 (xs.map (g7 P n e)) (l.map f)∧l.length=xs.length∧∀ x∈l,wf x:=by
        intro xs
        induction xs with
        | nil=>exact fun _=>⟨[],i6.nil,rfl,fun x hx=>by cases hx⟩
        | cons x xs ih =>
          intro h
          rw [List.all_cons,Bool.and_eq_true] at h
          obtain ⟨y,hy1,hy2⟩:=he n x h.1
          obtain ⟨l,hl1,hl2,hl3⟩:=ih h.2
          refine ⟨y::l,i6.cons hy1 hl1,by simp [hl2],fun z hz=>?_⟩
          rcases List.mem_cons.1 hz with rfl | hz
          · exact hy2
          · exact hl3 z hz
      obtain ⟨l,hl1,hl2,hl3⟩:=key xs h2
      refine ⟨l,?_,by rw [hl2]; exact of_decide_eq_true h1,hl3⟩
      unfold g7
      rw [hu]
      exact dw.cons (ey.sl hl1) dw.nil
    | _=>cases h
theorem mL.nil:mL H P [] (fun _:Unit=>[]) (fun _=>True):=fun _ _ _ _=>⟨(),dw.nil,trivial⟩
theorem mL.cons {ts:List TypeId} {α β:Type} {f:α→List AV} {wf:α→Prop} {g:β→List AV} {wg:β→Prop} (h:qq H P t f wf) (hs:mL H P ts g wg):mL H P (t::ts) (fun x:α×β=>f x.1++g x.2) (fun x=>wf x.1∧wg x.2):=by
  intro n ds hl ha
  cases ds with
  | nil=>simp at hl
  | cons d ds =>
    rw [List.zip_cons_cons,List.all_cons,Bool.and_eq_true] at ha
    obtain ⟨x,h1,h2⟩:=h n d ha.1
    obtain ⟨y,h3,h4⟩:=hs n ds (by simpa using hl) ha.2
    refine ⟨(x,y),?_,h2,h4⟩
    rw [List.zip_cons_cons,List.flatMap_cons]
    exact h1.app h3
theorem qq.struct {fs:Array Field} (hu:P.underlying t=some (.struct fs)) {α:Type} {g:α→List AV} {wg:α→Prop} (h:mL H P (fs.toList.map (·.type)) g wg):qq H P t g wg:=by
  intro n d hd
  cases n with
  | zero=>cases hd
  | succ n =>
    unfold dy at hd
    rw [hu] at hd
    cases d with
    | agg ds =>
    have hd:(Nat.beq ds.length fs.size&&(fs.toList.zip ds).all fun x=>dy P n x.1.type x.2)=true:=hd
    rw [Bool.and_eq_true] at hd
    obtain ⟨h1,h2⟩:=hd
    have hlen:=Nat.eq_of_beq_eq_true h1
    obtain ⟨x,h3,h4⟩:=h n ds (by simpa using hlen) (by
      rw [List.zip_map_left,List.all_map]
      exact h2)
    refine ⟨x,?_,h4⟩
    unfold g7
    rw [hu]
    dsimp only
    rw [List.zip_map_left,List.flatMap_map] at h3
    exact h3
    | _=>cases hd
theorem qq.conv {α β:Type} {f:α→List AV} {wf:α→Prop} {g:β→List AV} {wg:β→Prop} (h:qq H P t f wf) (φ:α→β) (hf:∀ x,f x=g (φ x)) (hw:∀ x,wf x→wg (φ x)):qq H P t g wg:=fun n d hd=>by
  obtain ⟨x,h1,h2⟩:=h n d hd
  exact ⟨φ x,by rw [← hf]; exact h1,hw x h2⟩
theorem qq.argS {fs:Array Field} (hu:P.underlying t=some (.struct fs)) {α:Type} {f:α→List AV} {wf:α→Prop} (h:qq H P t f wf) {n:Nat} {d:DataW H} (hd:dy P n t d=true):∃ x,ey (tl P n t d) (.agg (f x))∧wf x:=by
  obtain ⟨x,h1,h2⟩:=h n d hd
  refine ⟨x,?_,h2⟩
  unfold tl
  rw [hu]
  exact ey.agg h1
end
end A
end Go.Proofs.Ytaiokpalfdbnnaa
