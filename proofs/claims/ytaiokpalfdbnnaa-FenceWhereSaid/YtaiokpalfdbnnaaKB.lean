/- The evaluator with answers; contracts out of it. Nothing is claimed here of the program. -/
import Derived.Test.YtaiokpalfdbnnaaK6
import Derived.Test.YtaiokpalfdbnnaaM0
import Derived.Laws.StructEq
namespace Go.Proofs.Ytaiokpalfdbnnaa
namespace A
open Go
def o8 {α:Type}:List (Nat×α)→Nat→Option α
  | [],_=>none
  | (d,x)::xs,e=>match Nat.beq d e with | true=>some x | false=>o8 xs e
structure Wk where
  ts:List Nat
  ls:List Nat
  no:Nat
  pr:List (Nat×Nat)
  pl:List (Nat×Nat×Nat)
  fz:List Nat
def EH (ts:List Nat):Nat→List AV→List AV
  | _,[]=>[]
  | i,x::xs=>(match cC ts i with | true=>x | false=>.bad)::EH ts (i + 1) xs
def xz:List Nat→St→St
  | [],S=>S
  | d::ds,S=>xz ds (dU d S)
def Am:Nat→Nat→List Nat
  | _,0=>[]
  | i,n + 1=>i::Am (i + 1) n
def Di:List Nat→St→St
  | [],S=>S
  | i::is,S=>Di is (cO i S)
def xA:List Ob→Bool
  | []=>true
  | .dead::os=>xA os
  | _=>false
def F4 (n:Nat) (S:St):St :=
  match xA (S.o.drop n)&&Nat.ble S.b n with
  | true=>{ t:=S.t,l:=S.l,o:=S.o.take n,b:=S.b }
  | false=>S
def yX:List (Nat×Nat)→St→St
  | [],S=>S
  | (d,sz)::ps,S=>match S.t[d]? with
    | some .nilsl=>yX ps { t:=S.t.set d (.mf S.o.length),l:=S.l,o:=S.o++[.arr true sz []],b:=S.b }
    | _=>yX ps S
def wy:List (Nat×Nat×Nat)→St→St
  | [],S=>S
  | (d,j,sz)::ps,S=>match aJ S.l d with
    | some row=>match row[j]? with
      | some .nilsl=>wy ps { t:=S.t,l:=pi S.l d (row.set j (.mf S.o.length)),o:=S.o++[.arr true sz []],b:=S.b }
      | _=>wy ps S
    | none=>wy ps S
def F5 (ids:List Nat) (d j:Nat) (b:AV) (S:St):St :=
  match aJ (dV ids S).l d with
  | some row=>{ t:=(dV ids S).t,l:=pi (dV ids S).l d (row.set j b),o:=(dV ids S).o,b:=(dV ids S).b }
  | none=>dV ids S
def vg:List Nat→St→St
  | [],S=>S
  | d::ds,S=>match Nat.ble 10000 d with
    | true=>match aJ S.l ((d - 10000) / 100) with
      | some row=>match row[d % 100]? with
        | some a=>match zC S.o 6 a with
          | some b=>vg ds (F5 (cX S.o 6 a) ((d - 10000) / 100) (d % 100) b S)
          | none=>vg ds S
        | none=>vg ds S
      | none=>vg ds S
    | false=>match S.t[d]? with
      | some a=>match zC S.o 6 a with
        | some b=>vg ds { t:=(dV (cX S.o 6 a) S).t.set d b,l:=(dV (cX S.o 6 a) S).l,o:=(dV (cX S.o 6 a) S).o,b:=(dV (cX S.o 6 a) S).b }
        | none=>vg ds S
      | none=>vg ds S
def HP (W:Wk) (S:St):St :=
  wy W.pl (yX W.pr (F4 W.no (Di (Am W.no (S.o.length - W.no)) (xz W.ls { t:=EH W.ts 0 S.t,l:=S.l,o:=S.o,b:=S.b }))))
def wk (W:Wk) (S:St):St:=HP W (vg W.fz S)
def eg (a b:AV):Prop:=∀ E u,VR E a u→VR E b u
def dQ (r r':List AV):Prop:=r.length=r'.length∧∀ (i:Nat) (a b:AV),r[i]?=some a→r'[i]?=some b→eg a b
def iJ (r r':List (List AV)):Prop:=r.length=r'.length∧∀ (i:Nat) (a b:List AV),r[i]?=some a→r'[i]?=some b→dQ a b
structure Le where
  ts:List (Nat×AV)
  ls:List (Nat×List AV)
  os:List (Nat×List (List AV))
def F6:List (Nat×AV)→St→(St→Prop)→Prop
  | [],S,K=>K S
  | (d,v)::xs,S,K=>oc S.t d fun a=>eg a v∧qt S.t d v fun t=>F6 xs { t:=t,l:=S.l,o:=S.o,b:=S.b } K
def EI:List (Nat×List AV)→St→(St→Prop)→Prop
  | [],S,K=>K S
  | (d,r)::xs,S,K=>match aJ S.l d with
    | some row=>dQ row r∧l_ (pi S.l d r) fun l=>EI xs { t:=S.t,l:=l,o:=S.o,b:=S.b } K
    | none=>ae 450
def EJ:List (Nat×List (List AV))→St→(St→Prop)→Prop
  | [],S,K=>K S
  | (i,R)::xs,S,K=>match S.o[i]? with
    | some (.arr fl sz rows)=>iJ rows R∧bc (S.o.set i (.arr fl sz R)) fun o=>EJ xs { t:=S.t,l:=S.l,o:=o,b:=S.b } K
    | _=>ae 451
def Dj (L:Le) (S:St) (K:St→Prop):Prop:=F6 L.ts S fun S=>EI L.ls S fun S=>EJ L.os S K
structure vh where
  at_:Option Nat
  row:Option (List (List AV))
  ks:List AV
  cs:List (Option (List (List AV)))
structure dh where
  dem:List Nat
  chk:List Nat
  row:List (Nat×List AV)
  val:List (Nat×AV)
  call:List (Nat×AV)
  sto:List (Nat×(AV×List Ob))
  obr:List (Nat×(Nat×List (List AV)))
  mpr:List (Nat×List (AV×AV))
  own:List (Nat×vh)
inductive PT where
  | done
  | go (i:Nat) (t:PT)
  | alt (i:Nat) (t r:PT)
def i6:List Nat→PT
  | []=>.done
  | i::is=>.go i (i6 is)
def An:PT→PT→Bool
  | .done,.done=>true
  | .go i t,.go j u=>Nat.beq i j&&An t u
  | .alt i t r,.alt j u s=>Nat.beq i j&&(An t u&&An r s)
  | _,_=>false
structure F7 where
  ord:List (Nat×PT)
  reg:List (Nat×dh)
  wr:List (Nat×Le)
  lps:List (Nat×(Wk×Le×Ex×St))
  cut:List (Nat×(Wk×Le×Ex×St))
def B_ (A:F7) (id:Nat):dh :=
  match o8 A.reg id with
  | some R=>R
  | none=>⟨[],[],[],[],[],[],[],[],[]⟩
def keyOf (o:Oper):Nat :=
  match o.dst with
  | some d=>d
  | none=>match o.op with
    | .store _ (.tmp t) _=>t + 1000000
    | .mapUpdate _ (.tmp t) _ _=>t + 1000000
    | .insert _ (.tmp t) _ _=>t + 1000000
    | _=>0
def Fp (rows:List (List AV)) (i:Int):Option (List AV):=if 0≤i then rows[i.toNat]? else none
def Dk (op:BinOp) (x y:Value) (K:Value→Prop):Prop :=
  match op,x,y with
  | .quo,.int k a,.int k' b=>(decide (k=k')&&!(b==0))=true∧K (.int k (k.wrap (a.tdiv b)))
  | .rem,.int k a,.int k' b=>(decide (k=k')&&!(b==0))=true∧K (.int k (a.tmod b))
  | .shl,.int k a,.int _ b=>decide (0≤b)=true∧K (.int k (k.wrap (a * 2 ^ (min b.toNat k.bits))))
  | .shr,.int k a,.int _ b=>decide (0≤b)=true∧K (.int k (a.fdiv (2 ^ (min b.toNat k.bits))))
  | .add,.string a,.string b=>decide (((a.size + b.size:Nat):Int)≤9223372036854775807)=true∧K (.string (a++b))
  | _,_,_=>ae 20
def Dl (C:Ctx) (A:dh) (o:Oper) (op:BinOp) (t:TypeId) (x y:AV) (k:AV→Prop):Prop :=
  match x,y with
  | .v a,.v b=>match Er op a b with
    | none=>match a,b with
      | .bool x,.bool y=>xY C.P op t x y k
      | a,b=>Dk op a b fun c=>k (.v c)
    | some c=>k (.v c)
  | .agg as,.agg bs=>match rQ as,rQ bs with
    | some xs,some ys=>match o8 A.val (keyOf o) with
      | some (.v (.bool b))=>bz C.P op t xs ys=some (.bool b)∧k (.v (.bool b))
      | _=>ae 400
    | _,_=>ae 401
  | _,_=>ae 402
def xB (C:Ctx) (A:dh) (o:Oper) (t:TypeId) (x ix:AV) (k:AV→Prop):Prop :=
  intOf ix fun i =>
  match C.P.underlying t,x with
  | some .string,.v (.string s)=>match o8 A.val (keyOf o) with
    | some (.v (.int .u8 n))=>(if 0≤i then s[i.toNat]? else none)=some (UInt8.ofNat n.toNat)∧(n=((UInt8.ofNat n.toNat).toNat:Int)∧k (.v (.int .u8 n)))
    | _=>ae 403
  | some (.array len e),.agg cs=>match C.P.info? e with
    | some inf=>(decide (0≤i)&&decide (i<len))=true∧gH C.P e cs (i.toNat * inf.size) k
    | none=>ae 404
  | _,_=>ae 405
def F8 (C:Ctx) (A:dh) (pl:bG) (o:Oper) (vs:List AV) (k:AV→Prop):Prop :=
  match cC A.chk (keyOf o) with
  | false=>pop C pl o vs k
  | true=>match o.op,vs with
    | .binOp op t _ _ _,[a,b]=>Dl C A o op t a b k
    | .index t _ _,[a,i]=>xB C A o t a i k
    | _,_=>ae 406
def wz (len cap:Nat) (lo hi mx:Option Int) (k:Nat→Nat→Nat→Prop):Prop :=
  match lo,hi,mx with
  | none,none,none=>k 0 len cap
  | some l,none,none=>(decide (0≤l)&&decide (l≤len))=true∧k l.toNat len cap
  | none,some h,none=>(decide (0≤h)&&decide (h≤cap))=true∧k 0 h.toNat cap
  | some l,some h,none=>(decide (0≤l)&&decide (l≤h)&&decide (h≤cap))=true∧k l.toNat h.toNat cap
  | none,some h,some m=>(decide (0≤h)&&decide (h≤m)&&decide (m≤cap))=true∧k 0 h.toNat m.toNat
  | some l,some h,some m=>(decide (0≤l)&&decide (l≤h)&&decide (h≤m)&&decide (m≤cap))=true∧k l.toNat h.toNat m.toNat
  | _,_,_=>ae 63
def HC (mx hi:Option Int) (k:Bool→Prop):Prop :=
  match mx with
  | none=>k false
  | some _=>(d6 mx&&d6 hi)=false∧k false
def j7 (C:Ctx) (t:TypeId) (x:AV) (lo hi mx:Option Int) (S:St) (k:AV→Prop):Prop :=
  match C.P.underlying t with
  | some .string =>
    match x,mx with
    | .v (.string s),none=>wz s.size s.size lo hi none fun l h _=>k (.v (.string (s.extract l h)))
    | _,_=>ae 64
  | some (.slice e) =>
    match C.P.info? e with
    | some i=>bC (Nat.blt 0 i.size) (
      match x with
      | .sl rows=>cW i.size rows=true∧HC mx hi fun zz=>wz rows.length rows.length lo hi mx fun l h _ =>
        match lo,hi,zz with
        | _,_,true=>k .esl
        | none,none,_=>k (.sl rows)
        | _,none,_=>k (.sl (rows.drop l))
        | none,_,_=>k (.sl (rows.take h))
        | _,_,_=>k (.sl ((rows.drop l).take (h - l)))
      | .mf id=>match S.o[id]? with
        | some (.arr _ sz rows)=>bC (Nat.beq sz i.size) (HC mx hi fun zz=>wz rows.length rows.length lo hi mx fun l h m =>
          match lo,hi,zz with
          | _,_,true=>k .esl
          | none,none,_=>k (.mf id)
          | _,none,_=>k (.msl id l (rows.length - l) 0)
          | _,_,_=>k (.msl id l (h - l) (m - h)))
        | _=>ae 65
      | .msl id off len ext=>match S.o[id]? with
        | some (.arr _ sz _)=>bC (Nat.beq sz i.size) (HC mx hi fun zz=>wz len (len + ext) lo hi mx fun l h m =>
          match zz with
          | true=>k .esl
          | false=>k (.msl id (l + off) (h - l) (m - h)))
        | _=>ae 66
      | _=>ae 67)
    | none=>ae 68
  | _=>ae 69
def mN (C:Ctx) (row:List AV) (t:TypeId) (x ix:AV) (S:St) (k:AV→Prop):Prop :=
  intOf ix fun i =>
  match C.P.underlying t with
  | some (.slice e) =>
    match C.P.info? e with
    | some inf =>
      match x with
      | .sl rows=>Fp rows i=some row∧bC (Nat.beq row.length inf.size&&Nat.blt 0 inf.size) (k (.fptr row 0))
      | .mf id=>match S.o[id]? with
        | some (.arr _ _ rows)=>Fp rows i=some row∧bC (Nat.beq row.length inf.size&&Nat.blt 0 inf.size) (k (.ptr (.O id) i.toNat 0))
        | some (.own none _ cells _)=>bC (Nat.beq inf.size 1) ((decide (0≤i)&&Nat.blt i.toNat cells.length)=true∧k (.ptr (.O id) i.toNat 0))
        | _=>ae 72
      | .msl id off len _=>match S.o[id]? with
        | some (.arr _ _ rows)=>(decide (0≤i)&&decide (i<len))=true∧(rows[i.toNat + off]?=some row∧bC (Nat.beq row.length inf.size&&Nat.blt 0 inf.size) (k (.ptr (.O id) (i.toNat + off) 0)))
        | _=>ae 74
      | _=>ae 75
    | none=>ae 76
  | some (.array len e) =>
    match C.P.info? e with
    | some inf=>(decide (0≤i)&&decide (i<len))=true∧(
      match x with
      | .ptr key a j=>k (.ptr key a (i.toNat * inf.size + j))
      | .fptr row j=>k (.fptr row (i.toNat * inf.size + j))
      | _=>ae 77)
    | none=>ae 78
  | _=>ae 79
def ss (C:Ctx) (A:dh) (o:Oper) (fid:Nat) (as:List AV) (k:AV→Prop):Prop :=
  match o8 A.call (keyOf o) with
  | some r=>(C.pcall fid as fun x=>x=r)∧k r
  | none=>C.pcall fid as k
def Ao (P:Program) (op:BinOp) (t:TypeId) (x y:AV) (S:St) (k:AV→Prop):Prop :=
  match x,y with
  | .mf id,.nilsl=>match S.o[id]? with
    | some (.arr _ _ rows)=>ef rows=true∧(match P.underlying t,op with
      | some (.slice _),.eql=>k (.v (.bool false))
      | some (.slice _),.neq=>k (.v (.bool true))
      | _,_=>ae 265)
    | _=>ae 472
  | .sl rows,.nilsl=>ef rows=true∧(match P.underlying t,op with
      | some (.slice _),.eql=>k (.v (.bool false))
      | some (.slice _),.neq=>k (.v (.bool true))
      | _,_=>ae 265)
  | _,_=>ae 473
def qR (size:Nat) (S:St) (x:AV) (k:Bool→List (List AV)→Prop):Prop :=
  match x with
  | .nilsl | .esl=>k true []
  | .sl rows=>cW size rows=true∧k true rows
  | .mf id=>match S.o[id]? with | some (.arr fl sz rows)=>bC (Nat.beq sz size) (k fl rows) | _=>ae 45
  | .msl id off len _=>match S.o[id]? with | some (.arr fl sz rows)=>bC (Nat.beq sz size) (k fl ((rows.drop off).take len)) | _=>ae 46
  | .v (.string s)=>bC (Nat.beq size 1) (k true (s.data.toList.map fun b=>[.v (.int .u8 b.toNat)]))
  | x=>iA size S x k
def xC (P:Program) (src dst:TypeId) (x:AV) (S:St) (s:ByteArray) (k:AV→Prop):Prop :=
  match P.underlying src,P.underlying dst with
  | some (.slice e),some .string =>
    match P.underlying e with
    | some (.int .u8)=>bC (!(GH x)) (qR 1 S x fun _ rows=>bytesOf rows=some s.data.toList∧k (.v (.string s)))
    | _=>ae 481
  | _,_=>ae 482
def F9 (C:Ctx) (A:dh) (o:Oper) (vs:List AV) (M:St) (k:AV→Prop):Prop :=
  match o.op,vs with
  | .load t _,[p]=>match o8 A.row (keyOf o) with
    | some row=>match p with
      | .ptr (.O id) i j=>match M.o[id]? with
        | some (.arr _ _ rows)=>rows[i]?=some row∧gH C.P t row j k
        | _=>ae 410
      | _=>ae 411
    | none=>nr C o vs M k
  | .slice t _ lo hi mx,a::rest=>match cC A.chk (keyOf o) with
    | false=>nr C o vs M k
    | true=>match lo,hi,mx,rest with
      | none,none,none,[]=>j7 C t a none none none M k
      | some _,none,none,[x]=>intOf x fun x=>j7 C t a (some x) none none M k
      | none,some _,none,[y]=>intOf y fun y=>j7 C t a none (some y) none M k
      | some _,some _,none,[x,y]=>intOf x fun x=>intOf y fun y=>j7 C t a (some x) (some y) none M k
      | none,some _,some _,[y,z]=>intOf y fun y=>intOf z fun z=>j7 C t a none (some y) (some z) M k
      | some _,some _,some _,[x,y,z]=>intOf x fun x=>intOf y fun y=>intOf z fun z=>j7 C t a (some x) (some y) (some z) M k
      | _,_,_,_=>ae 202
  | .indexAddr t _ _,[a,i]=>match o8 A.row (keyOf o) with
    | some row=>mN C row t a i M k
    | none=>nr C o vs M k
  | .lookup t _ _ ok,[m,key]=>match o8 A.call (keyOf o) with
    | some a=>match C.P.underlying t,m with
      | some (.map kt e),.mp id=>match M.o[id]? with
        | some (.mapo _ es)=>(∀ k':AV→Prop,k' a→jY C.P kt key es fun _ r=>m5 C.P e ok es r k')∧k a
        | _=>ae 412
      | _,_=>ae 413
    | none=>nr C o vs M k
  | .binOp op t _ _ _,[a,b]=>match cC A.chk (keyOf o) with
    | false=>nr C o vs M k
    | true=>Ao C.P op t a b M k
  | .convert src dst _,[x]=>match o8 A.call (keyOf o) with
    | some (.v (.string s))=>xC C.P src dst x M s k
    | _=>nr C o vs M k
  | .call c,vs=>match c.callee with
    | .value _=>match vs with
      | .fn fid first cap::as=>bC (C.pure fid) (g0 M.o (first++as++cap) fun bs=>ss C A o fid bs fun r=>bC (sK 4 r||((first++as++cap).flatMap (cX M.o 6)).isEmpty) (k r))
      | _=>ae 205
    | _=>nr C o vs M k
  | _,_=>nr C o vs M k
def xD (S:St) (row:List AV) (a:AV) (cs:List AV) (K:St→Prop):Prop :=
  match a with
  | .ptr (.O id) i j =>
    match S.o[id]? with
    | some (.arr fl sz rows)=>rows[i]?=some row∧bC (Nat.ble (j + cs.length) row.length&&cs.all (rP 4)) (gF (splice row j cs) fun row'=>bc (S.o.set id (.arr (fl&&cs.all (cM 4)) sz (rows.set i row'))) fun o=>K { t:=S.t,l:=S.l,o:=o,b:=S.b })
    | _=>ae 18
  | _=>ae 19
def EK (C:Ctx) (A:dh) (o:Oper) (vs:List AV) (M:St) (k:AV→St→Prop):Prop :=
  match o8 A.row (keyOf o) with
  | none=>vN C o vs M k
  | some row=>match o.op,vs with
    | .store t _ _,[p,y]=>match p with
      | .ptr (.O _) _ _=>lf y fun cs=>match C.P.info? t with
        | some i=>bC (Nat.beq cs.length i.size) (xD M row p cs fun M'=>k .bad M')
        | none=>ae 208
      | _=>vN C o vs M k
    | _,_=>vN C o vs M k
def pU (P:Program) (ts:List TypeId) (base x:AV) (S:St) (k:St→AV→Prop):Prop :=
  match ts with
  | [t0,t1] =>
    match P.underlying t0 with
    | some (.slice e) =>
      match P.info? e with
      | some i=>bC (Nat.blt 0 i.size&&Nat.blt 0 i.bytes&&Fi i&&(match P.underlying t1 with | some (.slice _) | some .string=>true | _=>false)) (qR i.size S x fun fl src=>ba src=true∧(
          match base with
          | .nilsl | .esl=>Nat.ble (src.length * i.bytes) 140737488355328=true∧(bc (S.o++[.arr fl i.size src]) fun o=>k { t:=S.t,l:=S.l,o:=o,b:=S.b } (.mf S.o.length))
          | .mf id=>match S.o[id]? with
            | some (.arr fl' sz rows)=>bC (Nat.beq sz i.size&&(fl||!fl')) (Nat.ble ((rows.length + src.length) * i.bytes) 140737488355328=true∧nE S id (.arr (fl'&&fl) sz (rows++src)) fun S' id'=>k S' (.mf id'))
            | _=>ae 48
          | .msl id off len ext=>match S.o[id]? with
            | some (.arr fl' sz rows)=>bC (Nat.beq sz i.size&&(fl||!fl')) (Nat.ble src.length ext=true∧(Nat.ble (off + len + ext) rows.length=true ∧
                bc (S.o.set id (.arr (fl'&&fl) sz (rows.take (off + len)++(src++rows.drop (off + len + src.length))))) fun o=>k { t:=S.t,l:=S.l,o:=o,b:=S.b } (.msl id off (len + src.length) (ext - src.length))))
            | _=>ae 49
          | _=>ae 50))
      | none=>ae 51
    | _=>ae 52
  | _=>ae 53
def qS (P:Program) (ts:List TypeId) (base x:AV) (k:AV→Prop):Prop :=
  match ts with
  | [t0,t1] =>
    match P.underlying t0 with
    | some (.slice e) =>
      match P.info? e with
      | some i=>bC (Nat.blt 0 i.size&&Nat.blt 0 i.bytes&&Fi i&&(match P.underlying t1 with | some (.slice _) | some .string=>true | _=>false)) (qR i.size Hz x fun fl src=>bC fl (ba src=true∧(Nat.ble (src.length * i.bytes) 140737488355328=true∧(
          match base with
          | .nilsl | .esl=>k (.sl src)
          | _=>ae 254))))
      | none=>ae 255
    | _=>ae 256
  | _=>ae 257
def F_ (C:Ctx) (o:Oper) (vs:List AV) (k:AV→Prop):Prop :=
  match o.op,vs with
  | .call c,[x,y]=>match c.callee with
    | .builtin .append=>qS C.P c.argTypes.toList x y k
    | _=>ae 258
  | _,_=>ae 259
def qT (P:Program) (ts:List TypeId) (base:AV) (n:Int) (S:St) (k:St→AV→Prop):Prop :=
  match ts with
  | [t0,t1] =>
    match P.underlying t0,P.underlying t1 with
    | some (.slice e),some (.int _) =>
      match P.info? e with
      | some i=>(Nat.blt 0 i.size&&Nat.blt 0 i.bytes&&decide (0<n)&&decide (n * i.bytes≤140737488355328)&&decide (n≤140737488355328))=true∧(cm P e fun z=>bC (z.all (cM 2)) (
          match base with
          | .nilsl | .esl=>bc (S.o++[.arr true i.size (List.replicate n.toNat z)]) fun o=>k { t:=S.t,l:=S.l,o:=o,b:=S.b } (.mf S.o.length)
          | _=>ae 250))
      | none=>ae 251
    | _,_=>ae 252
  | _=>ae 253
def j8 (P:Program) (t:TypeId) (l c:AV) (S:St) (k:St→AV→Prop):Prop :=
  match P.underlying t with
  | some (.slice e) =>
    match P.info? e with
    | some i=>intOf l fun l=>intOf c fun c=>(decide (0≤l)&&decide (l≤c)&&decide (i.bytes * c≤140737488355328)&&decide (c≤140737488355328)&&Nat.blt 0 i.size)=true ∧
        (cm P e fun z=>bC (z.all (cM 2)) (bc (S.o++[.arr true i.size (List.replicate l.toNat z)]) fun o=>k { t:=S.t,l:=S.l,o:=o,b:=S.b } (.mf S.o.length)))
    | none=>ae 61
  | _=>ae 62
def Ap (P:Program) (ts:List TypeId) (x y:AV) (M:St) (k:AV→St→Prop):Prop :=
  match ts with
  | t::_ =>
    match P.underlying t with
    | some (.slice e) =>
      match P.info? e with
      | some i=>bC (Nat.blt 0 i.size) (qR i.size M y fun fl src=>ba src=true∧bC (!(GH y)) (
          match x with
          | .mf id=>match M.o[id]? with
            | some (.arr fl' sz rows)=>bC (Nat.beq sz i.size) (bc (M.o.set id (.arr (fl'&&fl) sz (src.take rows.length++rows.drop src.length))) fun o=>k (.v (.int .i64 ((min src.length rows.length:Nat):Int))) { t:=M.t,l:=M.l,o:=o,b:=M.b })
            | _=>ae 243
          | .msl id off len _=>match M.o[id]? with
            | some (.arr fl' sz rows)=>bC (Nat.beq sz i.size) (Nat.ble (off + len) rows.length=true∧(bc (M.o.set id (.arr (fl'&&fl) sz (rows.take off++(src.take len++rows.drop (off + min src.length len))))) fun o=>k (.v (.int .i64 ((min src.length len:Nat):Int))) { t:=M.t,l:=M.l,o:=o,b:=M.b }))
            | _=>ae 244
          | _=>ae 245))
      | none=>ae 246
    | _=>ae 247
  | []=>ae 248
def Aq (C:Ctx) (A:dh) (o:Oper) (f:AV) (args:List AV) (S:St) (k:St→AV→Prop):Prop :=
  match f with
  | .fn fid first cap =>
    match C.pure fid with
    | true=>g0 S.o (first++args++cap) fun as=>ss C A o fid as fun r =>
        match sK 4 r with
        | true=>k S r
        | false=>eo ((first++args++cap).flatMap (cX S.o 6)) S fun S'=>k S' r
    | false=>bC ((first++args++cap).all (rP 4)) (match o8 A.sto (keyOf o) with
      | some (r,o')=>(C.scall fid (first++args++cap) S.o fun r' o''=>r'=r∧o''=o')∧iO (bQ S.o o' 0) S.t S.l fun t l=>k { t:=t,l:=l,o:=o',b:=S.b } r
      | none=>C.scall fid (first++args++cap) S.o fun r o'=>iO (bQ S.o o' 0) S.t S.l fun t l=>k { t:=t,l:=l,o:=o',b:=S.b } r)
  | _=>ae 97
def j9 (P:Program) (R:List (AV×AV)) (t:TypeId) (m key x:AV) (S:St) (K:St→Prop):Prop :=
  match P.underlying t with
  | some (.map kt _) =>
    match m with
    | .mp id=>match S.o[id]? with
      | some (.mapo fl es)=>bC (rP 4 x) ((∀ K':List (AV×AV)→Prop,K' R→jY P kt key es fun kv r=>bC (BD P kt kv) (
          match r with
          | some i=>bC (Instr.sameBits 10000 ((es[i]?.bind fun e=>zD e.1).getD (.bool false)) kv) (K' (es.set i (key,x)))
          | none=>K' (es++[(key,x)])))∧bc (S.o.set id (.mapo (fl&&cM 4 x) R)) fun o=>K { t:=S.t,l:=S.l,o:=o,b:=S.b })
      | _=>ae 106
    | _=>ae 107
  | _=>ae 108
def xE (P:Program) (ts:List TypeId) (x:AV) (S:St) (K:St→Prop):Prop :=
  match ts with
  | t::_ =>
    match P.underlying t with
    | some (.slice e) =>
      match P.info? e with
      | some i=>bC (Nat.blt 0 i.size) (
          match x with
          | .msl id off len _=>match S.o[id]? with
            | some (.arr fl sz rows)=>bC (Nat.beq sz i.size) (Nat.ble (off + len) rows.length=true∧cm P e fun z=>bC (z.all (cM 2)&&z.all jn) (bc (S.o.set id (.arr (fl&&true) sz (rows.take off++(List.replicate len z++rows.drop (off + len))))) fun o=>K { t:=S.t,l:=S.l,o:=o,b:=S.b }))
            | _=>ae 267
          | _=>ae 268)
      | none=>ae 269
    | _=>ae 270
  | []=>ae 271
def EL (C:Ctx) (A:dh) (pl:bG) (o:Oper) (S:St) (K:St→Prop):Prop :=
  match o.op with
  | .mapUpdate t m key x=>match o8 A.mpr (keyOf o) with
    | some R=>cv S m fun m=>cv S key fun key=>cv S x fun x=>j9 C.P R t m key x S fun S'=>br o.dst .bad S' K
    | none=>sQ C pl o S K
  | .insert t m key x=>match o8 A.mpr (keyOf o) with
    | some R=>cv S m fun m=>cv S key fun key=>cv S x fun x=>j9 C.P R t m key x S fun S'=>br o.dst .bad S' K
    | none=>sQ C pl o S K
  | .makeSlice t l c=>match cC A.chk (keyOf o) with
    | true=>cv S l fun l=>cv S c fun c=>j8 C.P t l c S fun S' a=>br o.dst (Hy (cC pl.nn (o.dst.getD 0)) a) S' K
    | false=>sQ C pl o S K
  | .call c=>match c.callee with
    | .builtin .append=>match cC A.chk (keyOf o) with
      | true=>cV S c.args.toList fun as=>match as with
        | [x,.v (.int _ n)]=>qT C.P c.argTypes.toList x n S fun S' r=>br o.dst r S' K
        | [.ene,y]=>bC (cC pl.nn (o.dst.getD 0)) (pU C.P c.argTypes.toList .esl y S fun S' r=>br o.dst (GQ r) S' K)
        | [x,y]=>pU C.P c.argTypes.toList x y S fun S' r=>br o.dst r S' K
        | _=>ae 210
      | false=>sQ C pl o S K
    | .builtin .copy=>cV S c.args.toList fun as=>match as with
        | [x,y]=>Ap C.P c.argTypes.toList x y S fun r S'=>br o.dst r S' K
        | _=>ae 249
    | .builtin .clear=>match cC A.chk (keyOf o) with
      | true=>cV S c.args.toList fun as=>match as with
        | [x]=>xE C.P c.argTypes.toList x S fun S'=>br o.dst (.tup []) S' K
        | _=>ae 249
      | false=>sQ C pl o S K
    | .value f=>cv S f fun fv=>cV S c.args.toList fun as=>Aq C A o fv as S fun S' r=>br o.dst r S' K
    | _=>sQ C pl o S K
  | _=>sQ C pl o S K
def Fq (A:dh) (dst:Option Tmp) (S:St) (K:St→Prop):Prop :=
  match dst with
  | none=>K S
  | some d=>match o8 A.val d with
    | none=>K S
    | some v=>oc S.t d fun a=>a=v∧qt S.t d v fun t=>K { t:=t,l:=S.l,o:=S.o,b:=S.b }
def Dm (A:dh) (key:Nat) (S:St) (K:St→Prop):Prop :=
  match o8 A.obr key with
  | none=>K S
  | some (id,R)=>match S.o[id]? with
    | some (.arr fl sz rows)=>rows=R∧bc (S.o.set id (.arr fl sz R)) fun o=>K { t:=S.t,l:=S.l,o:=o,b:=S.b }
    | _=>ae 430
def Dn (C:Ctx) (A:dh) (pl:bG) (o:Oper) (S:St) (K:St→Prop):Prop :=
  cV S o.op.operands.toList fun vs=>F8 C A pl o vs fun r=>br o.dst r S K
def Do (C:Ctx) (A:dh) (o:Oper) (S:St) (K:St→Prop):Prop :=
  cV S o.op.operands.toList fun vs=>F9 C A o vs (cy S) fun r=>br o.dst r S K
def Fs (C:Ctx) (A:dh) (o:Oper) (S:St) (K:St→Prop):Prop :=
  cV S o.op.operands.toList fun vs=>EK C A o vs (cy S) fun r M=>br o.dst r (eK S M) K
def ng (row:Option (List (List AV))) (M:St) (pk:Bool) (id i:Nat) (k:AV→St→Prop):Prop :=
  match M.o[id]? with
  | some (.own ks sz cells none)=>match row with
    | none=>cells[i]?=some none∧k .nilsl M
    | some rows=>cells[i]?=some (some rows)∧match pk&&xV sz with | true=>k .nn M | false=>g6 (CC sz M.o.length) fun h=>bc (M.o.set id (.own ks sz cells (some (i,h)))++[.arr true (sJ sz) rows]) fun o=>k (.mf M.o.length) { t:=M.t,l:=M.l,o:=o,b:=M.b }
  | _=>ae 323
def qU (P:Program) (a:vh) (t:TypeId) (same pk:Bool) (M:St) (id i:Nat) (k:AV→St→Prop):Prop :=
  match same with
  | true=>match M.o[id]? with
    | some (.own none _ cells (some (j,a)))=>(Nat.beq i j&&Nat.blt j cells.length)=true∧gH P t [HL a] 0 fun r=>k r M
    | _=>ae 324
  | false=>ng a.row M pk id i fun a M'=>gH P t [a] 0 fun r=>k r M'
def oU (P:Program) (t:TypeId) (M:St) (id i:Nat) (v:AV) (K:St→Prop):Prop :=
  match P.info? t,M.o[id]? with
  | some inf,some (.own none sz cells hole)=>bC (Es sz v&&Nat.beq inf.size 1) ((Nat.blt i cells.length&&iQ hole i)=true∧(bc (M.o.set id (.own none sz cells (some (i,v)))) fun o=>K { t:=M.t,l:=M.l,o:=o,b:=M.b }))
  | _,_=>ae 325
def qV (P:Program) (nw:Bool) (j:Nat) (a:vh) (t:TypeId) (l c:AV) (M:St) (k:AV→St→Prop):Prop :=
  match P.underlying t with
  | some (.slice e) =>
    match P.info? e,P.underlying e with
    | some i,some (.slice e2)=>match P.info? e2 with
      | some i2=>intOf l fun l=>intOf c fun c=>(decide (0≤l)&&decide (l≤c)&&decide (i.bytes * c≤140737488355328)&&decide (c≤140737488355328)&&Nat.blt 0 i.size)=true∧bC (Nat.beq i.size 1&&(Nat.blt 0 i2.size&&Nat.blt i2.size 65536))
          (cm P e fun z=>match z with
            | [.nilsl]=>List.replicate l.toNat none=a.cs∧og j M.o M.b (.own none (match nw with | true=>i2.size + 65536 | false=>i2.size) a.cs none) fun o=>k (.mf j) { t:=M.t,l:=M.l,o:=o,b:=M.b }
            | _=>ae 325)
      | none=>ae 326
    | _,_=>ae 61
  | _=>ae 62
def qW (P:Program) (a:vh) (t:TypeId) (m key:AV) (ok:Bool) (M:St) (k:AV→St→Prop):Prop :=
  match P.underlying t with
  | some (.map kt e)=>match m with
    | .mp id=>match M.o[id]? with
      | some (.own (some ks) _ _ none)=>match a.at_ with
        | some i=>(∀ K':Option Nat→Prop,K' (some i)→jY P kt key (jZ ks) fun _ r=>K' r)∧ng a.row M false id i fun a M'=>md ok a true fun r=>k r M'
        | none=>(∀ K':Option Nat→Prop,K' none→jY P kt key (jZ ks) fun _ r=>K' r)∧iP P e ok fun r=>k r M
      | _=>ae 333
    | _=>ae 334
  | _=>ae 335
def GZ (M:St) (id sz:Nat) (cells:List (Option (List (List AV)))) (hole:Option (Nat×AV)) (x:AV) (K:St→Prop) (r:Option Nat) (ks:List AV):Prop :=
  match r with
  | some i=>iQ hole i=true∧(bc (M.o.set id (.own (some ks) sz cells (some (i,x)))) fun o=>K { t:=M.t,l:=M.l,o:=o,b:=M.b })
  | none=>match hole with
    | none=>bc (M.o.set id (.own (some ks) sz (cells++[none]) (some (cells.length,x)))) fun o=>K { t:=M.t,l:=M.l,o:=o,b:=M.b }
    | some _=>ae 339
def pV (P:Program) (a:vh) (t:TypeId) (m key x:AV) (M:St) (K:St→Prop):Prop :=
  match P.underlying t with
  | some (.map kt _)=>match m with
    | .mp id=>match M.o[id]? with
      | some (.own (some ks) sz cells hole)=>bC (zJ x&&!xV sz) ((∀ K':Option Nat→List AV→Prop,K' a.at_ a.ks→jY P kt key (jZ ks) fun kv r=>bC (BD P kt kv) (match r with
          | some i=>bC (Instr.sameBits 10000 ((ks[i]?.bind zD).getD (.bool false)) kv) (K' (some i) (ks.set i key))
          | none=>K' none (ks++[key])))∧GZ M id sz cells hole x K a.at_ a.ks)
      | _=>ae 340
    | _=>ae 341
  | _=>ae 342
def AZ (P:Program) (A:dh) (pl:bG) (o:Oper) (vs:List AV) (M:St) (k:AV→St→Prop):Prop :=
  match o8 A.own (keyOf o) with
  | none=>jV P pl o vs M k
  | some a=>match o.op,vs with
    | .load t _,[p]=>g8 M p fun id i=>qU P a t (AJ pl o) (cC pl.pk (o.dst.getD 0)) M id i k
    | .store t _ _,[p,v]=>g8 M p fun id i=>oU P t M id i v fun M'=>k .bad M'
    | .makeSlice t _ _,[l,c]=>qV P (cC pl.nw (o.dst.getD 0)) (AK pl.ix o.dst M.o.length) a t l c M k
    | .lookup t _ _ ok,[m,key]=>qW P a t m key ok M k
    | .mapUpdate t _ _ _,[m,key,x]=>pV P a t m key x M fun M'=>k .bad M'
    | .insert t _ _ _,[m,key,x]=>pV P a t m key x M fun M'=>k .bad M'
    | _,_=>ae 343
def nh (A:dh) (S:St) (id:Nat) (K:St→Prop):Prop :=
  match o8 A.own (id + 2000000) with
  | none=>gI S id K
  | some a=>match S.o[id]? with
    | some (.own ks sz cells (some (j,.mf k)))=>match S.o[k]? with
      | some (.arr true sz' rows)=>bC (Nat.beq sz' (sJ sz)&&!xV sz) (Nat.blt j cells.length=true∧(cells.set j (some rows)=a.cs∧eo [k] S fun S1=>bc (S1.o.set id (.own ks sz a.cs none)) fun o=>K { t:=S1.t,l:=S1.l,o:=o,b:=S1.b }))
      | _=>ae 320
    | some (.own ks sz cells (some (j,.mfx k)))=>match S.o[k]? with
      | some (.arr true sz' rows)=>bC (Nat.beq sz' (sJ sz)) (Nat.blt j cells.length=true∧(cells.set j (some rows)=a.cs∧eo [k] S fun S1=>bc (S1.o.set id (.own ks sz a.cs none)) fun o=>K { t:=S1.t,l:=S1.l,o:=o,b:=S1.b }))
      | _=>ae 320
    | some (.own ks sz cells (some (j,.nilsl)))=>Nat.blt j cells.length=true∧(cells.set j none=a.cs∧(bc (S.o.set id (.own ks sz a.cs none)) fun o=>K { t:=S.t,l:=S.l,o:=o,b:=S.b }))
    | _=>ae 321
def ul (A:dh):List Nat→St→(St→Prop)→Prop
  | [],S,K=>K S
  | id::ids,S,K=>nh A S id fun S'=>ul A ids S' K
def pW (A:dh) (S:St) (id:Nat) (K:St→Prop):Prop :=
  match o8 A.mpr (id + 2000000) with
  | none=>i3 S id K
  | some R=>match S.o[id]? with
    | some (.own (some ks) _ cells none)=>mg ks cells=R∧(bc (S.o.set id (.mapo true R)) fun o=>K { t:=S.t,l:=S.l,o:=o,b:=S.b })
    | _=>ae 344
def qX (A:dh):List Nat→St→(St→Prop)→Prop
  | [],S,K=>K S
  | id::ids,S,K=>pW A S id fun S'=>qX A ids S' K
def uo (A:dh) (pl:bG) (id:Nat) (S:St) (K:St→Prop):Prop :=
  match cC pl.cl id with
  | false=>K S
  | true=>ul A (zI S.o.length) S fun S1=>match cC pl.fr id with
    | false=>K S1
    | true=>qX A (zI S1.o.length) S1 K
def Ar (C:Ctx) (A:dh) (o:Oper) (vs:List AV) (M:St) (k:AV→St→Prop):Prop :=
  match o.op,vs with
  | .makeSlice t _ _,[l,c]=>match cC A.chk (keyOf o) with
    | true=>j8 C.P t l c M fun M' r=>k r M'
    | false=>j1 C o vs M k
  | .call c,.fn fid first cap::as=>match c.callee with
    | .value _=>bC (!(C.pure fid)&&(first++as++cap).all (rP 4)) (match o8 A.sto (keyOf o) with
      | some (r,o')=>(C.scall fid (first++as++cap) M.o fun r' o''=>r'=r∧o''=o')∧bC (bQ M.o o' 0).isEmpty (k r { t:=M.t,l:=M.l,o:=o',b:=M.b })
      | none=>C.scall fid (first++as++cap) M.o fun r o'=>bC (bQ M.o o' 0).isEmpty (k r { t:=M.t,l:=M.l,o:=o',b:=M.b }))
    | _=>ae 310
  | _,_=>EK C A o vs M k
def Dp (C:Ctx) (A:dh) (pl:bG) (o:Oper) (vs:List AV) (M:St) (k:AV→St→Prop):Prop :=
  match fp pl o with
  | true=>AZ C.P A pl o vs M k
  | false=>Ar C A o vs M k
def Ft (C:Ctx) (A:dh) (pl:bG) (o:Oper) (S:St) (K:St→Prop):Prop :=
  cV S o.op.operands.toList fun vs=>AZ C.P A pl o vs (cy S) fun r M=>br o.dst r (eK S M) K
def Dq (C:Ctx) (A:dh) (pl:bG) (o:Oper) (S:St) (K:St→Prop):Prop :=
  cV S o.op.operands.toList fun vs=>Dp C A pl o vs (cy S) fun r M=>br o.dst r (eK S M) K
def Fu (C:Ctx) (o:Oper) (S:St) (K:St→Prop):Prop :=
  cV S o.op.operands.toList fun vs=>F_ C o vs fun r=>br o.dst r S K
def l5 (A:dh) (o:Oper) (K:St→Prop) (S:St):Prop:=Fq A o.dst S fun S'=>Dm A (keyOf o) S' K
def Ga (C:Ctx) (A:dh) (pl:bG) (o:Oper) (S:St) (K:St→Prop):Prop :=
  match CM o with
  | 0=>Dn C A pl o S (l5 A o K)
  | 1=>Do C A o S (l5 A o K)
  | 2=>Fs C A o S (l5 A o K)
  | _=>EL C A pl o S (l5 A o K)
def Fv (C:Ctx) (A:dh) (pl:bG) (o:Oper) (S:St) (K:St→Prop):Prop :=
  match fp pl o with
  | true=>Ft C A pl o S (l5 A o K)
  | false=>Ga C A pl o S K
def yY (C:Ctx) (A:dh) (pl:bG) (o:Oper) (S:St) (K:St→Prop):Prop :=
  match eY pl o with
  | 0=>Dn C A pl o S (l5 A o K)
  | 1=>Do C A o S (l5 A o K)
  | 2=>Dq C A pl o S (l5 A o K)
  | 4=>match o.dst with
    | some d=>br o.dst (.ptr (.L d) 0 0) S K
    | none=>ae 217
  | 5=>Fu C o S (l5 A o K)
  | _=>match x4 pl o with
    | true=>ae 219
    | false=>EL C A pl o S (l5 A o K)
def Gb (op:BinOp):Bool :=
  match op with
  | .eql | .neq=>true
  | _=>false
def wA (op:BinOp):Bool :=
  match op with
  | .eql=>true
  | _=>false
def Fw (P:Program) (o:Oper) (S:St) (K:St→Prop):Prop :=
  match o.op with
  | .binOp op t x (.const (.slice none 0 0)) _=>match P.underlying t with
    | some (.slice _)=>cv S x fun a=>match a with
      | .sl rows=>bC (Gb op) ((rows=[]→br o.dst (.v (.bool (wA op))) S K)∧br o.dst (.v (.bool (!(wA op)))) S K)
      | _=>ae 460
    | _=>ae 461
  | _=>ae 462
def xF (C:Ctx) (A:dh) (pl:bG) (all:Array Oper):List Oper→St→(St→Prop)→Prop
  | [],S,K=>K S
  | o::rest,S,K =>
    match o.guard with
    | none=>match cC A.dem (keyOf o) with
      | true=>Fw C.P o S fun S'=>xF C A pl all rest S' K
      | false=>Fv C A pl o S fun S'=>xF C A pl all rest S' K
    | some (j,want) =>
      match pm all j with
      | none=>ae 218
      | some d=>fG d S fun b S1=>gsel b want (Fv C A pl o S1 fun S'=>xF C A pl all rest S' K) (br o.dst (.tup []) S1 fun S'=>xF C A pl all rest S' K)
def HQ (C:Ctx) (A:dh) (pl:bG) (all:Array Oper) (o:Oper) (S:St) (K:St→Prop):Prop :=
  match o.guard with
  | none=>bC (g9 pl all o S) (yY C A pl o S K)
  | some (j,want) =>
    match pm all j with
    | none=>ae 218
    | some d=>fG d S fun b S1=>gsel b want (bC (g9 pl all o S1) (yY C A pl o S1 K)) (br o.dst (.tup []) S1 K)
def GJ (C:Ctx) (A:dh) (pl:bG) (ai:Array Oper) (i:Nat) (S:St) (K:St→Prop):Prop :=
  match ai[i]? with
  | none=>ae 303
  | some o=>HQ C A pl ai o S K
def oT (C:Ctx) (A:dh) (pl:bG) (ai:Array Oper):PT→Option (St×Prop)→St→(St→Prop)→Prop
  | .done,m,S,K=>match m with
    | none=>K S
    | some (_,X)=>X
  | .go i t,m,S,K=>match m with
    | none=>GJ C A pl ai i S fun S'=>oT C A pl ai t none S' K
    | some (_,_)=>ae 305
  | .alt i t r,m,S,K=>match m with
    | none=>GJ C A pl ai i S fun S'=>oT C A pl ai t none S' fun S1=>oT C A pl ai r (some (S1,K S1)) S K
    | some (S1,X)=>GJ C A pl ai i S fun S'=>oT C A pl ai t none S' fun S2=>S2=S1∧oT C A pl ai r (some (S1,X)) S K
def nS (f:Nat→Option PT):List Nat→Option PT
  | []=>some .done
  | i::is=>match f i with
    | some t=>match nS f is with
      | some r=>some (.alt i t r)
      | none=>none
    | none=>none
def Iy:List Nat→Bool
  | [_,_] | [_,_,_] | [_,_,_,_]=>true
  | _=>false
def iX (pl:bG) (ai:Array Oper) (ws:List Nat):Nat→Nat→Array Bool→Option PT
  | 0,_,listed=>match Region.ready .any ai listed with
    | []=>some .done
    | _::_=>none
  | n + 1,a,listed =>
    match Region.ready .any ai listed with
    | []=>some .done
    | r::rs=>match mi pl ai ws listed (r::rs) with
      | some k=>match iX pl ai ws n a (listed.setIfInBounds k true) with | some t=>some (.go k t) | none=>none
      | none=>match rs with
        | []=>match iX pl ai ws n a (listed.setIfInBounds r true) with | some t=>some (.go r t) | none=>none
        | _::_=>match Iy (r::rs),a with
          | true,a + 1=>nS (fun i=>iX pl ai ws n a (listed.setIfInBounds i true)) (r::rs)
          | _,_=>none
def wB (pl:bG) (ai:Array Oper) (ws:List Nat):Nat→Array Bool→Option PT
  | 0,listed=>iX pl ai ws 0 6 listed
  | n + 1,listed=>match mj ai listed (Region.ready .any ai listed) with
    | some i=>match wB pl ai ws n (listed.setIfInBounds i true) with | some t=>some (.go i t) | none=>none
    | none=>iX pl ai ws (n + 1) 6 listed
def uq (pl:bG) (ai:Array Oper):Option PT :=
  match HA ai with
  | false=>none
  | true=>match pl.cl with
    | []=>iX pl ai (bR ai.toList []) ai.size 3 (Array.replicate ai.size false)
    | _::_=>wB pl ai (bR ai.toList []) ai.size (Array.replicate ai.size false)
def jI (pl:bG) (ord:List (Nat×PT)):Code→Bool
  | .region id ai true=>match o8 ord id,uq pl ai with
    | some is,some js=>An is js
    | _,_=>false
  | .seq a b=>jI pl ord a&&jI pl ord b
  | .cond _ a b=>jI pl ord a&&jI pl ord b
  | .block _ c=>jI pl ord c
  | .loop c=>jI pl ord c
  | _=>true
def nT:Code→Nat
  | .region id _ _=>id
  | .seq a _=>nT a
  | .cond _ a _=>nT a
  | .block _ c=>nT c
  | .loop c=>nT c
  | _=>0
def Ca (A:F7) (id:Nat) (S:St) (K:St→Prop):Prop :=
  match o8 A.wr id with
  | some L=>Dj L S K
  | none=>K S
def EM:Type:=Code→St→(Ex→St→Prop)→Prop
def ut (C:Ctx) (cd:EM) (A:F7) (pl:bG):Code→St→(Ex→St→Prop)→Prop
  | .skip,S,K=>K .nrm S
  | .region id ai draw,S,K =>
    match draw with
    | false=>xF C (B_ A id) pl ai ai.toList S fun S'=>uo (B_ A id) pl id S' fun S''=>Ca A id S'' (K .nrm)
    | true=>match o8 A.ord id with
      | some is=>bC (re pl ai) (uX C.P (cb ai.toList) S fun S1=>oT C (B_ A id) pl ai is none S1 fun S'=>jt (cb ai.toList) S' (uo (B_ A id) pl id S' fun S''=>Ca A id S'' (K .nrm)))
      | none=>ae 440
  | .seq a b,S,K=>ut C cd A pl a S fun e S'=>match e with
    | .nrm=>match o8 A.cut (nT b) with
      | some (W,L,e1,S1)=>Dj L (wk W S') fun S2=>cd b S2 (fun e' S3=>e'=e1∧S3=S1)∧K e1 S1
      | none=>ut C cd A pl b S' K
    | .ex i=>K (.ex i) S'
    | .ret=>K .ret S'
  | .cond c x y,S,K=>l9 c S fun b S'=>match b with
    | true=>ut C cd A pl x S' K
    | false=>ut C cd A pl y S' K
  | .block id c,S,K=>ut C cd A pl c S fun e S'=>match e with
    | .ex i=>match Nat.beq i id with | true=>K .nrm S' | false=>K (.ex i) S'
    | .nrm=>K .nrm S'
    | .ret=>K .ret S'
  | .loop c,S,K=>match o8 A.lps (nT c) with
    | some (W,L,e,S1)=>Dj L (wk W S) fun S2=>(C.loop pl c S2 fun e' S'=>e'=e∧S'=S1)∧K e S1
    | none=>C.loop pl c S K
  | .exit id,S,K=>K (.ex id) S
  | .ret,S,K=>K .ret S
  | _,_,_=>ae 119
def sub:Code→List Nat→Code
  | c,[]=>c
  | .seq a _,0::p=>sub a p
  | .seq _ b,_::p=>sub b p
  | .cond _ a _,0::p=>sub a p
  | .cond _ _ b,_::p=>sub b p
  | .block _ c,_::p=>sub c p
  | .loop c,_::p=>sub c p
  | c,_=>c
def cL (P:Program) (f:Nat):Code :=
  match P.funcs[f]? with
  | some fn=>fn.body.getD .skip
  | none=>.skip
def dj (S S':St):Prop:=∀ (G:Gh) (E:Env) (a:Act) (w:World),ah G pn E S w→TR E S.t a→∃ E',ah G pn E' S' w∧TR E' S'.t a
def Gc:Ex→Nat
  | .nrm=>0
  | .ret=>1
  | .ex i=>i + 2
def Gd (C:Ctx) (cd:EM) (A:F7) (pl:bG) (we:List (Nat×(Wk×Le))) (c:Code) (S:St) (K:Ex→St→Prop):Prop :=
  ut C cd A pl c S fun e S'=>match o8 we (Gc e) with
    | some (W,L)=>Dj L (wk W S') (K e)
    | none=>K e S'
def If:List (Nat×AV)→Nat→Nat→List AV
  | _,_,0=>[]
  | xs,i,n + 1=>(match o8 xs i with | some a=>a | none=>.bad)::If xs (i + 1) n
def e5 (n:Nat) (ts:List (Nat×AV)) (l:List (Nat×List AV)) (o:List Ob) (b:Nat):St:={ t:=If ts 0 n,l:=l,o:=o,b:=b }
theorem dj.refl (S:St):dj S S:=fun _ E _ _ h k=>⟨E,h,k⟩
theorem dj.trans {S S' S'':St} (h:dj S S') (k:dj S' S''):dj S S'':=fun G E a w hM ht=>by
  obtain ⟨E1,h1,h2⟩:=h G E a w hM ht
  exact k G E1 a w h1 h2
theorem eg.refl (a:AV):eg a a:=fun _ _ h=>h
theorem eg.trans {a b c:AV} (h:eg a b) (k:eg b c):eg a c:=fun _ _ hv=>k _ _ (h _ _ hv)
theorem eg.bad (a:AV):eg a .bad:=fun _ _ _=>.bad _ _
theorem eg.nil:eg .nilsl (.sl []):=fun E u h=>by cases h; exact .sln E
theorem eg.esl:eg .esl (.sl []):=fun E u h=>by
  cases h with
  | esln=>exact .sln E
  | esl _ a=>exact .sle E a 0
theorem dQ.refl (r:List AV):dQ r r:=⟨rfl,fun _ _ _ h k=>by rw [h] at k; cases k; exact .refl _⟩
theorem dQ.nil:dQ [] []:=.refl _
theorem dQ.cons {a b:AV} {r r':List AV} (h:eg a b) (k:dQ r r'):dQ (a::r) (b::r') :=
  ⟨by simp [k.1],fun i x y h1 h2=>by
    cases i with
    | zero=>simp at h1 h2; subst h1 h2; exact h
    | succ i=>exact k.2 i x y (by simpa using h1) (by simpa using h2)⟩
theorem dQ.vrs {r r':List AV} {E:Env} {us:List Value} (h:dQ r r') (hv:bY E r us):bY E r' us :=
  ⟨by rw [← h.1]; exact hv.1,fun m c u h1 h2=>by
    have hm:m<r.length:=by rw [h.1]; exact (List.getElem?_eq_some_iff.1 h1).1
    exact h.2 m _ c (List.getElem?_eq_getElem hm) h1 _ _ (hv.2 m _ u (List.getElem?_eq_getElem hm) h2)⟩
theorem eg.agg {r r':List AV} (h:dQ r r'):eg (.agg r) (.agg r'):=fun E u hv=>by
  obtain ⟨us,rfl,h1⟩:=hv.aggI
  exact bY.aggV (h.vrs h1)
theorem eg.tup {r r':List AV} (h:dQ r r'):eg (.tup r) (.tup r'):=fun E u hv=>by
  obtain ⟨us,rfl,h1⟩:=hv.tupI
  have:=h.vrs h1
  exact .tup us (by simpa using this.1) (fun m c u h1 h2=>this.2 m c u h1 (by simpa using h2))
theorem eg.fptr {r r':List AV} {j:Nat} (h:dQ r r'):eg (.fptr r j) (.fptr r' j):=fun E u hv=>by
  cases hv with
  | fptr j us h1 h2 h3 h4 =>
    have:=h.vrs (E:=E.fz) (us:=us) ⟨h1.symm,h2⟩
    exact .fptr j us this.1.symm this.2 h3 h4
theorem iJ.refl (r:List (List AV)):iJ r r:=⟨rfl,fun _ _ _ h k=>by rw [h] at k; cases k; exact .refl _⟩
theorem iJ.nil:iJ [] []:=.refl _
theorem iJ.cons {a b:List AV} {r r':List (List AV)} (h:dQ a b) (k:iJ r r'):iJ (a::r) (b::r') :=
  ⟨by simp [k.1],fun i x y h1 h2=>by
    cases i with
    | zero=>simp at h1 h2; subst h1 h2; exact h
    | succ i=>exact k.2 i x y (by simpa using h1) (by simpa using h2)⟩
theorem iJ.app {a b r r':List (List AV)} (h:iJ a b) (k:iJ r r'):iJ (a++r) (b++r'):=by
  induction a generalizing b with
  | nil =>
    have:b=[]:=List.eq_nil_of_length_eq_zero h.1.symm
    subst this
    exact k
  | cons x a ih =>
    cases b with
    | nil=>exact absurd h.1 (by simp)
    | cons y b=>exact .cons (h.2 0 x y rfl rfl) (ih ⟨by simpa using h.1,fun i p q h1 h2=>h.2 (i + 1) p q (by simpa using h1) (by simpa using h2)⟩)
theorem dQ.app {a b r r':List AV} (h:dQ a b) (k:dQ r r'):dQ (a++r) (b++r'):=by
  induction a generalizing b with
  | nil =>
    have:b=[]:=List.eq_nil_of_length_eq_zero h.1.symm
    subst this
    exact k
  | cons x a ih =>
    cases b with
    | nil=>exact absurd h.1 (by simp)
    | cons y b=>exact .cons (h.2 0 x y rfl rfl) (ih ⟨by simpa using h.1,fun i p q h1 h2=>h.2 (i + 1) p q (by simpa using h1) (by simpa using h2)⟩)
theorem iJ.flat {r r':List (List AV)} (h:iJ r r'):dQ r.flatten r'.flatten:=by
  induction r generalizing r' with
  | nil =>
    have:r'=[]:=List.eq_nil_of_length_eq_zero h.1.symm
    subst this
    exact .refl _
  | cons x a ih =>
    cases r' with
    | nil=>exact absurd h.1 (by simp)
    | cons y b =>
      have h1:=h.2 0 x y rfl rfl
      have h2:=ih (r':=b) ⟨by simpa using h.1,fun i p q h1 h2=>h.2 (i + 1) p q (by simpa using h1) (by simpa using h2)⟩
      rw [List.flatten_cons,List.flatten_cons]
      have app:∀ {a b r r':List AV},dQ a b→dQ r r'→dQ (a++r) (b++r'):=by
        intro a b r r' h k
        induction a generalizing b with
        | nil =>
          have:b=[]:=List.eq_nil_of_length_eq_zero h.1.symm
          subst this
          exact k
        | cons x a ih =>
          cases b with
          | nil=>exact absurd h.1 (by simp)
          | cons y b=>exact .cons (h.2 0 x y rfl rfl) (ih ⟨by simpa using h.1,fun i p q h1 h2=>h.2 (i + 1) p q (by simpa using h1) (by simpa using h2)⟩)
      exact app h1 h2
theorem iJ.lens {r r':List (List AV)} {sz:Nat} (h:iJ r r') (hl:∀ x∈r,x.length=sz):∀ x∈r',x.length=sz:=by
  intro x hx
  obtain ⟨i,hi⟩:=List.getElem?_of_mem hx
  have hlt:i<r.length:=by rw [h.1]; exact (List.getElem?_eq_some_iff.1 hi).1
  rw [← (h.2 i _ x (List.getElem?_eq_getElem hlt) hi).1]
  exact hl _ (List.getElem_mem hlt)
theorem eg.sl {r r':List (List AV)} (h:iJ r r'):eg (.sl r) (.sl r'):=fun E u hv=>by
  cases hv with
  | sln =>
    have:r'=[]:=List.eq_nil_of_length_eq_zero h.1.symm
    subst this
    exact .sln E
  | sle _ a cap =>
    have:r'=[]:=List.eq_nil_of_length_eq_zero h.1.symm
    subst this
    exact .sle E a cap
  | sl us h1 h2 h3 h4 h5 h6 h7 =>
    have hf:=h.flat
    have:=hf.vrs (E:=E.fz) (us:=us) ⟨h3.symm,h4⟩
    rw [h.1]
    exact .sl us h1 (h.lens h2) this.1.symm this.2 h5 h6 (by rw [← h.1]; exact h7)
theorem A1 {ts:List Nat}:∀ {t:List AV} {i j:Nat} {c:AV},(EH ts i t)[j]?=some c→c=.bad∨t[j]?=some c
  | [],_,_,_,h=>by simp [EH] at h
  | x::xs,i,0,c,h=>by
    simp only [EH,List.getElem?_cons_zero,Option.some.injEq] at h
    split at h
    · exact .inr (by rw [← h]; rfl)
    · exact .inl h.symm
  | x::xs,i,j + 1,c,h=>by
    simp only [EH,List.getElem?_cons_succ] at h
    rw [List.getElem?_cons_succ]
    exact A1 h
theorem A2 {ts:List Nat}:∀ {t:List AV} {i:Nat},(EH ts i t).length=t.length
  | [],_=>rfl
  | x::xs,i=>by simp [EH,A2]
theorem Dr (ts:List Nat) (S:St):dj S { t:=EH ts 0 S.t,l:=S.l,o:=S.o,b:=S.b }:=fun _ E _ _ hM ht =>
  ⟨E,hM.congr rfl rfl rfl,by rw [A2]; exact ht.len,fun n c u h1 h2=>by
    rcases A1 h1 with h | h
    · rw [h]; exact .bad _ _
    · exact ht.val n c u h h2,ht.df,ht.gt⟩
theorem xG (d:Nat) (S:St):dj S (dU d S):=fun G E a w hM ht=>by
  obtain ⟨E1,h1,h2,_⟩:=ox hM ht d rfl
  exact ⟨E1,h1,h2⟩
theorem pX:∀ (ds:List Nat) (S:St),dj S (xz ds S)
  | [],S=>.refl S
  | d::ds,S=>(xG d S).trans (pX ds _)
theorem Cb (i:Nat) (S:St):dj S (cO i S):=fun _ _ _ _ hM ht =>
  let ⟨h1,h2⟩:=ru hM ht i
  ⟨_,h1,h2⟩
theorem uu:∀ (ds:List Nat) (S:St),dj S (Di ds S)
  | [],S=>.refl S
  | d::ds,S=>(Cb d S).trans (uu ds _)
theorem mO:∀ {os:List Ob} {i:Nat} {x:Ob},xA os=true→os[i]?=some x→x=.dead
  | [],i,x,_,h=>by simp at h
  | .dead::os,0,x,_,h=>by simp at h; exact h.symm
  | .dead::os,i + 1,x,h,h1=>mO (os:=os) (i:=i) h (by simpa using h1)
  | .arr _ _ _::os,_,_,h,_=>by cases h
  | .mapo _ _::os,_,_,h,_=>by cases h
  | .own _ _ _ _::os,_,_,h,_=>by cases h
theorem Cc (n:Nat) (S:St):dj S (F4 n S):=fun _ E _ _ hM ht=>by
  unfold F4
  split
  · rename_i h
    rw [Bool.and_eq_true] at h
    have hb:=Nat.le_of_ble_eq_true h.2
    have hbl:=hM.bl
    refine ⟨E,⟨hM.hp,hM.os,hM.tape,hM.output,hM.size,hM.keep,hM.F0,hM.Flt,hM.Fnew,hM.own,hM.inj,hM.loc,fun id=>?_,fun id hid=>?_,?_,hM.szs,hM.pk,fun id=>?_⟩,ht⟩
    · have h0:=hM.obj id
      show eW E (S.o.take n)[id]? _
      rw [List.getElem?_take]
      split
      · exact h0
      · rename_i hn
        cases hx:S.o[id]? with
        | none=>rw [hx] at h0; exact h0
        | some x =>
          have:x=.dead:=mO h.1 (i:=id - n) (by rw [List.getElem?_drop]; rw [show n + (id - n)=id by omega]; exact hx)
          rw [hx,this] at h0
          revert h0
          cases E.mu (.O id) with
          | none=>exact fun _=>trivial
          | some _=>exact fun h=>h.elim
    · show (S.o.take n)[id]?=some .dead∨_
      have hid':id<S.b:=hid
      rw [List.getElem?_take,if_pos (by omega)]
      exact hM.old id hid
    · show S.b≤(S.o.take n).length
      rw [List.length_take]
      omega
    · have h0:=hM.ow id
      show dv E id (S.o.take n)[id]?
      rw [List.getElem?_take]
      split
      · exact h0
      · rename_i hn
        cases hx:S.o[id]? with
        | none=>rw [hx] at h0; exact h0
        | some x =>
          have:x=.dead:=mO h.1 (i:=id - n) (by rw [List.getElem?_drop]; rw [show n + (id - n)=id by omega]; exact hx)
          rw [hx,this] at h0
          exact h0
  · exact ⟨E,hM,ht⟩
theorem uv {G:Gh} {E:Env} {S:St} {w:World} (hM:ah G pn E S w):E.mu (.O S.o.length)=none:=by
  have:=hM.obj S.o.length
  rw [List.getElem?_eq_none (Nat.le_refl _)] at this
  revert this
  cases E.mu (.O S.o.length) with
  | none=>exact fun _=>rfl
  | some _=>exact fun h=>h.elim
theorem yZ {G:Gh} {E:Env} {S:St} {w:World} (hM:ah G pn E S w) (sz:Nat) (t:List AV):ah G pn ⟨E.F,aF E.mu (.O S.o.length) .virt,E.h⟩ { t:=t,l:=S.l,o:=S.o++[.arr true sz []],b:=S.b } w:=by
  have hbl:=hM.bl
  refine hM.addkey' (key:=.O S.o.length) (mv:=.virt) (fun _ _=>rfl) (fun _ h=>by cases h) (uv hM) (fun _ _ _ _ h=>by cases h) (fun _ _=>rfl) (fun id hid=>?_) rfl ?_ (fun id h=>?_) (fun _ h=>by cases h) (fun id h=>?_) ?_
  · show (S.o++[_])[id]?=_
    by_cases h:id<S.o.length
    · rw [List.getElem?_append_left h]
    · have hne:id≠S.o.length:=fun e=>hid (by rw [e])
      rw [List.getElem?_eq_none (by simp; omega),List.getElem?_eq_none (by omega)]
  · show S.b≤(S.o++[_]).length
    simp
    omega
  · cases h
    exact hbl
  · cases h
    show eW _ (S.o++[_])[S.o.length]? _
    rw [List.getElem?_append_right (Nat.le_refl _),Nat.sub_self]
    rfl
  · exact hM.ow_push rfl rfl
theorem oV:∀ (ps:List (Nat×Nat)) (S:St),dj S (yX ps S)
  | [],S=>.refl S
  | (d,sz)::ps,S=>by
    unfold yX
    split
    · rename_i hd
      refine dj.trans ?_ (oV ps _)
      intro G E a w hM ht
      refine ⟨_,yZ hM sz _,?_⟩
      have hle:LE E ⟨E.F,aF E.mu (.O S.o.length) .virt,E.h⟩:=iE (uv hM)
      refine ⟨by simpa using ht.len,fun n c u h1 h2=>?_,ht.df,ht.gt.mono hle⟩
      have h1':(S.t.set d (.mf S.o.length))[n]?=some c:=h1
      rw [List.getElem?_set] at h1'
      split at h1'
      · rename_i e
        subst e
        split at h1'
        · cases h1'
          have hv:=ht.val d _ u hd h2
          cases hv
          exact .mfn (by show aF _ _ _ _=_; unfold aF; rw [if_pos rfl])
        · cases h1'
      · exact (ht.val n c u h1' h2).mono hle
    · exact oV ps S
theorem lF:∀ (ps:List (Nat×Nat×Nat)) (S:St),dj S (wy ps S)
  | [],S=>.refl S
  | (d,j,sz)::ps,S=>by
    unfold wy
    split
    · rename_i row hd
      split
      · rename_i hj
        refine dj.trans ?_ (lF ps _)
        intro G E a w hM ht
        have hle:LE E ⟨E.F,aF E.mu (.O S.o.length) .virt,E.h⟩:=iE (uv hM)
        refine ⟨_,?_,ht.mono hle⟩
        have h0:=yZ hM sz S.t
        refine ⟨h0.hp,h0.os,h0.tape,h0.output,h0.size,h0.keep,h0.F0,h0.Flt,h0.Fnew,h0.own,h0.inj,fun e=>?_,h0.obj,h0.old,h0.bl,h0.szs,(fun _ _ h=>by cases h),h0.ow⟩
        have h1:=h0.loc e
        show f0 pn _ (aJ (pi S.l d (row.set j (.mf S.o.length))) e) e
        rw [h_ hd]
        split
        · rename_i e'
          subst e'
          have h1':f0 pn ⟨E.F,aF E.mu (.O S.o.length) .virt,E.h⟩ (aJ S.l d) d:=h1
          rw [hd] at h1'
          rcases h1' with ⟨b,h2,h3,h4,us,ty,h5,h6,h7⟩ | ⟨_,h2,_⟩
          · refine .inl ⟨b,by simpa using h2,by simpa using h3,by simp,us,ty,h5,by simpa using h6,fun m c hc=>?_⟩
            have hf:[row.set j (.mf S.o.length)].flatten=row.set j (.mf S.o.length):=by simp
            have hf0:[row].flatten=row:=by simp
            rw [hf,List.getElem?_set] at hc
            split at hc
            · rename_i e'
              subst e'
              split at hc
              · cases hc
                obtain ⟨u,hu,hv⟩:=h7 j .nilsl (by rw [hf0]; exact hj)
                refine ⟨u,hu,?_⟩
                cases hv
                exact .mfn (by show aF _ _ _ _=_; unfold aF; rw [if_pos rfl])
              · cases hc
            · exact h7 m c (by rw [hf0]; exact hc)
          · cases h2
        · exact h1
      · exact lF ps S
    · exact lF ps S
theorem A3 {G:Gh} {E:Env} {S:St} {w:World} {a:Act} (hM:ah G pn E S w) (ht:TR E S.t a) (ids:List Nat):LE (E.fd ids) ⟨FD E ids,ic ids E.mu,E.h⟩∧ah G pn ⟨FD E ids,ic ids E.mu,E.h⟩ (dV ids S) w∧TR ⟨FD E ids,ic ids E.mu,E.h⟩ (dV ids S).t a:=by
  obtain ⟨hS1,ht1⟩:=kn (ids:=ids) hM ht
  obtain ⟨hle2,hS2⟩:=hS1.freeze (F':=FD E ids) (fun b h=>.inl h) (fun b h=>by
    rcases h with h | ⟨id,hid,o',s,n,hm⟩
    · exact .inl h
    · obtain ⟨h1,h2,h3⟩:=hM.own _ _ _ _ _ hm
      refine .inr ⟨h2,h3,fun k o'' s' n' h'=>?_⟩
      obtain ⟨h4,h5⟩:=gp h'
      exact h5 id hid (hM.inj _ _ _ _ _ _ _ _ _ h4 hm))
  exact ⟨⟨fun _ h=>h,fun _ _ _ h=>(by cases h),fun _ _=>rfl,fun _ _ _ _ _ _ h=>(by cases h)⟩,hS2,ht1.mono hle2⟩
theorem Cd {S:St} {d j:Nat} {row:List AV} {x y:AV} (hr:aJ S.l d=some row) (hj:row[j]?=some x) (hy:zC S.o 6 x=some y):dj S (F5 (cX S.o 6 x) d j y S):=by
  intro G E a w hM ht
  obtain ⟨hle,hS2,ht2⟩:=A3 hM ht (cX S.o 6 x)
  unfold F5
  split
  · rename_i row' hr'
    refine ⟨_,⟨hS2.hp,hS2.os,hS2.tape,hS2.output,hS2.size,hS2.keep,hS2.F0,hS2.Flt,hS2.Fnew,hS2.own,hS2.inj,fun e=>?_,hS2.obj,hS2.old,hS2.bl,hS2.szs,(fun _ _ h=>by cases h),hS2.ow⟩,ht2⟩
    show f0 pn _ (aJ (pi (dV (cX S.o 6 x) S).l d (row'.set j y)) e) e
    rw [h_ hr']
    split
    · rename_i e'
      subst e'
      have l1:=hM.loc d
      have l2:=hS2.loc d
      rw [hr] at l1
      rw [hr'] at l2
      rcases l1 with ⟨b,h2,h3,h4,us,ty,h5,h6,h7⟩ | ⟨_,h2,_⟩
      · rcases l2 with ⟨b',k2,k3,k4,us',ty',k5,k6,k7⟩ | ⟨_,k2,_⟩
        · have k2':=(gp k2).1
          rw [h2] at k2'
          injection k2' with k2'
          injection k2' with e1 _ _ _
          subst e1
          have k5':E.h[b]?=_:=k5
          rw [h5] at k5'
          cases k5'
          refine .inl ⟨b,by simpa using k2,by simpa using k3,by simp,us,ty,k5,by simpa using k6,fun m c hc=>?_⟩
          have hf:[row'.set j y].flatten=row'.set j y:=by simp
          have hf0:[row'].flatten=row':=by simp
          rw [hf,List.getElem?_set] at hc
          split at hc
          · rename_i e'
            subst e'
            split at hc
            · cases hc
              have hf1:[row].flatten=row:=by simp
              obtain ⟨u,hu,hv⟩:=h7 j x (by rw [hf1]; exact hj)
              exact ⟨u,hu,(fI hM 6 hy hv (ids:=cX S.o 6 x) (fun _ h=>h)).mono hle⟩
            · cases hc
          · exact k7 m c (by rw [hf0]; exact hc)
        · cases k2
      · cases h2
    · exact hS2.loc e
  · exact ⟨_,hS2,ht2⟩
theorem gr:∀ (ds:List Nat) (S:St),dj S (vg ds S)
  | [],S=>.refl S
  | d::ds,S=>by
    unfold vg
    split
    · split
      · rename_i row hr
        split
        · rename_i x hx
          split
          · rename_i y hy
            exact (Cd hr hx hy).trans (gr ds _)
          · exact gr ds S
        · exact gr ds S
      · exact gr ds S
    · split
      · rename_i x hx
        split
        · rename_i y hy
          refine dj.trans ?_ (gr ds _)
          intro G E a w hM ht
          obtain ⟨hle,hS2,ht2⟩:=A3 hM ht (cX S.o 6 x)
          refine ⟨_,hS2.congr rfl rfl rfl,by simpa using ht2.len,fun n c u h1 h2=>?_,ht2.df,ht2.gt⟩
          have h1':((dV (cX S.o 6 x) S).t.set d y)[n]?=some c:=h1
          rw [List.getElem?_set] at h1'
          split at h1'
          · rename_i e
            subst e
            split at h1'
            · cases h1'
              exact (fI hM 6 hy (ht.val d _ u hx h2) (ids:=cX S.o 6 x) (fun _ h=>h)).mono hle
            · cases h1'
          · exact ht2.val n c u h1' h2
        · exact gr ds S
      · exact gr ds S
theorem Ds (W:Wk) (S:St):dj S (HP W S):=by
  unfold HP
  exact (Dr W.ts S).trans ((pX W.ls _).trans ((uu _ _).trans ((Cc _ _).trans ((oV _ _).trans (lF _ _)))))
theorem ni (W:Wk) (S:St):dj S (wk W S):=(gr W.fz S).trans (Ds W _)
theorem y_:∀ {xs:List (Nat×AV)} {S:St} {K:St→Prop},F6 xs S K→∃ S',dj S S'∧K S'
  | [],S,K,h=>⟨S,.refl S,h⟩
  | (d,v)::xs,S,K,h=>by
    obtain ⟨a,ha,hl,h⟩:=b4.1 h
    rw [dH] at h
    obtain ⟨S',h1,h2⟩:=y_ h
    refine ⟨S',dj.trans ?_ h1,h2⟩
    intro G E act w hM ht
    refine ⟨E,hM.congr rfl rfl rfl,by simpa using ht.len,fun n c u h1 h2=>?_,ht.df,ht.gt⟩
    have h1':(S.t.set d v)[n]?=some c:=h1
    rw [List.getElem?_set] at h1'
    split at h1'
    · rename_i e
      subst e
      split at h1'
      · cases h1'
        exact hl _ _ (ht.val d _ u ha h2)
      · cases h1'
    · exact ht.val n c u h1' h2
theorem za:∀ {xs:List (Nat×List AV)} {S:St} {K:St→Prop},EI xs S K→∃ S',dj S S'∧K S'
  | [],S,K,h=>⟨S,.refl S,h⟩
  | (d,r)::xs,S,K,h=>by
    unfold EI at h
    split at h
    · rename_i row hd
      obtain ⟨hl,h⟩:=h
      rw [gL] at h
      obtain ⟨S',h1,h2⟩:=za h
      refine ⟨S',dj.trans ?_ h1,h2⟩
      intro G E act w hM ht
      refine ⟨E,?_,ht⟩
      refine ⟨hM.hp,hM.os,hM.tape,hM.output,hM.size,hM.keep,hM.F0,hM.Flt,hM.Fnew,hM.own,hM.inj,fun e=>?_,hM.obj,hM.old,hM.bl,hM.szs,(fun _ _ h=>by cases h),hM.ow⟩
      have h1:=hM.loc e
      show f0 pn _ (aJ (pi S.l d r) e) e
      rw [h_ hd]
      split
      · rename_i e'
        subst e'
        rw [hd] at h1
        rcases h1 with ⟨b,h2,h3,h4,us,ty,h5,h6,h7⟩ | ⟨_,h2,_⟩
        · refine .inl ⟨b,by rw [← hl.1]; exact h2,by rw [← hl.1]; exact h3,by simp,us,ty,h5,by rw [← hl.1]; exact h6,fun m c hc=>?_⟩
          have hf:[r].flatten=r:=by simp
          have hf0:[row].flatten=row:=by simp
          rw [hf] at hc
          have hm:m<row.length:=by rw [hl.1]; exact (List.getElem?_eq_some_iff.1 hc).1
          obtain ⟨u,hu,hv⟩:=h7 m _ (by rw [hf0]; exact List.getElem?_eq_getElem hm)
          exact ⟨u,hu,hl.2 m _ c (List.getElem?_eq_getElem hm) hc _ _ hv⟩
        · cases h2
      · exact h1
    · exact False.elim h
theorem zb:∀ {xs:List (Nat×List (List AV))} {S:St} {K:St→Prop},EJ xs S K→∃ S',dj S S'∧K S'
  | [],S,K,h=>⟨S,.refl S,h⟩
  | (i,R)::xs,S,K,h=>by
    unfold EJ at h
    split at h
    · rename_i fl sz rows hi
      obtain ⟨hl,h⟩:=h
      rw [ax] at h
      obtain ⟨S',h1,h2⟩:=zb h
      refine ⟨S',dj.trans ?_ h1,h2⟩
      intro G E act w hM ht
      refine ⟨E,?_,ht⟩
      refine ⟨hM.hp,hM.os,hM.tape,hM.output,hM.size,hM.keep,hM.F0,hM.Flt,hM.Fnew,hM.own,hM.inj,hM.loc,fun id=>?_,fun id hid=>?_,by show S.b≤(S.o.set _ _).length; rw [List.length_set]; exact hM.bl,hM.szs,hM.pk,fun id=>?_⟩
      · have h1:=hM.obj id
        show eW E (S.o.set i _)[id]? _
        rw [List.getElem?_set]
        split
        · rename_i e
          subst e
          rw [if_pos (List.getElem?_eq_some_iff.1 hi).1]
          rw [hi] at h1
          revert h1
          cases E.mu (.O i) with
          | none=>exact fun h=>h
          | some mv =>
            cases mv with
            | virt =>
              intro h
              have h:rows=[]:=h
              subst h
              exact List.eq_nil_of_length_eq_zero hl.1.symm
            | blk b o s n =>
              rintro ⟨⟨h1,h2⟩,h3,h4,us,ty,h5,h6,h7⟩
              refine ⟨⟨h1,by rw [← hl.1]; exact h2⟩,h3,hl.lens h4,us,ty,h5,by rw [← hl.1]; exact h6,fun m c hc=>?_⟩
              have hf:=hl.flat
              have hm:m<rows.flatten.length:=by rw [hf.1]; exact (List.getElem?_eq_some_iff.1 hc).1
              obtain ⟨u,hu,hv⟩:=h7 m _ (List.getElem?_eq_getElem hm)
              exact ⟨u,hu,hf.2 m _ c (List.getElem?_eq_getElem hm) hc _ _ hv⟩
        · exact h1
      · have h1:=hM.old id hid
        show (S.o.set i _)[id]?=some .dead∨_
        rw [List.getElem?_set]
        split
        · rename_i e
          subst e
          rcases h1 with h1 | h1
          · rw [hi] at h1; cases h1
          · exact .inr h1
        · exact h1
      · have h1:=hM.ow id
        show dv E id (S.o.set i _)[id]?
        rw [List.getElem?_set]
        split
        · rename_i e
          subst e
          rw [if_pos (List.getElem?_eq_some_iff.1 hi).1]
          rw [hi] at h1
          exact h1
        · exact h1
    · exact False.elim h
theorem j_ {L:Le} {S:St} {K:St→Prop} (h:Dj L S K):∃ S',dj S S'∧K S':=by
  obtain ⟨S1,h1,h⟩:=y_ h
  obtain ⟨S2,h2,h⟩:=za h
  obtain ⟨S3,h3,h⟩:=zb h
  exact ⟨S3,h1.trans (h2.trans h3),h⟩
structure uw (C:Ctx):Prop where
  det:fK C
theorem aw.mono2 {α β:Type} {X:(α→β→Prop)→Prop} (h:ar X) {K K':α→β→Prop} (hx:X K) (hk:∀ r s,K r s→K' r s):X K':=by
  obtain ⟨r,s,h1,h2⟩:=h _ hx
  exact h2 _ (hk r s h1)
theorem aw.mono {α:Type} {X:(α→Prop)→Prop} (h:aw X) {K K':α→Prop} (hx:X K) (hk:∀ r,K r→K' r):X K':=by
  obtain ⟨r,h1,h2⟩:=h K hx
  exact h2 _ (hk r h1)
theorem ar.mono {α β:Type} {X:(α→β→Prop)→Prop} (h:ar X) {K K':α→β→Prop} (hx:X K) (hk:∀ a b,K a b→K' a b):X K':=by
  obtain ⟨a,b,h1,h2⟩:=h K hx
  exact h2 _ (hk a b h1)
theorem Ce {op:BinOp} {x y:Value} {K:Value→Prop} (h:Dk op x y K):sL op x y K:=by
  unfold Dk at h
  unfold sL
  split at h <;> first
    | exact ak h.1 h.2
    | exact False.elim h
section
variable {C:Ctx} {A:dh} {pl:bG} {o:Oper}
theorem Cf {op:BinOp} {t:TypeId} {x y:AV} {k:AV→Prop} (h:Dl C A o op t x y k):zH C.P op t x y k:=by
  unfold Dl at h
  split at h
  · rename_i a b
    show vK C.P op t a b k
    unfold vK
    split at h
    · rename_i hn
      rw [hn]
      dsimp only
      split at h
      · exact h
      · rename_i a b hne
        split
        · exact (hne _ _ rfl rfl).elim
        · exact Ce h
    · rename_i c hc
      rw [hc]
      exact h
  · rename_i as bs
    show (match rQ as,rQ bs with
    | some xs,some ys =>
      match bz C.P op t xs ys with
      | some (.bool b)=>k (.v (.bool b))
      | _=>ae 226
    | _,_=>ae 227)
    split at h
    · rename_i xs ys h1 h2
      try rw [h1,h2]
      try dsimp only
      split at h
      · rw [h.1]
        exact h.2
      · exact False.elim h
    · exact False.elim h
  · exact False.elim h
theorem zd {t:TypeId} {x ix:AV} {k:AV→Prop} (h:xB C A o t x ix k):od C.P t x ix k:=by
  unfold xB at h
  unfold od
  refine aw.mono aZ h (fun i h'=>?_)
  clear h
  split at h'
  · rename_i s hu
    rw [hu]
    dsimp only
    split at h'
    · rw [h'.1]
      dsimp only
      have h2:=h'.2.2
      rw [h'.2.1] at h2
      exact h2
    · exact False.elim h'
  · rename_i len e cs hu
    rw [hu]
    dsimp only
    have h:=h'
    split at h
    · rename_i inf hi
      rw [hi]
      exact ak h.1 h.2
    · exact False.elim h
  · exact False.elim h'
theorem Dt {vs:List AV} {k:AV→Prop} (h:F8 C A pl o vs k):pop C pl o vs k:=by
  unfold F8 at h
  split at h
  · exact h
  · split at h
    · rename_i ho
      unfold pop
      rw [ho]
      exact Cf h
    · rename_i ho
      unfold pop
      rw [ho]
      exact zd h
    · exact False.elim h
theorem nj {len cap:Nat} {lo hi mx:Option Int} {k:Nat→Nat→Nat→Prop} (h:wz len cap lo hi mx k):qu len cap lo hi mx k:=by
  unfold wz at h
  unfold qu
  split at h <;> first
    | exact h
    | exact ak h.1 h.2
    | exact False.elim h
theorem xH {mx hi:Option Int} {k:Bool→Prop} (h:HC mx hi k):k (d6 mx&&d6 hi):=by
  cases mx with
  | none=>exact h
  | some m =>
    obtain ⟨h1,h2⟩:=h
    rw [h1]
    exact h2
theorem gu {t:TypeId} {x:AV} {lo hi mx:Option Int} {S:St} {k:AV→Prop} (h:j7 C t x lo hi mx S k):g7 C.P t x lo hi mx S k:=by
  unfold j7 at h
  unfold g7
  split at h
  · rename_i hu
    rw [hu]
    dsimp only
    split at h
    · exact nj h
    · exact False.elim h
  · rename_i e hu
    rw [hu]
    dsimp only
    split at h
    · rename_i i hi
      rw [hi]
      dsimp only
      obtain ⟨h0,h⟩:=ac h
      refine ak h0 ?_
      split at h
      · have h2:=xH h.2
        rw [Bool.and_comm (d6 _) (d6 _)] at h2
        exact ak h.1 (nj h2)
      · split at h
        · rename_i ho
          dsimp only
          rw [ho]
          obtain ⟨h1,h⟩:=ac h
          have h2:=xH h
          rw [Bool.and_comm (d6 _) (d6 _)] at h2
          exact ak h1 (nj h2)
        · exact False.elim h
      · split at h
        · rename_i ho
          dsimp only
          rw [ho]
          obtain ⟨h1,h⟩:=ac h
          have h2:=xH h
          rw [Bool.and_comm (d6 _) (d6 _)] at h2
          exact ak h1 (nj h2)
        · exact False.elim h
      · exact False.elim h
    · exact False.elim h
  · exact False.elim h
theorem r5 {row:List AV} {t:TypeId} {x ix:AV} {S:St} {k:AV→Prop} (h:mN C row t x ix S k):ge C.P t x ix S k:=by
  unfold mN at h
  unfold ge
  refine aw.mono aZ h (fun i h=>?_)
  split at h
  · rename_i e hu
    rw [hu]
    dsimp only
    split at h
    · rename_i inf hi
      rw [hi]
      dsimp only
      split at h
      · have h1:=h.1
        unfold Fp at h1
        dsimp only
        rw [h1]
        exact h.2
      · split at h
        · rename_i ho
          dsimp only
          rw [ho]
          dsimp only
          have h1:=h.1
          unfold Fp at h1
          rw [h1]
          exact h.2
        · rename_i ho
          dsimp only
          rw [ho]
          obtain ⟨h1,h2,h3⟩:=ac h
          refine ak ?_ h3
          rw [Bool.and_eq_true]
          exact ⟨h2,h1⟩
        · exact False.elim h
      · split at h
        · rename_i ho
          dsimp only
          rw [ho]
          dsimp only
          refine ak h.1 ?_
          rw [h.2.1]
          exact h.2.2
        · exact False.elim h
      · exact False.elim h
    · exact False.elim h
  · rename_i len e hu
    rw [hu]
    dsimp only
    split at h
    · rename_i inf hi
      rw [hi]
      exact ak h.1 h.2
    · exact False.elim h
  · exact False.elim h
theorem rI (hC:uw C) {fid:Nat} {as:List AV} {k:AV→Prop} (h:ss C A o fid as k):C.pcall fid as k:=by
  unfold ss at h
  split at h
  · exact aw.mono (hC.det.pcall _ _) h.1 (fun _ e=>by rw [e]; exact h.2)
  · exact h
theorem As {P:Program} {op:BinOp} {t:TypeId} {x y:AV} {S:St} {k:AV→Prop} (h:Ao P op t x y S k):rb P op t x y S k:=by
  unfold Ao at h
  split at h
  · rename_i id
    split at h
    · rename_i rows hob
      obtain ⟨h1,h⟩:=h
      have:oe S (.mf id)=true:=by
        unfold oe
        dsimp only
        rw [hob]
        cases rows with
        | nil=>cases h1
        | cons _ _=>rfl
      unfold rb
      rw [this]
      exact h
    · exact False.elim h
  · rename_i rows
    obtain ⟨h1,h⟩:=h
    have:oe S (.sl rows)=true:=by
      unfold oe
      cases rows with
      | nil=>cases h1
      | cons _ _=>rfl
    unfold rb
    rw [this]
    exact h
  · exact False.elim h
theorem lG {size:Nat} {S:St} {x:AV} {k:Bool→List (List AV)→Prop} (h:qR size S x k):iA size S x k:=by
  unfold qR at h
  unfold iA
  split at h <;> first
    | exact ak h.1 h.2
    | exact h
    | exact False.elim h
theorem ze {src dst:TypeId} {x:AV} {S:St} {s:ByteArray} {k:AV→Prop} (h:xC C.P src dst x S s k):eV C.P src dst x S k:=by
  unfold xC at h
  unfold eV
  split at h
  · rename_i hu hd
    rw [hu,hd]
    dsimp only
    split at h
    · rename_i he
      rw [he]
      dsimp only
      obtain ⟨h1,h⟩:=ac h
      refine ak h1 (ar.mono c8 (lG h) (fun fl rows h=>?_))
      rw [h.1]
      show k (.v (.string ⟨s.data.toList.toArray⟩))
      have:(⟨s.data.toList.toArray⟩:ByteArray)=s:=by cases s; simp
      rw [this]
      exact h.2
    · exact False.elim h
  · exact False.elim h
theorem Du (hC:uw C) {vs:List AV} {M:St} {k:AV→Prop} (h:F9 C A o vs M k):nr C o vs M k:=by
  unfold F9 at h
  split at h
  · rename_i ho
    split at h
    · split at h
      · split at h
        · rename_i hob
          unfold nr
          rw [ho]
          dsimp only
          unfold CE
          dsimp only
          unfold uV
          dsimp only
          rw [hob]
          dsimp only
          rw [h.1]
          exact h.2
        · exact False.elim h
      · exact False.elim h
    · exact h
  · rename_i ho
    split at h
    · exact h
    · unfold nr
      rw [ho]
      split at h
      · exact gu h
      · exact aw.mono aZ h (fun _ h=>gu h)
      · exact aw.mono aZ h (fun _ h=>gu h)
      · exact aw.mono aZ h (fun _ h=>aw.mono aZ h (fun _ h=>gu h))
      · exact aw.mono aZ h (fun _ h=>aw.mono aZ h (fun _ h=>gu h))
      · exact aw.mono aZ h (fun _ h=>aw.mono aZ h (fun _ h=>aw.mono aZ h (fun _ h=>gu h)))
      · exact False.elim h
  · rename_i ho
    split at h
    · unfold nr
      rw [ho]
      exact r5 h
    · exact h
  · rename_i ho
    split at h
    · split at h
      · rename_i hu
        split at h
        · rename_i hob
          unfold nr
          rw [ho]
          dsimp only
          unfold m6
          rw [hu]
          dsimp only
          rw [hob]
          exact h.1 _ h.2
        · exact False.elim h
      · exact False.elim h
    · exact h
  · rename_i ho
    split at h
    · exact h
    · unfold nr
      rw [ho]
      exact As h
  · rename_i ho
    split at h
    · unfold nr
      rw [ho]
      exact ze h
    · exact h
  · rename_i c ho
    split at h
    · rename_i hcal
      split at h
      · unfold nr
        rw [ho]
        dsimp only
        rw [hcal]
        dsimp only
        obtain ⟨h1,h⟩:=ac h
        exact ak h1 (aw.mono (c9 _ _) h (fun bs hb=>rI hC hb))
      · exact False.elim h
    · exact h
  · exact h
theorem zf {S:St} {row:List AV} {a:AV} {cs:List AV} {K:St→Prop} (h:xD S row a cs K):ki S a cs K:=by
  unfold xD at h
  split at h
  · unfold ki
    split at h
    · rename_i ho
      dsimp only
      rw [ho]
      dsimp only
      rw [h.1]
      exact h.2
    · exact False.elim h
  · exact False.elim h
theorem zg {vs:List AV} {M:St} {k:AV→St→Prop} (h:EK C A o vs M k):vN C o vs M k:=by
  unfold EK at h
  split at h
  · exact h
  · split at h
    · rename_i ho
      split at h
      · unfold vN
        rw [ho]
        refine aw.mono bW h (fun cs h=>?_)
        split at h
        · rename_i hi
          rw [hi]
          obtain ⟨h1,h⟩:=ac h
          exact ak h1 (zf h)
        · exact False.elim h
      · exact h
    · exact h
theorem pY {ts:List TypeId} {base x:AV} {S:St} {k:St→AV→Prop} (h:pU C.P ts base x S k):im C.P ts base x S k:=by
  unfold pU at h
  unfold im
  split at h
  · split at h
    · rename_i e hu
      dsimp only
      rw [hu]
      dsimp only
      split at h
      · rename_i i hi
        rw [hi]
        dsimp only
        obtain ⟨h1,h⟩:=ac h
        refine ak h1 ?_
        refine ar.mono c8 (lG h) (fun fl src h=>?_)
        refine ak h.1 ?_
        replace h:=h.2
        split at h
        · exact ak h.1 h.2
        · exact ak h.1 h.2
        · split at h
          · rename_i ho
            dsimp only
            rw [ho]
            obtain ⟨h1,h⟩:=ac h
            refine ak ?_ h.2
            simp only [Bool.and_eq_true] at h1 ⊢
            exact ⟨⟨h1.1,h.1⟩,h1.2⟩
          · exact False.elim h
        · split at h
          · rename_i ho
            dsimp only
            rw [ho]
            obtain ⟨h1,h2,h3,h⟩:=ac h
            refine ak h1 ?_
            rw [h2]
            exact ak h3 h
          · exact False.elim h
        · exact False.elim h
      · exact False.elim h
    · exact False.elim h
  · exact False.elim h
theorem vi {ts:List TypeId} {base x:AV} {k:AV→Prop} (h:qS C.P ts base x k):jo C.P ts base x k:=by
  unfold qS at h
  unfold jo
  split at h
  · split at h
    · rename_i e hu
      dsimp only
      rw [hu]
      dsimp only
      split at h
      · rename_i i hi
        rw [hi]
        dsimp only
        obtain ⟨h1,h⟩:=ac h
        refine ak h1 ?_
        refine ar.mono c8 (lG h) (fun fl src h=>?_)
        obtain ⟨h2,h3,h4,h⟩:=ac h
        refine ak ?_ h
        rw [h2,h3,h4]
        rfl
      · exact False.elim h
    · exact False.elim h
  · exact False.elim h
theorem Dv {vs:List AV} {k:AV→Prop} (h:F_ C o vs k):FP C o vs k:=by
  unfold F_ at h
  unfold FP
  split at h
  · rename_i c x y ho
    rw [ho]
    dsimp only
    split at h
    · rename_i hc
      rw [hc]
      exact vi h
    · exact False.elim h
  · exact False.elim h
theorem vj {ts:List TypeId} {base:AV} {n:Int} {S:St} {k:St→AV→Prop} (h:qT C.P ts base n S k):jp C.P ts base n S k:=by
  unfold qT at h
  unfold jp
  split at h
  · split at h
    · rename_i hu hv
      dsimp only
      rw [hu,hv]
      dsimp only
      split at h
      · rename_i hi
        rw [hi]
        exact ak h.1 h.2
      · exact False.elim h
    · exact False.elim h
  · exact False.elim h
theorem lV {t:TypeId} {l c:AV} {S:St} {k:St→AV→Prop} (h:j8 C.P t l c S k):bT C.P t l c S k:=by
  unfold j8 at h
  unfold bT
  split at h
  · rename_i hu
    rw [hu]
    dsimp only
    split at h
    · rename_i hi
      rw [hi]
      dsimp only
      exact aw.mono aZ h (fun _ h=>aw.mono aZ h (fun _ h=>ak h.1 h.2))
    · exact False.elim h
  · exact False.elim h
theorem Au (hC:uw C) {f:AV} {args:List AV} {S:St} {k:St→AV→Prop} (h:Aq C A o f args S k):vM C f args S k:=by
  unfold Aq at h
  unfold vM
  split at h
  · dsimp only
    split at h
    · rename_i hp
      rw [hp]
      exact aw.mono (c9 _ _) h (fun bs hb=>rI hC hb)
    · rename_i hp
      rw [hp]
      obtain ⟨h1,h⟩:=ac h
      refine ak h1 ?_
      split at h
      · exact ar.mono (hC.det.scall _ _ _) h.1 (fun r o' ⟨e1,e2⟩=>by subst e1 e2; exact h.2)
      · exact h
  · exact False.elim h
theorem lW {R:List (AV×AV)} {t:TypeId} {m key x:AV} {S:St} {K:St→Prop} (h:j9 C.P R t m key x S K):d3 C.P t m key x S K:=by
  unfold j9 at h
  unfold d3
  split at h
  · rename_i hu
    rw [hu]
    dsimp only
    split at h
    · split at h
      · rename_i fl es ho
        dsimp only
        rw [ho]
        dsimp only
        obtain ⟨h1,h2,h3⟩:=ac h
        refine ak h1 ?_
        have:=h2 (fun es'=>bc (S.o.set _ (.mapo (fl&&cM 4 x) es')) fun o=>K { t:=S.t,l:=S.l,o:=o,b:=S.b }) h3
        exact this
      · exact False.elim h
    · exact False.elim h
  · exact False.elim h
theorem Av {ts:List TypeId} {x y:AV} {M:St} {k:AV→St→Prop} (h:Ap C.P ts x y M k):ra C.P ts x y M k:=by
  unfold Ap at h
  unfold ra
  split at h
  · split at h
    · rename_i e hu
      dsimp only
      rw [hu]
      dsimp only
      split at h
      · rename_i i hi
        rw [hi]
        dsimp only
        obtain ⟨h1,h⟩:=ac h
        refine ak h1 ?_
        refine ar.mono c8 (lG h) (fun fl src h=>?_)
        obtain ⟨h2,h⟩:=h
        obtain ⟨h3,h⟩:=ac h
        refine ak (by rw [h2,h3]; rfl) ?_
        split at h
        · split at h
          · rename_i ho
            dsimp only
            rw [ho]
            exact h
          · exact False.elim h
        · split at h
          · rename_i ho
            dsimp only
            rw [ho]
            obtain ⟨h1,h2,h⟩:=ac h
            exact ak (by rw [h1,h2]; rfl) h
          · exact False.elim h
        · exact False.elim h
      · exact False.elim h
    · exact False.elim h
  · exact False.elim h
theorem zh {ts:List TypeId} {x:AV} {S:St} {K:St→Prop} (h:xE C.P ts x S K):mb C.P ts x S K:=by
  unfold xE at h
  unfold mb
  split at h
  · split at h
    · rename_i e hu
      dsimp only
      rw [hu]
      dsimp only
      split at h
      · rename_i i hi
        rw [hi]
        dsimp only
        obtain ⟨h1,h⟩:=ac h
        refine ak h1 ?_
        split at h
        · split at h
          · rename_i ho
            dsimp only
            rw [ho]
            obtain ⟨h1,h2,h⟩:=ac h
            exact ak (by rw [h1,h2]; rfl) h
          · exact False.elim h
        · exact False.elim h
      · exact False.elim h
    · exact False.elim h
  · exact False.elim h
theorem zi (hC:uw C) {S:St} {K:St→Prop} (h:EL C A pl o S K):sQ C pl o S K:=by
  unfold EL at h
  split at h
  · rename_i ho
    split at h
    · unfold sQ
      rw [ho]
      refine aw.mono b5 h (fun m h=>?_)
      refine aw.mono b5 h (fun k h=>?_)
      refine aw.mono b5 h (fun x h=>?_)
      exact lW h
    · exact h
  · rename_i ho
    split at h
    · unfold sQ
      rw [ho]
      refine aw.mono b5 h (fun m h=>?_)
      refine aw.mono b5 h (fun k h=>?_)
      refine aw.mono b5 h (fun x h=>?_)
      exact lW h
    · exact h
  · rename_i ho
    split at h
    · unfold sQ
      rw [ho]
      refine aw.mono b5 h (fun l h=>?_)
      refine aw.mono b5 h (fun c h=>?_)
      exact lV h
    · exact h
  · rename_i c ho
    split at h
    · rename_i hcal
      split at h
      · unfold sQ
        rw [ho]
        dsimp only
        rw [hcal]
        dsimp only
        refine aw.mono aX h (fun as h=>?_)
        split at h
        · exact vj h
        · rename_i y hne
          split
          · rename_i e
            cases e
            exact (hne _ _ rfl).elim
          · rename_i e
            cases e
            exact ak (ac h).1 (pY (ac h).2)
          · rename_i h4 e
            cases e
            exact (h4 rfl).elim
          · rename_i h3
            exact (h3 _ _ rfl).elim
        · rename_i x y hne hne2
          split
          · rename_i e
            cases e
            exact (hne _ _ rfl).elim
          · rename_i e
            cases e
            exact (hne2 rfl).elim
          · rename_i e
            cases e
            exact pY h
          · rename_i h3
            exact (h3 _ _ rfl).elim
        · exact False.elim h
      · exact h
    · rename_i hcal
      unfold sQ
      rw [ho]
      dsimp only
      rw [hcal]
      dsimp only
      refine aw.mono aX h (fun as h=>?_)
      split at h
      · exact Av h
      · exact False.elim h
    · rename_i hcal
      split at h
      · unfold sQ
        rw [ho]
        dsimp only
        rw [hcal]
        dsimp only
        refine aw.mono aX h (fun as h=>?_)
        split at h
        · exact zh h
        · exact False.elim h
      · exact h
    · rename_i f hcal
      unfold sQ
      rw [ho]
      dsimp only
      rw [hcal]
      dsimp only
      refine aw.mono b5 h (fun l h=>?_)
      refine aw.mono aX h (fun c h=>?_)
      exact Au hC h
    · exact h
  · exact h
theorem jJ {K:St→Prop} {S:St} (h:l5 A o K S):K S:=by
  have h2:∀ {key:Nat} {S:St} {K:St→Prop},Dm A key S K→K S:=by
    intro key S K h
    unfold Dm at h
    split at h
    · exact h
    · split at h
      · rename_i ho
        obtain ⟨h1,h⟩:=h
        subst h1
        rw [ax] at h
        have e:∀ {α:Type} {l:List α} {i:Nat} {x:α},l[i]?=some x→l.set i x=l:=by
          intro α l i x hx
          refine List.ext_getElem? (fun m=>?_)
          rw [List.getElem?_set]
          split
          · rename_i e
            subst e
            rw [if_pos (List.getElem?_eq_some_iff.1 hx).1,hx]
          · rfl
        rw [e ho] at h
        exact h
      · exact False.elim h
  unfold l5 at h
  unfold Fq at h
  split at h
  · exact h2 h
  · split at h
    · exact h2 h
    · rename_i v hv
      obtain ⟨a,ha,e,h⟩:=b4.1 h
      subst e
      rw [dH,fw ha] at h
      exact h2 h
theorem wC {S:St} {K:St→Prop} (h:Dn C A pl o S K):BE C pl o S K:=aw.mono aX h (fun _ h=>Dt h)
theorem wD (hC:uw C) {S:St} {K:St→Prop} (h:Do C A o S K):BF C o S K:=aw.mono aX h (fun _ h=>Du hC h)
theorem Cg {S:St} {K:St→Prop} (h:Fs C A o S K):BG C o S K:=aw.mono aX h (fun _ h=>zg h)
theorem nU {row:Option (List (List AV))} {M:St} {pk:Bool} {id i:Nat} {k:AV→St→Prop} (h:ng row M pk id i k):eL M pk id i k:=by
  unfold ng at h
  unfold eL
  split at h
  · rename_i hob
    rw [hob]
    dsimp only
    split at h
    · obtain ⟨h1,h⟩:=h
      rw [h1]
      exact h
    · obtain ⟨h1,h⟩:=h
      rw [h1]
      exact h
  · exact h.elim
theorem vk {P:Program} {a:vh} {t:TypeId} {same pk:Bool} {M:St} {id i:Nat} {k:AV→St→Prop} (h:qU P a t same pk M id i k):gJ P t same pk M id i k:=by
  unfold qU at h
  unfold gJ
  split at h
  · split at h
    · rename_i hob
      rw [hob]
      exact ak h.1 h.2
    · exact h.elim
  · exact nU h
theorem uz {P:Program} {t:TypeId} {M:St} {id i:Nat} {v:AV} {K:St→Prop} (h:oU P t M id i v K):fF P t M id i v K:=by
  unfold oU at h
  unfold fF
  split at h
  · rename_i hi hob
    rw [hi,hob]
    obtain ⟨h1,h2,h3⟩:=ac h
    refine ak ?_ h3
    simp only [Bool.and_eq_true] at h1 h2 ⊢
    exact ⟨⟨⟨h1.1,h2.1⟩,h1.2⟩,h2.2⟩
  · exact h.elim
theorem vl {P:Program} {nw:Bool} {j:Nat} {a:vh} {t:TypeId} {l c:AV} {M:St} {k:AV→St→Prop} (h:qV P nw j a t l c M k):fY P nw j t l c M k:=by
  unfold qV at h
  unfold fY
  split at h
  · rename_i hu
    rw [hu]
    dsimp only
    split at h
    · rename_i hi he
      rw [hi,he]
      dsimp only
      split at h
      · rename_i hi2
        rw [hi2]
        dsimp only
        refine lr h (fun n h=>?_)
        refine lr h (fun m h=>?_)
        obtain ⟨h1,h⟩:=h
        obtain ⟨h2,h⟩:=ac h
        refine ak ?_ ?_
        · simp only [Bool.and_eq_true] at h1 h2 ⊢
          exact ⟨⟨h1,h2.1⟩,h2.2⟩
        · refine pI h (fun z h=>?_)
          split at h
          · obtain ⟨h3,h⟩:=h
            dsimp only
            rw [h3]
            exact h
          · exact h.elim
      · exact h.elim
    · exact h.elim
  · exact h.elim
theorem vm {P:Program} {a:vh} {t:TypeId} {m key:AV} {ok:Bool} {M:St} {k:AV→St→Prop} (h:qW P a t m key ok M k):gK P t m key ok M k:=by
  unfold qW at h
  unfold gK
  split at h
  · rename_i hu
    rw [hu]
    dsimp only
    split at h
    · dsimp only
      split at h
      · rename_i hob
        rw [hob]
        dsimp only
        split at h
        · obtain ⟨h1,h2⟩:=h
          exact h1 (fun r=>match r with
            | some i=>eL M false _ i fun a M'=>md ok a true fun r=>k r M'
            | none=>iP P _ ok fun r=>k r M) (nU h2)
        · obtain ⟨h1,h2⟩:=h
          exact h1 (fun r=>match r with
            | some i=>eL M false _ i fun a M'=>md ok a true fun r=>k r M'
            | none=>iP P _ ok fun r=>k r M) h2
      · exact h.elim
    · exact h.elim
  · exact h.elim
theorem pZ {P:Program} {a:vh} {t:TypeId} {m key x:AV} {M:St} {K:St→Prop} (h:pV P a t m key x M K):io P t m key x M K:=by
  unfold pV at h
  unfold io
  split at h
  · rename_i hu
    rw [hu]
    dsimp only
    split at h
    · rename_i id
      dsimp only
      split at h
      · rename_i ks sz cells hole hob
        rw [hob]
        dsimp only
        obtain ⟨h1,h2,h3⟩:=ac h
        refine ak h1 ?_
        have h4:=h2 (GZ M id sz cells hole x K) h3
        refine aw.mono2 cK h4 (fun kv r h5=>?_)
        obtain ⟨h6,h7⟩:=ac h5
        refine ak h6 ?_
        cases r with
        | none=>exact h7
        | some i =>
          obtain ⟨h8,h9,h10⟩:=ac h7
          refine ak ?_ h10
          rw [Bool.and_eq_true]
          exact ⟨h8,h9⟩
      · exact h.elim
    · exact h.elim
  · exact h.elim
theorem rJ {M:St} {x:AV} {X Y:Nat→Nat→Prop} (h:g8 M x X) (hk:∀ id i,X id i→Y id i):g8 M x Y:=by
  unfold g8 at h ⊢
  split at h
  · split at h
    · exact hk _ _ h
    · exact h.elim
  · exact h.elim
theorem wE {P:Program} {vs:List AV} {M:St} {k:AV→St→Prop} (h:AZ P A pl o vs M k):jV P pl o vs M k:=by
  unfold AZ at h
  split at h
  · exact h
  · split at h
    · rename_i ho
      unfold jV
      rw [ho]
      exact rJ h (fun _ _ h=>vk h)
    · rename_i ho
      unfold jV
      rw [ho]
      exact rJ h (fun _ _ h=>uz h)
    · rename_i ho
      unfold jV
      rw [ho]
      exact vl h
    · rename_i ho
      unfold jV
      rw [ho]
      exact vm h
    · rename_i ho
      unfold jV
      rw [ho]
      exact pZ h
    · rename_i ho
      unfold jV
      rw [ho]
      exact pZ h
    · exact h.elim
theorem nV {S:St} {id:Nat} {K:St→Prop} (h:nh A S id K):gI S id K:=by
  unfold nh at h
  split at h
  · exact h
  · unfold gI
    split at h
    · rename_i hob
      rw [hob]
      dsimp only
      split at h
      · rename_i hk
        rw [hk]
        obtain ⟨h1,h2,h3,h4⟩:=ac h
        refine ak ?_ ?_
        · rw [Bool.and_eq_true] at h1
          rw [Bool.and_eq_true,Bool.and_eq_true]
          exact ⟨⟨h1.1,h2⟩,h1.2⟩
        · rw [h3]
          exact h4
      · exact h.elim
    · rename_i hob
      rw [hob]
      dsimp only
      split at h
      · rename_i hk
        rw [hk]
        obtain ⟨h1,h2,h3,h4⟩:=ac h
        refine ak ?_ ?_
        · rw [Bool.and_eq_true]
          exact ⟨h1,h2⟩
        · rw [h3]
          exact h4
      · exact h.elim
    · rename_i hob
      rw [hob]
      dsimp only
      obtain ⟨h2,h3,h4⟩:=h
      refine ak h2 ?_
      rw [h3]
      exact h4
    · exact h.elim
theorem p0:∀ {ids:List Nat} {S:St} {K:St→Prop},ul A ids S K→lh ids S K
  | [],_,_,h=>h
  | _::_,_,_,h=>aw.mono lA (nV h) (fun _ h=>p0 h)
theorem p1 {S:St} {id:Nat} {K:St→Prop} (h:pW A S id K):i3 S id K:=by
  unfold pW at h
  split at h
  · exact h
  · unfold i3
    split at h
    · rename_i hob
      rw [hob]
      dsimp only
      rw [h.1]
      exact h.2
    · exact h.elim
theorem nW:∀ {ids:List Nat} {S:St} {K:St→Prop},qX A ids S K→jr ids S K
  | [],_,_,h=>h
  | _::_,_,_,h=>aw.mono mH (p1 h) (fun _ h=>nW h)
theorem uA {id:Nat} {S:St} {K:St→Prop} (h:uo A pl id S K):iU pl id S K:=by
  unfold uo at h
  unfold iU
  split at h
  · rename_i hc
    rw [hc]
    exact h
  · rename_i hc
    rw [hc]
    dsimp only
    refine aw.mono (iI _ _) (p0 h) (fun S1 h=>?_)
    split at h
    · rename_i hc
      rw [hc]
      exact h
    · rename_i hc
      rw [hc]
      exact nW h
theorem Aw (hC:uw C) {vs:List AV} {M:St} {k:AV→St→Prop} (h:Ar C A o vs M k):j1 C o vs M k:=by
  unfold Ar at h
  split at h
  · rename_i t X Y l c ho
    split at h
    · unfold j1
      rw [ho]
      exact lV h
    · exact h
  · rename_i c fid first cap as ho
    unfold j1
    rw [ho]
    dsimp only
    split at h
    · rename_i x hcal
      rw [hcal]
      obtain ⟨h1,h⟩:=ac h
      refine ak h1 ?_
      split at h
      · obtain ⟨h2,h3⟩:=h
        obtain ⟨r0,o0,⟨e1,e2⟩,h4⟩:=hC.det.scall _ _ _ _ h2
        subst e1 e2
        exact h4 _ h3
      · exact h
    · exact h.elim
  · rename_i hne hne2
    have h':=zg h
    unfold j1
    split
    · rename_i t X Y l c ho
      exact absurd rfl (hne t X Y l c ho)
    · rename_i c fid first cap as ho
      exact absurd rfl (hne2 c fid first cap as ho)
    · exact h'
theorem Ch (hC:uw C) {vs:List AV} {M:St} {k:AV→St→Prop} (h:Dp C A pl o vs M k):li C pl o vs M k:=by
  unfold Dp at h
  unfold li
  split at h
  · rename_i hw
    rw [hw]
    exact wE h
  · rename_i hw
    rw [hw]
    exact Aw hC h
theorem Ax (hC:uw C) {S:St} {K:St→Prop} (h:Dq C A pl o S K):nF C pl o S K:=aw.mono aX h (fun _ h=>Ch hC h)
theorem Ci {S:St} {K:St→Prop} (h:Ft C A pl o S K):wR C pl o S K:=aw.mono aX h (fun _ h=>wE h)
theorem Cj {S:St} {K:St→Prop} (h:Fu C o S K):BH C o S K:=aw.mono aX h (fun _ h=>Dv h)
theorem Dw (hC:uw C) {S:St} {K:St→Prop} (h:Ga C A pl o S K):wS C pl o S K:=by
  refine aw.mono (yG hC.det) (K:=l5 A o K) ?_ (fun _ h=>jJ h)
  unfold Ga at h
  unfold wS
  split at h
  · rename_i hc
    rw [hc]
    exact wC h
  · rename_i hc
    rw [hc]
    exact wD hC h
  · rename_i hc
    rw [hc]
    exact Cg h
  · rename_i h0 h1 h2
    have:=zi hC h
    split
    · exact absurd (by assumption) h0
    · exact absurd (by assumption) h1
    · exact absurd (by assumption) h2
    · exact this
theorem su (hC:uw C) {S:St} {K:St→Prop} (h:Fv C A pl o S K):CN C pl o S K:=by
  unfold Fv at h
  unfold CN
  split at h
  · rename_i hw
    rw [hw]
    exact aw.mono yE (Ci h) (fun _ h=>jJ h)
  · rename_i hw
    rw [hw]
    exact Dw hC h
theorem uB (hC:uw C) {S:St} {K:St→Prop} (h:yY C A pl o S K):uU C pl o S K:=by
  unfold yY at h
  split at h
  · rename_i hc
    refine aw.mono (gb hC.det) (K:=l5 A o K) ?_ (fun _ h=>jJ h)
    unfold uU
    rw [hc]
    exact wC h
  · rename_i hc
    refine aw.mono (gb hC.det) (K:=l5 A o K) ?_ (fun _ h=>jJ h)
    unfold uU
    rw [hc]
    exact wD hC h
  · rename_i hc
    refine aw.mono (gb hC.det) (K:=l5 A o K) ?_ (fun _ h=>jJ h)
    unfold uU
    rw [hc]
    exact Ax hC h
  · rename_i hc
    unfold uU
    rw [hc]
    exact h
  · rename_i hc
    refine aw.mono (gb hC.det) (K:=l5 A o K) ?_ (fun _ h=>jJ h)
    unfold uU
    rw [hc]
    exact Cj h
  · rename_i h0 h1 h2 h4 h5
    refine aw.mono (gb hC.det) (K:=l5 A o K) ?_ (fun _ h=>jJ h)
    unfold uU
    split
    · exact absurd (by assumption) h0
    · exact absurd (by assumption) h1
    · exact absurd (by assumption) h2
    · exact absurd (by assumption) h4
    · exact absurd (by assumption) h5
    · split at h
      · exact False.elim h
      · rename_i hb
        rw [hb]
        exact zi hC h
theorem EN (hC:uw C) {all:Array Oper} {S:St} {K:St→Prop} (h:HQ C A pl all o S K):ag C pl all o S K:=by
  unfold HQ at h
  unfold ag
  split at h
  · rename_i hg
    rw [hg]
    obtain ⟨h1,h⟩:=ac h
    exact ak h1 (uB hC h)
  · rename_i j want hg
    rw [hg]
    dsimp only
    split at h
    · exact False.elim h
    · rename_i d hd
      rw [hd]
      dsimp only
      refine ar.mono cZ h (fun b S1 h=>?_)
      have key:∀ {S:St},bC (g9 pl all o S) (yY C A pl o S K)→ol C pl all o S K:=by
        intro S h
        obtain ⟨h1,h⟩:=ac h
        exact ak h1 (uB hC h)
      unfold gsel at h ⊢
      split at h
      · exact key h
      · exact key h
      · exact h
theorem A4 (hC:uw C) {ai:Array Oper} {i:Nat} {S:St} {K:St→Prop} (h:GJ C A pl ai i S K):vP C pl ai i S K:=by
  unfold GJ at h
  unfold vP
  split at h
  · exact False.elim h
  · rename_i o ho
    rw [ho]
    exact EN hC h
theorem zj {S2 S1:St} {X:Prop} (h:S2=S1∧X):rc S2 S1 X:=by
  unfold rc
  split
  · exact h.2
  · exact h
theorem xI (hC:uw C) {ai:Array Oper} {ws:List Nat}:∀ {n a:Nat} {listed:Array Bool} {t:PT} {S:St} {K:St→Prop},iX pl ai ws n a listed=some t→oT C A pl ai t none S K→iC C pl ai ws n listed S K
  | 0,a,listed,t,S,K,hp,h=>by
    unfold iX at hp
    unfold iC
    split at hp
    · cases hp
      rename_i hr
      rw [hr]
      exact h
    · cases hp
  | n + 1,a,listed,t,S,K,hp,h=>by
    unfold iX at hp
    unfold iC
    split at hp
    · cases hp
      rename_i hr
      rw [hr]
      exact h
    · rename_i r rs hr
      rw [hr]
      dsimp only
      have step:∀ {k b:Nat} {u:PT} {S:St} {K:St→Prop},iX pl ai ws n b (listed.setIfInBounds k true)=some u→(GJ C A pl ai k S fun S'=>oT C A pl ai u none S' K)→vP C pl ai k S fun S'=>iC C pl ai ws n (listed.setIfInBounds k true) S' K :=
        fun hj h=>aw.mono (fa hC.det) (A4 hC h) (fun _ h=>xI hC hj h)
      have alts:∀ {b:Nat} {is:List Nat} {u:PT} {S S1:St} {K:St→Prop} {X:Prop},nS (fun i=>iX pl ai ws n b (listed.setIfInBounds i true)) is=some u→oT C A pl ai u (some (S1,X)) S K →
          zL (fun i K'=>vP C pl ai i S fun S'=>iC C pl ai ws n (listed.setIfInBounds i true) S' K') is S1 X:=by
        intro b is
        induction is with
        | nil =>
          intro u S S1 K X hu h
          unfold nS at hu
          cases hu
          exact h
        | cons i is ih =>
          intro u S S1 K X hu h
          unfold nS at hu
          split at hu
          · rename_i v hv
            split at hu
            · rename_i w hw
              cases hu
              refine aw.mono (aw.bind (fa hC.det) (fun S'=>eN hC.det _ _ _)) (step hv h) (fun S2 h=>?_)
              exact zj ⟨h.1,ih hw h.2⟩
            · cases hu
          · cases hu
      split at hp
      · rename_i k hk
        rw [hk]
        dsimp only
        split at hp
        · cases hp
          rename_i u hj
          exact step hj h
        · cases hp
      · rename_i hk
        rw [hk]
        dsimp only
        split at hp
        · split at hp
          · cases hp
            rename_i u hj
            refine aw.mono (aw.bind (fa hC.det) (fun S'=>eN hC.det _ _ _)) (step hj h) (fun _ h=>?_)
            exact h
          · cases hp
        · split at hp
          · rename_i b _ _
            unfold nS at hp
            split at hp
            · rename_i v hv
              split at hp
              · rename_i w hw
                cases hp
                refine aw.mono (aw.bind (fa hC.det) (fun S'=>eN hC.det _ _ _)) (step hv h) (fun S1 h=>?_)
                exact alts hw h
              · cases hp
            · cases hp
          · cases hp
theorem Dx (hC:uw C) {ai:Array Oper} {ws:List Nat}:∀ {n:Nat} {listed:Array Bool} {t:PT} {S:St} {K:St→Prop},wB pl ai ws n listed=some t→oT C A pl ai t none S K→rR C pl ai ws n listed S K
  | 0,listed,t,S,K,hp,h=>xI hC (n:=0) hp h
  | n + 1,listed,t,S,K,hp,h=>by
    unfold wB at hp
    unfold rR
    split at hp
    · rename_i i hi
      rw [hi]
      dsimp only
      split at hp
      · cases hp
        rename_i u hj
        exact aw.mono (fa hC.det) (A4 hC h) (fun _ h=>Dx hC hj h)
      · cases hp
    · rename_i hi
      rw [hi]
      exact xI hC hp h
theorem Dy (hC:uw C) {ai:Array Oper} {t:PT} {S:St} {K:St→Prop} (hp:uq pl ai=some t) (h:oT C A pl ai t none S K):uW C pl ai S K:=by
  unfold uq at hp
  unfold uW
  split at hp
  · cases hp
  · rename_i hn
    refine ak hn ?_
    split at hp
    · rename_i hc
      rw [hc]
      exact xI hC hp h
    · rename_i hc
      rw [hc]
      exact Dx hC hp h
theorem p5:∀ {x y:PT},An x y=true→x=y
  | .done,.done,_=>rfl
  | .go i t,.go j u,h=>by
    unfold An at h
    rw [Bool.and_eq_true] at h
    rw [Nat.eq_of_beq_eq_true h.1,p5 h.2]
  | .alt i t r,.alt j u s,h=>by
    unfold An at h
    rw [Bool.and_eq_true,Bool.and_eq_true] at h
    rw [Nat.eq_of_beq_eq_true h.1,p5 h.2.1,p5 h.2.2]
  | .done,.go _ _,h=>by cases h
  | .done,.alt _ _ _,h=>by cases h
  | .go _ _,.done,h=>by cases h
  | .go _ _,.alt _ _ _,h=>by cases h
  | .alt _ _ _,.done,h=>by cases h
  | .alt _ _ _,.go _ _,h=>by cases h
end
open Go.RowKit (Below)
def d7 (P:Program) (c:Code) (S:St) (K:Ex→St→Prop):Prop :=
  ∃ e S',(∀ (r:Option Nat) (G:Gh) (E:Env) (a:Act) (w:World) (Q:Exit→Act→World→Prop),ah G pn E S w→TR E S.t a→C3 G (fun e' S''=>e'=e∧S''=S') Q→c.wpIn (rd r) 0 P Q a w)∧K e S'
theorem d7.mono {P:Program} {c:Code} {S:St} {K K':Ex→St→Prop} (h:d7 P c S K) (hk:∀ e S',K e S'→K' e S'):d7 P c S K' :=
  let ⟨e,S',h1,h2⟩:=h
  ⟨e,S',h1,hk _ _ h2⟩
theorem zk (cfg:nt):uw (gW cfg):=⟨mL cfg⟩
theorem rK {P:Program} {op:BinOp} {t e:TypeId} {rows:List (List AV)} {E:Env} {u:Value} (hop:Gb op=true) (hu:P.underlying t=some (.slice e)) (hx:VR E (.sl rows) u) (w:World) (X Y:Operand) :
    ∃ b,(do eqGuard op t X Y u (.slice none 0 0); binOp op t u (.slice none 0 0):Sem Value).run P w=.ok (.bool b) w∧((b=wA op∧rows=[])∨b=!(wA op)):=by
  have h0:∃ b,(∀ d:Nat,(Op.equalIn (d + 1) t u (.slice none 0 0)).run P w=.ok b w)∧((b=true∧rows=[])∨b=false):=by
    cases hx with
    | sln=>exact ⟨true,fun d=>by unfold Op.equalIn; rw [Sem.run_bind,run_underlying hu]; rfl,.inl ⟨rfl,rfl⟩⟩
    | sle _ a cap=>exact ⟨false,fun d=>by unfold Op.equalIn; rw [Sem.run_bind,run_underlying hu]; rfl,.inr rfl⟩
    | sl us h1 h2 h3 h4 h5 h6 h7=>exact ⟨false,fun d=>by unfold Op.equalIn; rw [Sem.run_bind,run_underlying hu]; rfl,.inr rfl⟩
  obtain ⟨b,hb,hr⟩:=h0
  have hn:CQ u=true:=by cases hx <;> rfl
  have he:(Op.equal t u (.slice none 0 0)).run P w=.ok b w:=qA hb
  rw [hU hn]
  cases op with
  | eql =>
    refine ⟨b,?_,hr⟩
    have:binOp .eql t u (.slice none 0 0)=(do pure (.bool (← Op.equal t u (.slice none 0 0)))):=by cases hx <;> rfl
    simp [this,he]
  | neq =>
    refine ⟨!b,?_,?_⟩
    · have:binOp .neq t u (.slice none 0 0)=(do pure (.bool (!(← Op.equal t u (.slice none 0 0))))):=by cases hx <;> rfl
      simp [this,he]
    · rcases hr with ⟨rfl,hr⟩ | rfl
      · exact .inl ⟨rfl,hr⟩
      · exact .inr rfl
  | _=>cases hop
section
variable {G:Gh} {C:Ctx} {A:dh} {pl:bG}
theorem lH (hO:uw C) (hC:dJ C) {rr:Option Nat} {all:Array Oper} {Q:Exit→Act→World→Prop}:∀ {ai:List Oper} {E:Env} {S:St} {w:World} {a:Act} {K:St→Prop},ah G pn E S w→TR E S.t a→xF C A pl all ai S K →
    (∀ S' E' a' w',K S'→ah G pn E' S' w'→TR E' S'.t a'→Q .normal a' w')→wpListIn (rd rr) 0 C.P all Q ai a w
  | [],E,S,w,a,K,hM,ht,h,hQ=>hQ _ _ _ _ h hM ht
  | o::rest,E,S,w,a,K,hM,ht,h,hQ=>by
    have step:∀ {S1:St},ah G pn E S1 w→TR E S1.t a→Region.wanted o (yielded all a.tmps)=true→(Fv C A pl o S1 fun S'=>xF C A pl all rest S' K)→wpListIn (rd rr) 0 C.P all Q (o::rest) a w:=by
      intro S1 hM1 ht1 hw h
      unfold wpListIn
      rw [if_pos hw]
      refine wa (z2 (su hO h)) (qG hC hM1 ht1 (su hO h) _ _ (fun S' E' a' w' hk hS htr=>?_))
      exact lH hO hC hS htr hk hQ
    unfold xF at h
    split at h
    · rename_i hg
      have hw:Region.wanted o (yielded all a.tmps)=true:=by unfold Region.wanted; rw [hg]
      split at h
      · unfold wpListIn
        rw [if_pos hw]
        unfold Fw at h
        split at h
        · rename_i op t x yt ho
          split at h
          · rename_i e hu
            obtain ⟨c,h,hc⟩:=cG h ht
            split at h
            · rename_i rows
              obtain ⟨hop,h1,h2⟩:=ac h
              obtain ⟨b,hrun,hbr⟩:=rK hop hu hc w x (.const (.slice none 0 0))
              have hex:(execOp a.eval o).run C.P w=.ok (.value (.bool b)) w:=by
                have:(execOp a.eval o)=(do pure (.value (← (do eqGuard op t x (.const (.slice none 0 0)) (a.eval x) (.slice none 0 0); binOp op t (a.eval x) (.slice none 0 0):Sem Value)))):=by
                  unfold execOp
                  rw [ho]
                  simp [Act.eval]
                rw [this,Sem.run_bind,hrun]
                rfl
              refine wa (fun c hc=>by rw [ho] at hc; cases hc) (cF hex ?_)
              have h3:br o.dst (.v (.bool b)) S fun S'=>xF C A pl all rest S' K:=by
                rcases hbr with ⟨rfl,hr⟩ | rfl
                · exact h1 hr
                · exact h2
              rw [aE] at h3
              exact lH hO hC (hM.congr cg cj cp) (ht.put (.v _ _ rfl)) h3 hQ
            · exact False.elim h
          · exact False.elim h
        · exact False.elim h
      · exact step hM ht hw h
    · rename_i j want hg
      split at h
      · exact False.elim h
      · rename_i d hd
        obtain ⟨b,S1,h,hb,hM1,ht1⟩:=i5 hM ht h
        rcases j4 hg (lu hd hb) h with ⟨hw,h⟩ | ⟨hw,h⟩
        · exact step hM1 ht1 hw h
        · rw [aE] at h
          unfold wpListIn
          rw [if_neg (by rw [hw]; exact fun h=>by cases h)]
          exact ⟨fun _ _=>trivial,lH hO hC (hM1.congr cg cj cp) (ht1.put (pJ _)) h hQ⟩
end
theorem zl {A:F7} {id:Nat} {S:St} {K:St→Prop} (h:Ca A id S K):∃ S',dj S S'∧K S':=by
  unfold Ca at h
  split at h
  · exact j_ h
  · exact ⟨S,.refl S,h⟩
theorem zm {cfg:nt} (hmix:cfg.P.follows .mixedOrders=true) {A:F7} {pl:bG}:∀ (c:Code) {S:St} {K:Ex→St→Prop},jI pl A.ord c=true→ut (gW cfg) (d7 cfg.P) A pl c S K →
    ∀ (r:Option Nat) (G:Gh) (E:Env) (a:Act) (w:World) (Q:Exit→Act→World→Prop),ah G pn E S w→TR E S.t a→C3 G K Q→c.wpIn (rd r) 0 cfg.P Q a w:=by
  have hC:=zk cfg
  intro c
  induction c with
  | skip=>exact fun _ h r G E a w Q hM ht hQ=>wpIn_skip (hQ .nrm _ E _ _ h hM ht)
  | region id ai draw =>
    intro S K hB h r G E a w Q hM ht hQ
    cases draw with
    | false =>
      refine wpIn_region_list (lH hC (je cfg) hM ht h (fun S' E' a' w' hk hS htr=>?_))
      obtain ⟨S3,E3,hk,hS,htr⟩:=j3 hS htr (uA hk)
      obtain ⟨S2,hw,hk⟩:=zl hk
      obtain ⟨E2,hM2,ht2⟩:=hw G E3 a' w' hS htr
      exact hQ .nrm _ _ _ _ hk hM2 ht2
    | true =>
      refine kW hmix pl id ai S (fun e S'=>e=.nrm∧Ca A id S' (K .nrm)) ?_ r G E a w Q hM ht (fun e S' E' a' w' hk hS htr=>?_)
      · unfold jI at hB
        have h':(match o8 A.ord id with
        | some is=>bC (re pl ai) (uX (gW cfg).P (cb ai.toList) S fun S1=>oT (gW cfg) (B_ A id) pl ai is none S1 fun S'=>jt (cb ai.toList) S' (uo (B_ A id) pl id S' fun S''=>Ca A id S'' (K .nrm)))
        | none=>ae 440):=h
        split at hB
        · rename_i is js h1 h2
          rw [h1] at h'
          dsimp only at h'
          obtain ⟨h3,h'⟩:=ac h'
          refine ak h3 ?_
          refine aw.mono tO h' (fun S1 h=>?_)
          rw [p5 hB] at h
          refine aw.mono (tQ hC.det) (Dy hC h2 h) (fun S' h=>?_)
          obtain ⟨h4,h5⟩:=kU h
          exact h5 _ (aw.mono na (uA h4) (fun S'' h=>⟨rfl,h⟩))
        · cases hB
      · obtain ⟨rfl,hk⟩:=hk
        obtain ⟨S2,hw,hk⟩:=zl hk
        obtain ⟨E2,hM2,ht2⟩:=hw G E' a' w' hS htr
        exact hQ .nrm _ _ _ _ hk hM2 ht2
  | seq x y ihx ihy =>
    intro S K hB h r G E a w Q hM ht hQ
    unfold jI at hB
    rw [Bool.and_eq_true] at hB
    refine wpIn_seq (ihx hB.1 h r G E a w _ hM ht (fun e S' E' a' w' hk hS htr=>?_))
    cases e with
    | nrm =>
      dsimp only at hk
      split at hk
      · obtain ⟨S2,h1,⟨e2,S3,h2,h3,h4⟩,h5⟩:=j_ hk
        subst h3 h4
        obtain ⟨E2,hM2,ht2⟩:=((ni _ _).trans h1) G E' a' w' hS htr
        refine h2 r G E2 a' w' Q hM2 ht2 (fun e' S'' E'' a'' w'' he hS' ht'=>?_)
        obtain ⟨rfl,rfl⟩:=he
        exact hQ _ _ _ _ _ h5 hS' ht'
      · exact ihy hB.2 hk r G E' a' w' Q hS htr hQ
    | ex i=>exact hQ (.ex i) _ _ _ _ hk hS htr
    | ret=>exact hQ .ret _ _ _ _ hk hS htr
  | cond c x y ihx ihy =>
    intro S K hB h r G E a w Q hM ht hQ
    unfold jI at hB
    rw [Bool.and_eq_true] at hB
    obtain ⟨b,S1,h1,h2,h3,h4⟩:=mz hM ht h
    cases b with
    | true=>exact wpIn_cond_true h2 (ihx hB.1 h1 r G E a w Q h3 h4 hQ)
    | false=>exact wpIn_cond_false h2 (ihy hB.2 h1 r G E a w Q h3 h4 hQ)
  | block id c ih =>
    intro S K hB h r G E a w Q hM ht hQ
    refine wpIn_block (ih hB h r G E a w _ hM ht (fun e S' E' a' w' hk hS htr=>?_))
    cases e with
    | nrm=>exact hQ .nrm _ _ _ _ hk hS htr
    | ret=>exact hQ .ret _ _ _ _ hk hS htr
    | ex i =>
      show Exit.inBlock id Q (.exit i) a' w'
      unfold Exit.inBlock
      dsimp only at hk
      split at hk
      · rename_i hb
        have:=Nat.eq_of_beq_eq_true hb
        subst this
        simp only [if_pos]
        exact hQ .nrm _ _ _ _ hk hS htr
      · rename_i hb
        have hne:¬ i=id:=fun e=>by subst e; simp at hb
        simp only [if_neg hne]
        exact hQ (.ex i) _ _ _ _ hk hS htr
  | loop c ih =>
    intro S K hB h r G E a w Q hM ht hQ
    have h':(match o8 A.lps (nT c) with
    | some (W,L,e,S1)=>Dj L (wk W S) fun S2=>((gW cfg).loop pl c S2 fun e' S'=>e'=e∧S'=S1)∧K e S1
    | none=>(gW cfg).loop pl c S K):=h
    split at h'
    · obtain ⟨S2,h1,h2,h3⟩:=j_ h'
      obtain ⟨E2,hM2,ht2⟩:=((ni _ _).trans h1) G E a w hM ht
      refine jf cfg pl c S2 _ h2 r G E2 a w Q hM2 ht2 (fun e' S'' E'' a'' w'' he hS' ht'=>?_)
      obtain ⟨rfl,rfl⟩:=he
      exact hQ _ _ _ _ _ h3 hS' ht'
    · exact jf cfg pl c S K h' r G E a w Q hM ht hQ
  | exit id=>exact fun _ h r G E a w Q hM ht hQ=>wpIn_exit (hQ (.ex id) _ E _ _ h hM ht)
  | ret=>exact fun _ h r G E a w Q hM ht hQ=>wpIn_ret (hQ .ret _ E _ _ h hM ht)
  | _=>exact fun _ h=>False.elim h
theorem d7.of {cfg:nt} (hmix:cfg.P.follows .mixedOrders=true) {pl:bG} {c:Code} {S S1:St} {e:Ex} {K:Ex→St→Prop} {A:F7} {we:List (Nat×(Wk×Le))} (hB:jI pl A.ord c=true)
    (h:Gd (gW cfg) (d7 cfg.P) A pl we c S (fun e' S'=>e'=e∧S'=S1)) (hk:K e S1):d7 cfg.P c S K:=by
  refine ⟨e,S1,fun r G E a w Q hM ht hQ=>?_,hk⟩
  refine zm hmix c hB h r G E a w Q hM ht (fun e' S' E' a' w' hk hS htr=>?_)
  dsimp only at hk
  split at hk
  · obtain ⟨S2,h1,rfl,rfl⟩:=j_ hk
    obtain ⟨E2,hM2,ht2⟩:=((ni _ _).trans h1) G E' a' w' hS htr
    exact hQ _ _ _ _ _ ⟨rfl,rfl⟩ hM2 ht2
  · obtain ⟨rfl,rfl⟩:=hk
    exact hQ _ _ _ _ _ ⟨rfl,rfl⟩ hS htr
theorem g4.round {cfg:nt} {pl:bG} {c:Code} {S:St} {K:Ex→St→Prop}
    (h:d7 cfg.P c S fun e S'=>match e with
      | .nrm=>g4 cfg.P pl c S' K
      | .ex i=>K (.ex i) S'
      | .ret=>K .ret S'):g4 cfg.P pl c S K:=by
  obtain ⟨e1,S1,h2,h1⟩:=h
  have run:∀ (e:Ex) (S3:St) (n:Nat),(∀ (r:Option Nat) (G:Gh) (E:Env) (a:Act) (w:World) (Q:Exit→Act→World→Prop),ah G pn E S1 w→TR E S1.t a→C3 G (fun e' S''=>e'=e∧S''=S3) Q→Exit.then (Code.roundsIn (rd r) 0 cfg.P c Q n) Q (EA e1) a w) →
      ∀ (r:Option Nat) (G:Gh) (E:Env) (a:Act) (w:World) (Q:Exit→Act→World→Prop),ah G pn E S w→TR E S.t a→C3 G (fun e' S''=>e'=e∧S''=S3) Q→Code.roundsIn (rd r) 0 cfg.P c Q (n + 1) a w:=by
    intro e S3 n hn r G E a w Q hM ht hQ
    refine h2 r G E a w _ hM ht (fun e' S' E' a' w' hk hS htr=>?_)
    obtain ⟨rfl,rfl⟩:=hk
    exact hn r G E' a' w' Q hS htr hQ
  cases e1 with
  | nrm =>
    obtain ⟨n,e,S',hl,hk⟩:=h1
    exact ⟨n + 1,e,S',run e S' n (fun r G E a w Q hM ht hQ=>hl r G E a w Q hM ht hQ),hk⟩
  | ex i=>exact ⟨1,.ex i,S1,run _ _ 0 (fun r G E a w Q hM ht hQ=>hQ _ _ _ _ _ ⟨rfl,rfl⟩ hM ht),h1⟩
  | ret=>exact ⟨1,.ret,S1,run _ _ 0 (fun r G E a w Q hM ht hQ=>hQ _ _ _ _ _ ⟨rfl,rfl⟩ hM ht),h1⟩
def rk {σ τ:Type} (Sf:σ→St) (out:τ→Ex×St) (r:σ⊕τ) (e:Ex) (S':St):Prop :=
  match r with
  | .inl s'=>e=.nrm∧S'=Sf s'
  | .inr t=>e≠.nrm∧e=(out t).1∧S'=(out t).2
theorem Iz {σ τ:Type} {Sf:σ→St} {out:τ→Ex×St} {s:σ}:rk Sf out (.inl s) .nrm (Sf s):=⟨rfl,rfl⟩
def pk {τ:Type} (out:τ→Ex×St) (t:τ) (e:Ex) (S':St):Prop:=e=(out t).1∧S'=(out t).2
theorem g4.iter {cfg:nt} {pl:bG} {c:Code} {σ τ:Type} {step:σ→Option (σ⊕τ)} (Sf:σ→St) (out:τ→Ex×St)
    (hs:∀ s r,step s=some r→d7 cfg.P c (Sf s) (rk Sf out r)):∀ (n:Nat) (s:σ) (t:τ),A.iter step n s=some t→g4 cfg.P pl c (Sf s) fun e S'=>e=(out t).1∧S'=(out t).2
  | 0,s,t,h=>by cases h
  | n + 1,s,t,h=>by
    unfold A.iter at h
    split at h
    · cases h
    · rename_i s' hs'
      refine g4.round ((hs s _ hs').mono fun e S' h1=>?_)
      obtain ⟨rfl,rfl⟩:=h1
      exact g4.iter Sf out hs n s' t h
    · rename_i t' ht'
      cases h
      refine g4.round ((hs s _ ht').mono fun e S' h1=>?_)
      obtain ⟨h0,h1,h2⟩:=h1
      cases e with
      | nrm=>exact absurd rfl h0
      | ex i=>exact ⟨h1,h2⟩
      | ret=>exact ⟨h1,h2⟩
theorem dL.le {P:Program} {f:Nat} {as as':List AV} {K:AV→Prop} (h:dL P f as' K) (hl:dQ as as'):dL P f as K:=by
  obtain ⟨r,⟨h1,h2⟩,h3⟩:=h
  exact ⟨r,⟨h1,fun F w us hF hg hv=>h2 F w us hF hg (hl.vrs hv)⟩,h3⟩
theorem dL.to {P:Program} {f:Nat} {as:List AV} {r:AV} (h:dL P f as fun x=>eg x r):dL P f as fun x=>x=r:=by
  obtain ⟨x,⟨h1,h2⟩,h3⟩:=h
  refine ⟨r,⟨h1,fun F w us hF hg hv=>(h2 F w us hF hg hv).mono ?_⟩,rfl⟩
  rintro e w' ⟨v,F',h4,h5,h6⟩
  exact ⟨v,F',h4,h3 _ _ h5,h6⟩
def G0 (x:Bool):AV:=.v (.bool x)
def gg {α:Type} (f:α→List AV) (x:α):AV:=.agg (f x)
def ao (k:IntKind) (x:Int):List AV:=[.v (.int k x)]
def af (x:Bool):List AV:=[.v (.bool x)]
def Ig {α:Type} (f:α→List AV) (l:List α):List AV:=[.sl (l.map f)]
theorem bL {k:IntKind} {a b:Int} (h:(a==b)=true):AV.v (.int k a)=AV.v (.int k b):=by rw [eq_of_beq h]
theorem qg {i:Nat}:Ex.ex i≠Ex.nrm:=fun h=>by cases h
theorem EO:Ex.ret≠Ex.nrm:=fun h=>by cases h
theorem EP {α:Type} (f:α→List AV) (l:List α):AV.v (.int .i64 (((l.map f).length:Nat):Int))=AV.v (.int .i64 (l.length:Int)):=by rw [List.length_map]
theorem Dz {α:Type} (f:α→List AV) {l:List α} {i:Int} {x:α} (h:aY l i=some x):Fp (l.map f) i=some (f x):=by
  unfold aY at h
  unfold Fp
  split
  · rename_i h0
    rw [if_pos h0] at h
    rw [List.getElem?_map,h]
    rfl
  · rename_i h0
    rw [if_neg h0] at h
    cases h
theorem c_ {α:Type} (f:α→List AV) {l:List α} {i:Int} {x:α} (h:aY l i=some x):(l.map f)[i.toNat]?=some (f x):=by
  unfold aY at h
  split at h
  · rw [List.getElem?_map,h]
    rfl
  · cases h
theorem jK {α:Type} (f:α→List AV) (l:List α) {sz:Nat} (hf:∀ x,Nat.beq (f x).length sz=true):cW sz (l.map f)=true:=by
  cases l with
  | nil=>rfl
  | cons x l=>exact hf x
theorem Ay {α:Type} (f:α→List AV) (l:List α) (hf:∀ x,(f x).all jn=true):ba (l.map f)=true:=by
  unfold ba
  rw [List.all_eq_true]
  intro r hr
  obtain ⟨x,_,rfl⟩:=List.mem_map.1 hr
  exact hf x
theorem dX {α:Type} (f:α→List AV) (l m:List α):l.map f++m.map f=(l++m).map f:=List.map_append.symm
theorem eB {α:Type} (f:α→List AV) (l:List α) (i:Nat) (x:α):(l.map f).set i (f x)=(l.set i x).map f:=(List.map_set).symm
theorem p6 {α:Type} (f:α→List AV) (n:Nat) (x:α):List.replicate n (f x)=(List.replicate n x).map f:=List.map_replicate.symm
theorem sv {α:Type} (f:α→List AV) (l:List α) (i off a b:Nat):AV.msl i off a ((l.map f).length - b)=AV.msl i off a (l.length - b):=by rw [List.length_map]
theorem DC {α:Type} (f:α→List AV) (l:List α) (i off a b:Nat):AV.msl i off ((l.map f).length - a) b=AV.msl i off (l.length - a) b:=by rw [List.length_map]
theorem sw {α:Type} (f:α→List AV) (l:List α) (a:Nat):AV.sl ((l.map f).drop a)=AV.sl ((l.drop a).map f):=by rw [List.map_drop]
theorem A5 {α:Type} (f:α→List AV) (l:List α) (a:Nat):AV.sl ((l.map f).take a)=AV.sl ((l.take a).map f):=by rw [List.map_take]
theorem G1 {α:Type} (f:α→List AV) (l:List α) (a b:Nat):AV.sl (((l.map f).drop a).take b)=AV.sl (((l.drop a).take b).map f):=by rw [List.map_take,List.map_drop]
theorem DD {α:Type} (f:α→List AV) (l:List α) (a b:Nat):eg (.sl (((l.map f).drop a).take b)) (.sl (((l.drop a).take b).map f)):=by rw [G1]; exact eg.refl _
theorem jL {α:Type} {f:α→List AV} {l:List α} {h:Int} (e:(decide (0≤h)&&decide (h≤(l.length:Int)))=true):(decide (0≤h)&&decide (h≤(((l.map f).length:Nat):Int)))=true:=by rw [List.length_map]; exact e
theorem iu {α:Type} {f:α→List AV} {l:List α} {k m:Nat} (h:Nat.ble (l.length * k) m=true):Nat.ble ((l.map f).length * k) m=true:=by rw [List.length_map]; exact h
theorem dy {α:Type} {f:α→List AV} {l:List α} {k m n:Nat} (h:Nat.ble ((l.length + n) * k) m=true):Nat.ble (((l.map f).length + n) * k) m=true:=by rw [List.length_map]; exact h
theorem nk {α:Type} {f:α→List AV} {l l':List α} {k m:Nat} (h:Nat.ble ((l.length + l'.length) * k) m=true):Nat.ble (((l.map f).length + (l'.map f).length) * k) m=true:=by rw [List.length_map,List.length_map]; exact h
def bD {α:Type} (f:α→List AV) (c:Option (List α)):Option (List (List AV)):=c.map fun l=>l.map f
section
variable {α:Type} (f:α→List AV)
theorem kX {β:Type} {l:List β} {i:Int} {x:β} (h:aY l i=some x):0≤i∧l[i.toNat]?=some x:=by
  unfold aY at h
  split at h
  · rename_i h0
    exact ⟨h0,h⟩
  · cases h
theorem DF {cs:List (Option (List α))} {i:Nat} {x:Option (List α)} {r:List α} (h:cs[i]?=some x) (h1:x=some r):(cs.map (bD f))[i]?=some (some (r.map f)):=by
  rw [List.getElem?_map,h,h1]
  rfl
theorem Ge {cs:List (Option (List α))} {i:Nat} {x:Option (List α)} (h:cs[i]?=some x) (h1:x=none):(cs.map (bD f))[i]?=some none:=by
  rw [List.getElem?_map,h,h1]
  rfl
theorem nX {cs:List (Option (List α))} {i:Int} {x:Option (List α)} {r:List α} (h:aY cs i=some x) (h1:x=some r):(cs.map (bD f))[i.toNat]?=some (some (r.map f)):=DF f (kX h).2 h1
theorem zn {cs:List (Option (List α))} {i:Int} {x:Option (List α)} (h:aY cs i=some x) (h1:x=none):(cs.map (bD f))[i.toNat]?=some none:=Ge f (kX h).2 h1
theorem G2 {cs:List (Option (List α))} {i:Nat} {x:Option (List α)} (h:cs[i]?=some x):Nat.blt i (cs.map (bD f)).length=true:=by
  have:i<cs.length:=(List.getElem?_eq_some_iff.1 h).1
  rw [List.length_map]
  exact Nat.blt_eq.mpr this
theorem eO {cs:List (Option (List α))} {i:Int} {x:Option (List α)} (h:aY cs i=some x):Nat.blt i.toNat (cs.map (bD f)).length=true:=G2 f (kX h).2
theorem nu {cs:List (Option (List α))} {i:Int} {x:Option (List α)} (h:aY cs i=some x):(decide (0≤i)&&Nat.blt i.toNat (cs.map (bD f)).length)=true:=by
  rw [Bool.and_eq_true]
  exact ⟨decide_eq_true (kX h).1,eO f h⟩
theorem Az {a b:Bool} (h:a=true) (k:b=true):(a&&b)=true:=by rw [h,k]; rfl
theorem Gf (i:Nat):Nat.beq i i=true:=Nat.beq_refl i
theorem kr (cs:List (Option (List α))) (i:Nat) (r:List α):(cs.map (bD f)).set i (some (r.map f))=(cs.set i (some r)).map (bD f):=by
  rw [List.map_set]
  rfl
theorem EQ {cs:List (Option (List α))} {i:Nat} {x:Option (List α)} {r:List α} (h:cs[i]?=some x) (h1:x=some r):(cs.map (bD f)).set i (some (r.map f))=cs.map (bD f):=by
  have hs:=DF f h h1
  apply List.ext_getElem?
  intro j
  rw [List.getElem?_set]
  split
  · rename_i hj
    subst hj
    rw [hs]
    split
    · rfl
    · rename_i hn
      exact absurd (List.getElem?_eq_some_iff.1 hs).1 hn
  · rfl
theorem oW {cs:List (Option (List α))} {i:Int} {x:Option (List α)} {r:List α} (h:aY cs i=some x) (h1:x=some r):(cs.map (bD f)).set i.toNat (some (r.map f))=cs.map (bD f):=EQ f (kX h).2 h1
theorem G3 (n:Nat):List.replicate n (none:Option (List (List AV)))=(List.replicate n (none:Option (List α))).map (bD f):=by
  rw [List.map_replicate]
  rfl
end
theorem p7 {α:Type} {P:Program} (c:Prop) [Decidable c] (x y:Sem α):az P (if c then x else y)=if c then az P x else az P y:=by
  split <;> rfl
def Gg (f:Nat→Option Bool):List Nat→Option Bool
  | []=>some true
  | i::is=>match f i with
    | some e=>match Gg f is with
      | some s=>some (e&&s)
      | none=>none
    | none=>none
def En (P:Program):Nat→TypeId→Value→Value→Option Bool
  | 0,_,_,_=>none
  | n + 1,t,x,y =>
    match P.underlying t,x,y with
    | some .bool,.bool a,.bool b=>some (a==b)
    | some (.int _),.int k a,.int k' b=>if k=k' then some (a==b) else none
    | some .string,.string a,.string b=>some (a.toList==b.toList)
    | some (.struct fs),.agg xs,.agg ys=>match P.stoodInHeld t with
      | true=>none
      | false => fs.toList.foldr (fun f (r : Option Bool × Bool) => match f.name == "_", az P (part f.type xs f.offset), az P (part f.type ys f.offset) with
          | false,some a,some b=>match En P n f.type a b,r with
            | some e,(_,false)=>(some e,true)
            | some e,(some s,true)=>(some (e&&s),true)
            | _,_=>(none,true)
          | _,_,_=>(none,true)) (some true,false) |>.1
    | some (.array len e),.agg xs,.agg ys=>match az P (sizeOf e) with
      | some m=>Gg (fun i=>match az P (part e xs (i * m)),az P (part e ys (i * m)) with
        | some a,some b=>En P n e a b
        | _,_=>none) (List.range' 0 len)
      | none=>none
    | _,_,_=>none
theorem f7 {P:Program} {t:TypeId} {d:TypeDesc} (h:P.underlying t=some d):az P (underlying t)=some d:=by
  unfold underlying
  simp [aU,program,az,h]
  rfl
theorem Ck {P:Program} {t:TypeId} {fs:Array Field} {xs ys:Array Value} {d:Nat} (ht:P.underlying t=some (.struct fs)) (hp:P.stoodInHeld t=false) :
    az P (Op.equalIn (d + 1) t (.agg xs) (.agg ys))=az P (Op.eqFields d xs ys fs.toList):=by
  simp only [Op.equalIn,aU,f7 ht,Option.bind_some]
  have hprog:az P program=some P:=rfl
  simp only [aU,hprog,Option.bind_some,hp,Bool.false_eq_true,if_false]
  rw [← Array.forIn_toList]
  generalize fs.toList=l
  clear ht
  induction l with
  | nil=>rfl
  | cons f l ih =>
    simp only [List.forIn_cons,Op.eqFields,aU,p7]
    split
    · try simp only [aU]
      generalize az P (part f.type xs f.offset)=r1
      cases r1 with
      | none=>rfl
      | some a =>
        simp only [Option.bind_some]
        generalize az P (part f.type ys f.offset)=r2
        cases r2 with
        | none=>rfl
        | some b =>
          simp only [Option.bind_some]
          generalize az P (Op.equalIn d f.type a b)=r3
          cases r3 with
          | none=>rfl
          | some r =>
            cases r
            · rfl
            · simp only [Option.bind_some]
              exact ih
    · exact ih
def sB (d:Nat) (e:TypeId) (m:Nat) (xs ys:Array Value):List Nat→Sem Bool
  | []=>pure true
  | i::is=>do
    if !(← Op.equalIn d e (← part e xs (i * m)) (← part e ys (i * m))) then return false
    sB d e m xs ys is
theorem DG {P:Program} {t e:TypeId} {len m:Nat} {xs ys:Array Value} {d:Nat} (ht:P.underlying t=some (.array len e)) (hm:az P (sizeOf e)=some m) :
    az P (Op.equalIn (d + 1) t (.agg xs) (.agg ys))=az P (sB d e m xs ys (List.range' 0 len)):=by
  simp only [Op.equalIn,aU,f7 ht,Option.bind_some,hm]
  simp only [Std.Legacy.Range.forIn_eq_forIn_range',Std.Legacy.Range.size,Nat.sub_zero,Nat.add_one_sub_one,Nat.div_one]
  generalize List.range' 0 len=l
  clear ht
  induction l with
  | nil=>rfl
  | cons i l ih =>
    simp only [List.forIn_cons,sB,aU,p7]
    generalize az P (part e xs (i * m))=r1
    cases r1 with
    | none=>rfl
    | some a =>
      simp only [Option.bind_some]
      generalize az P (part e ys (i * m))=r2
      cases r2 with
      | none=>rfl
      | some b =>
        simp only [Option.bind_some]
        generalize az P (Op.equalIn d e a b)=r3
        cases r3 with
        | none=>rfl
        | some r =>
          cases r
          · rfl
          · simp only [Option.bind_some]
            exact ih
theorem nm {P:Program}:∀ (n d:Nat) {t:TypeId} {x y:Value} {b:Bool},n≤d→En P n t x y=some b→az P (Op.equalIn d t x y)=some b
  | 0,_,_,_,_,_,_,h=>by cases h
  | n + 1,0,_,_,_,_,hd,_=>by omega
  | n + 1,d + 1,t,x,y,b,hd,h=>by
    unfold En at h
    split at h
    · rename_i hu
      cases h
      simp only [Op.equalIn,aU,f7 hu,Option.bind_some]
      rfl
    · rename_i hu
      split at h
      · rename_i hk
        cases h
        simp only [Op.equalIn,aU,f7 hu,Option.bind_some]
        rw [if_pos hk]
        rfl
      · cases h
    · rename_i hu
      cases h
      simp only [Op.equalIn,aU,f7 hu,Option.bind_some,← beq_toListBytes]
      rfl
    · rename_i fs xs ys hu
      split at h
      · cases h
      · rename_i hp
        rw [Ck hu hp]
        have key : ∀ (l : List Field) (r : Option Bool) (m : Bool), l.foldr (fun f (r : Option Bool × Bool) => match f.name == "_", az P (part f.type xs f.offset), az P (part f.type ys f.offset) with
          | false,some a,some b=>match En P n f.type a b,r with
            | some e,(_,false)=>(some e,true)
            | some e,(some s,true)=>(some (e&&s),true)
            | _,_=>(none,true)
          | _,_,_=>(none,true)) (some true,false)=(r,m)→(m=false→l=[])∧∀ b,r=some b→az P (Op.eqFields d xs ys l)=some b:=by
          intro l
          induction l with
          | nil =>
            intro r m h
            cases h
            exact ⟨fun _=>rfl,fun b hb=>by cases hb; rfl⟩
          | cons f l ih =>
            intro r m h
            rw [List.foldr_cons] at h
            generalize hq:(l.foldr _ (some true,false):Option Bool×Bool)=q at h
            obtain ⟨r',m'⟩:=q
            obtain ⟨ih1,ih2⟩:=ih r' m' hq
            split at h
            · rename_i a b hn ha hb
              have hn' : f.name ≠ "_" := by simpa using hn
              have step:∀ e,En P n f.type a b=some e→az P (Op.eqFields d xs ys (f::l))=match e with | true=>az P (Op.eqFields d xs ys l) | false=>some false:=by
                intro e he
                simp only [Op.eqFields]
                rw [if_pos hn']
                simp only [aU,ha,hb,Option.bind_some,nm n d (by omega) he]
                cases e <;> rfl
              cases hv:En P n f.type a b with
              | none =>
                rw [hv] at h
                cases h
                exact ⟨fun h=>(by cases h),fun b' hb'=>(by cases hb')⟩
              | some e =>
                rw [hv] at h
                cases m' with
                | false =>
                  cases h
                  refine ⟨fun h=>(by cases h),fun b' hb'=>?_⟩
                  cases hb'
                  rw [step e hv,ih1 rfl]
                  cases e <;> rfl
                | true =>
                  cases r' with
                  | none =>
                    cases h
                    exact ⟨fun h=>(by cases h),fun b' hb'=>(by cases hb')⟩
                  | some s =>
                    cases h
                    refine ⟨fun h=>(by cases h),fun b' hb'=>?_⟩
                    cases hb'
                    rw [step e hv,ih2 s rfl]
                    cases e <;> rfl
            · cases h
              exact ⟨fun h=>(by cases h),fun b' hb'=>(by cases hb')⟩
        generalize hq:(fs.toList.foldr _ (some true,false):Option Bool×Bool)=q at h
        obtain ⟨r,m⟩:=q
        exact (key _ r m hq).2 b h
    · rename_i len e xs ys hu
      split at h
      · rename_i m hm
        rw [DG hu hm]
        generalize List.range' 0 len=l at h ⊢
        induction l generalizing b with
        | nil =>
          cases h
          rfl
        | cons i l ih =>
          unfold Gg at h
          split at h
          · rename_i c hc
            split at hc
            · rename_i u v h1 h2
              split at h
              · rename_i s hs
                cases h
                simp only [sB,aU,h1,h2,Option.bind_some,nm n d (by omega) hc]
                cases c
                · rfl
                · exact ih _ hs
              · cases h
            · cases hc
          · cases h
      · cases h
    · cases h
theorem Cm {P:Program} {t:TypeId} {xs ys:List Value} {b:Bool} (hg:P.eqGuardType P.depth t=false) (h:En P 16 t (.agg xs.toArray) (.agg ys.toArray)=some b):bz P .eql t xs ys=some (.bool b):=by
  unfold bz
  have h1:az P (eqGuard .eql t (.tmp 0) (.tmp 0) (.agg xs.toArray) (.agg ys.toArray))=some ():=by
    simp [eqGuard,aU,program,az,hg]
    rfl
  have h2:az P (binOp .eql t (.agg xs.toArray) (.agg ys.toArray))=some (.bool b):=by
    have:=nm (P:=P) 16 10000 (by omega) h
    simp only [binOp,Op.equal,Op.maxDepth]
    rw [aU,this]
    rfl
  rw [aU,h1]
  exact h2
theorem Cn {P:Program} {t:TypeId} {xs ys:List Value} {b:Bool} (hg:P.eqGuardType P.depth t=false) (h:En P 16 t (.agg xs.toArray) (.agg ys.toArray)=some b):bz P .neq t xs ys=some (.bool (!b)):=by
  unfold bz
  have h1:az P (eqGuard .neq t (.tmp 0) (.tmp 0) (.agg xs.toArray) (.agg ys.toArray))=some ():=by
    simp [eqGuard,aU,program,az,hg]
    rfl
  have h2:az P (binOp .neq t (.agg xs.toArray) (.agg ys.toArray))=some (.bool (!b)):=by
    have:=nm (P:=P) 16 10000 (by omega) h
    simp only [binOp,Op.equal,Op.maxDepth]
    rw [aU,this]
    rfl
  rw [aU,h1]
  exact h2
structure Ih (P:Program) (kt:TypeId) {κ:Type} (kf:κ→AV) (kv:κ→Value) (beq:κ→κ→Bool):Prop where
  tok:∀ k,zD (kf k)=some (kv k)
  eqv:∀ a b,En P 16 kt (kv a) (kv b)=some (beq a b)
  chk:∀ e k,az P (Instr.checkKey e 10000 kt (kv k))=some ()
  sam:∀ a b,beq a b=true→Instr.sameBits 10000 (kv b) (kv a)=true
section
variable {P:Program} {kt:TypeId} {κ:Type} {kf:κ→AV} {kv:κ→Value} {beq:κ→κ→Bool}
end
def o9 (H:Type) (P:Program) (t:TypeId) {α:Type} (f:α→List AV) (wf:α→Prop):Prop:=∀ (n:Nat) (d:DataW H),de P n t d=true→∃ x,dQ (gw P n t d) (f x)∧wf x
def lI (H:Type) (P:Program) (ts:List TypeId) {α:Type} (f:α→List AV) (wf:α→Prop):Prop:=∀ (n:Nat) (ds:List (DataW H)),ds.length=ts.length→((ts.zip ds).all fun x=>de P n x.1 x.2)=true→∃ x,dQ ((ts.zip ds).flatMap fun x=>gw P n x.1 x.2) (f x)∧wf x
section
variable {H:Type} {P:Program} {t:TypeId}
theorem o9.int {k:IntKind} (hu:P.underlying t=some (.int k)):o9 H P t (ao k) (CB k):=by
  intro n d h
  cases n with
  | zero=>cases h
  | succ n =>
    unfold de at h
    rw [hu] at h
    cases d with
    | lit l =>
      cases l with
      | int k' m =>
        have h:(decide (k'=k)&&(Lit.int k m).wf)=true:=h
        rw [Bool.and_eq_true] at h
        obtain ⟨h1,h2⟩:=h
        have h1:=of_decide_eq_true h1
        subst h1
        have h2:(decide (k'.min≤m)&&decide (m≤k'.max))=true:=h2
        rw [Bool.and_eq_true] at h2
        refine ⟨m,?_,of_decide_eq_true h2.1,of_decide_eq_true h2.2⟩
        unfold gw
        rw [hu]
        exact dQ.refl _
      | _=>cases h
    | _=>cases h
theorem o9.bool (hu:P.underlying t=some .bool):o9 H P t af (fun _=>True):=by
  intro n d h
  cases n with
  | zero=>cases h
  | succ n =>
    unfold de at h
    rw [hu] at h
    cases d with
    | lit l =>
      cases l with
      | bool b =>
        refine ⟨b,?_,trivial⟩
        unfold gw
        rw [hu]
        exact dQ.refl _
      | _=>cases h
    | _=>cases h
theorem o9.slice {e:TypeId} (hu:P.underlying t=some (.slice e)) {α:Type} {f:α→List AV} {wf:α→Prop} (he:o9 H P e f wf):o9 H P t (Ig f) (fun l=>l.length≤maxLen∧∀ x∈l,wf x):=by
  intro n d h
  cases n with
  | zero=>cases h
  | succ n =>
    unfold de at h
    rw [hu] at h
    cases d with
    | nil =>
      refine ⟨[],?_,by simp [maxLen],fun x hx=>by cases hx⟩
      unfold gw
      rw [hu]
      exact dQ.cons eg.nil dQ.nil
    | slice xs sp =>
      have h:(decide (xs.length≤maxLen)&&xs.all (de P n e))=true:=h
      rw [Bool.and_eq_true] at h
      obtain ⟨h1,h2⟩:=h
      have key:∀ xs:List (DataW H),xs.all (de P n e)=true→∃ l:List α,iJ (xs.map (gw P n e)) (l.map f)∧l.length=xs.length∧∀ x∈l,wf x:=by
        intro xs
        induction xs with
        | nil=>exact fun _=>⟨[],iJ.nil,rfl,fun x hx=>by cases hx⟩
        | cons x xs ih =>
          intro h
          rw [List.all_cons,Bool.and_eq_true] at h
          obtain ⟨y,hy1,hy2⟩:=he n x h.1
          obtain ⟨l,hl1,hl2,hl3⟩:=ih h.2
          refine ⟨y::l,iJ.cons hy1 hl1,by simp [hl2],fun z hz=>?_⟩
          rcases List.mem_cons.1 hz with rfl | hz
          · exact hy2
          · exact hl3 z hz
      obtain ⟨l,hl1,hl2,hl3⟩:=key xs h2
      refine ⟨l,?_,by rw [hl2]; exact of_decide_eq_true h1,hl3⟩
      unfold gw
      rw [hu]
      exact dQ.cons (eg.sl hl1) dQ.nil
    | _=>cases h
theorem lI.nil:lI H P [] (fun _:Unit=>[]) (fun _=>True):=fun _ _ _ _=>⟨(),dQ.nil,trivial⟩
theorem lI.cons {ts:List TypeId} {α β:Type} {f:α→List AV} {wf:α→Prop} {g:β→List AV} {wg:β→Prop} (h:o9 H P t f wf) (hs:lI H P ts g wg):lI H P (t::ts) (fun x:α×β=>f x.1++g x.2) (fun x=>wf x.1∧wg x.2):=by
  intro n ds hl ha
  cases ds with
  | nil=>simp at hl
  | cons d ds =>
    rw [List.zip_cons_cons,List.all_cons,Bool.and_eq_true] at ha
    obtain ⟨x,h1,h2⟩:=h n d ha.1
    obtain ⟨y,h3,h4⟩:=hs n ds (by simpa using hl) ha.2
    refine ⟨(x,y),?_,h2,h4⟩
    rw [List.zip_cons_cons,List.flatMap_cons]
    exact h1.app h3
theorem o9.struct {fs:Array Field} (hu:P.underlying t=some (.struct fs)) {α:Type} {g:α→List AV} {wg:α→Prop} (h:lI H P (fs.toList.map (·.type)) g wg):o9 H P t g wg:=by
  intro n d hd
  cases n with
  | zero=>cases hd
  | succ n =>
    unfold de at hd
    rw [hu] at hd
    cases d with
    | agg ds =>
    have hd:(Nat.beq ds.length fs.size&&(fs.toList.zip ds).all fun x=>de P n x.1.type x.2)=true:=hd
    rw [Bool.and_eq_true] at hd
    obtain ⟨h1,h2⟩:=hd
    have hlen:=Nat.eq_of_beq_eq_true h1
    obtain ⟨x,h3,h4⟩:=h n ds (by simpa using hlen) (by
      rw [List.zip_map_left,List.all_map]
      exact h2)
    refine ⟨x,?_,h4⟩
    unfold gw
    rw [hu]
    dsimp only
    rw [List.zip_map_left,List.flatMap_map] at h3
    exact h3
    | _=>cases hd
theorem o9.conv {α β:Type} {f:α→List AV} {wf:α→Prop} {g:β→List AV} {wg:β→Prop} (h:o9 H P t f wf) (φ:α→β) (hf:∀ x,f x=g (φ x)) (hw:∀ x,wf x→wg (φ x)):o9 H P t g wg:=fun n d hd=>by
  obtain ⟨x,h1,h2⟩:=h n d hd
  exact ⟨φ x,by rw [← hf]; exact h1,hw x h2⟩
theorem o9.argS {fs:Array Field} (hu:P.underlying t=some (.struct fs)) {α:Type} {f:α→List AV} {wf:α→Prop} (h:o9 H P t f wf) {n:Nat} {d:DataW H} (hd:de P n t d=true):∃ x,eg (rH P n t d) (.agg (f x))∧wf x:=by
  obtain ⟨x,h1,h2⟩:=h n d hd
  refine ⟨x,?_,h2⟩
  unfold rH
  rw [hu]
  exact eg.agg h1
end
end A
end Go.Proofs.Ytaiokpalfdbnnaa
