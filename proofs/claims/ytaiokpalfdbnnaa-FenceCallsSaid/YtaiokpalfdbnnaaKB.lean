/- The evaluator with answers; contracts out of it. Nothing is claimed here of the program. -/
import Derived.Test.YtaiokpalfdbnnaaK6
import Derived.Test.YtaiokpalfdbnnaaM0
import Derived.Laws.StructEq
namespace Go.Proofs.Ytaiokpalfdbnnaa
namespace A
open Go
def rt {α:Type}:List (Nat×α)→Nat→Option α
  | [],_=>none
  | (d,x)::xs,e=>match Nat.beq d e with | true=>some x | false=>rt xs e
structure Wk where
  ts:List Nat
  ls:List Nat
  no:Nat
  pr:List (Nat×Nat)
  pl:List (Nat×Nat×Nat)
  fz:List Nat
def HC (ts:List Nat):Nat→List AV→List AV
  | _,[]=>[]
  | i,x::xs=>(match cV ts i with | true=>x | false=>.bad)::HC ts (i + 1) xs
def z8:List Nat→St→St
  | [],S=>S
  | d::ds,S=>z8 ds (eg d S)
def CZ:Nat→Nat→List Nat
  | _,0=>[]
  | i,n + 1=>i::CZ (i + 1) n
def Ga:List Nat→St→St
  | [],S=>S
  | i::is,S=>Ga is (br i S)
def z9:List Ob→Bool
  | []=>true
  | .dead::os=>z9 os
  | _=>false
def IZ (n:Nat) (S:St):St :=
  match z9 (S.o.drop n)&&Nat.ble S.b n with
  | true=>{ t:=S.t,l:=S.l,o:=S.o.take n,b:=S.b }
  | false=>S
def Bw:List (Nat×Nat)→St→St
  | [],S=>S
  | (d,sz)::ps,S=>match S.t[d]? with
    | some .nilsl=>Bw ps { t:=S.t.set d (.mf S.o.length),l:=S.l,o:=S.o++[.arr true sz []],b:=S.b }
    | _=>Bw ps S
def ze:List (Nat×Nat×Nat)→St→St
  | [],S=>S
  | (d,j,sz)::ps,S=>match aL S.l d with
    | some row=>match row[j]? with
      | some .nilsl=>ze ps { t:=S.t,l:=rB S.l d (row.set j (.mf S.o.length)),o:=S.o++[.arr true sz []],b:=S.b }
      | _=>ze ps S
    | none=>ze ps S
def I0 (ids:List Nat) (d j:Nat) (b:AV) (S:St):St :=
  match aL (eh ids S).l d with
  | some row=>{ t:=(eh ids S).t,l:=rB (eh ids S).l d (row.set j b),o:=(eh ids S).o,b:=(eh ids S).b }
  | none=>eh ids S
def uY:List Nat→St→St
  | [],S=>S
  | d::ds,S=>match Nat.ble 10000 d with
    | true=>match aL S.l ((d - 10000) / 100) with
      | some row=>match row[d % 100]? with
        | some a=>match B7 S.o 6 a with
          | some b=>uY ds (I0 (dq S.o 6 a) ((d - 10000) / 100) (d % 100) b S)
          | none=>uY ds S
        | none=>uY ds S
      | none=>uY ds S
    | false=>match S.t[d]? with
      | some a=>match B7 S.o 6 a with
        | some b=>uY ds { t:=(eh (dq S.o 6 a) S).t.set d b,l:=(eh (dq S.o 6 a) S).l,o:=(eh (dq S.o 6 a) S).o,b:=(eh (dq S.o 6 a) S).b }
        | none=>uY ds S
      | none=>uY ds S
def KS (W:Wk) (S:St):St :=
  ze W.pl (Bw W.pr (IZ W.no (Ga (CZ W.no (S.o.length - W.no)) (z8 W.ls { t:=HC W.ts 0 S.t,l:=S.l,o:=S.o,b:=S.b }))))
def wk (W:Wk) (S:St):St:=KS W (uY W.fz S)
def d8 (a b:AV):Prop:=∀ E u,VR E a u→VR E b u
def c8 (r r':List AV):Prop:=r.length=r'.length∧∀ (i:Nat) (a b:AV),r[i]?=some a→r'[i]?=some b→d8 a b
def j1 (r r':List (List AV)):Prop:=r.length=r'.length∧∀ (i:Nat) (a b:List AV),r[i]?=some a→r'[i]?=some b→c8 a b
structure Le where
  ts:List (Nat×AV)
  ls:List (Nat×List AV)
  os:List (Nat×List (List AV))
def I1:List (Nat×AV)→St→(St→Prop)→Prop
  | [],S,K=>K S
  | (d,v)::xs,S,K=>qD S.t d fun a=>d8 a v∧sT S.t d v fun t=>I1 xs { t:=t,l:=S.l,o:=S.o,b:=S.b } K
def HD:List (Nat×List AV)→St→(St→Prop)→Prop
  | [],S,K=>K S
  | (d,r)::xs,S,K=>match aL S.l d with
    | some row=>c8 row r∧om (rB S.l d r) fun l=>HD xs { t:=S.t,l:=l,o:=S.o,b:=S.b } K
    | none=>af 450
def HE:List (Nat×List (List AV))→St→(St→Prop)→Prop
  | [],S,K=>K S
  | (i,R)::xs,S,K=>match S.o[i]? with
    | some (.arr fl sz rows)=>j1 rows R∧bi (S.o.set i (.arr fl sz R)) fun o=>HE xs { t:=S.t,l:=S.l,o:=o,b:=S.b } K
    | _=>af 451
def Gb (L:Le) (S:St) (K:St→Prop):Prop:=I1 L.ts S fun S=>HD L.ls S fun S=>HE L.os S K
structure xX where
  at_:Option Nat
  row:Option (List (List AV))
  ks:List AV
  cs:List (Option (List (List AV)))
structure dG where
  dem:List Nat
  chk:List Nat
  row:List (Nat×List AV)
  val:List (Nat×AV)
  call:List (Nat×AV)
  sto:List (Nat×(AV×List Ob))
  obr:List (Nat×(Nat×List (List AV)))
  mpr:List (Nat×List (AV×AV))
  own:List (Nat×xX)
inductive PT where
  | done
  | go (i:Nat) (t:PT)
  | alt (i:Nat) (t r:PT)
def g7:List Nat→PT
  | []=>.done
  | i::is=>.go i (g7 is)
def C0:PT→PT→Bool
  | .done,.done=>true
  | .go i t,.go j u=>Nat.beq i j&&C0 t u
  | .alt i t r,.alt j u s=>Nat.beq i j&&(C0 t u&&C0 r s)
  | _,_=>false
structure I2 where
  ord:List (Nat×PT)
  reg:List (Nat×dG)
  wr:List (Nat×Le)
  lps:List (Nat×(Wk×Le×Ex×St))
  cut:List (Nat×(Wk×Le×Ex×St))
def EZ (A:I2) (id:Nat):dG :=
  match rt A.reg id with
  | some R=>R
  | none=>⟨[],[],[],[],[],[],[],[],[]⟩
def keyOf (o:Oper):Nat :=
  match o.dst with
  | some d=>d
  | none=>match o.op with
    | .store _ (.tmp t) _=>t + 1000000
    | .mapUpdate _ (.tmp t) _ _=>t + 1000000
    | .insert _ (.tmp t) _ _=>t + 1000000
    | _=>0
def Ig (rows:List (List AV)) (i:Int):Option (List AV):=if 0≤i then rows[i.toNat]? else none
def Gc (op:BinOp) (x y:Value) (K:Value→Prop):Prop :=
  match op,x,y with
  | .quo,.int k a,.int k' b=>(decide (k=k')&&!(b==0))=true∧K (.int k (k.wrap (a.tdiv b)))
  | .rem,.int k a,.int k' b=>(decide (k=k')&&!(b==0))=true∧K (.int k (a.tmod b))
  | .shl,.int k a,.int _ b=>decide (0≤b)=true∧K (.int k (k.wrap (a * 2 ^ (min b.toNat k.bits))))
  | .shr,.int k a,.int _ b=>decide (0≤b)=true∧K (.int k (a.fdiv (2 ^ (min b.toNat k.bits))))
  | .add,.string a,.string b=>decide (((a.size + b.size:Nat):Int)≤9223372036854775807)=true∧K (.string (a++b))
  | _,_,_=>af 20
def Gd (C:Ctx) (A:dG) (o:Oper) (op:BinOp) (t:TypeId) (x y:AV) (k:AV→Prop):Prop :=
  match x,y with
  | .v a,.v b=>match Hm op a b with
    | none=>match a,b with
      | .bool x,.bool y=>AC C.P op t x y k
      | a,b=>Gc op a b fun c=>k (.v c)
    | some c=>k (.v c)
  | .agg as,.agg bs=>match uN as,uN bs with
    | some xs,some ys=>match rt A.val (keyOf o) with
      | some (.v (.bool b))=>bE C.P op t xs ys=some (.bool b)∧k (.v (.bool b))
      | _=>af 400
    | _,_=>af 401
  | _,_=>af 402
def z_ (C:Ctx) (A:dG) (o:Oper) (t:TypeId) (x ix:AV) (k:AV→Prop):Prop :=
  intOf ix fun i =>
  match C.P.underlying t,x with
  | some .string,.v (.string s)=>match rt A.val (keyOf o) with
    | some (.v (.int .u8 n))=>(if 0≤i then s[i.toNat]? else none)=some (UInt8.ofNat n.toNat)∧(n=((UInt8.ofNat n.toNat).toNat:Int)∧k (.v (.int .u8 n)))
    | _=>af 403
  | some (.array len e),.agg cs=>match C.P.info? e with
    | some inf=>(decide (0≤i)&&decide (i<len))=true∧iL C.P e cs (i.toNat * inf.size) k
    | none=>af 404
  | _,_=>af 405
def I3 (C:Ctx) (A:dG) (pl:bK) (o:Oper) (vs:List AV) (k:AV→Prop):Prop :=
  match cV A.chk (keyOf o) with
  | false=>pop C pl o vs k
  | true=>match o.op,vs with
    | .binOp op t _ _ _,[a,b]=>Gd C A o op t a b k
    | .index t _ _,[a,i]=>z_ C A o t a i k
    | _,_=>af 406
def zf (len cap:Nat) (lo hi mx:Option Int) (k:Nat→Nat→Nat→Prop):Prop :=
  match lo,hi,mx with
  | none,none,none=>k 0 len cap
  | some l,none,none=>(decide (0≤l)&&decide (l≤len))=true∧k l.toNat len cap
  | none,some h,none=>(decide (0≤h)&&decide (h≤cap))=true∧k 0 h.toNat cap
  | some l,some h,none=>(decide (0≤l)&&decide (l≤h)&&decide (h≤cap))=true∧k l.toNat h.toNat cap
  | none,some h,some m=>(decide (0≤h)&&decide (h≤m)&&decide (m≤cap))=true∧k 0 h.toNat m.toNat
  | some l,some h,some m=>(decide (0≤l)&&decide (l≤h)&&decide (h≤m)&&decide (m≤cap))=true∧k l.toNat h.toNat m.toNat
  | _,_,_=>af 63
def KF (mx hi:Option Int) (k:Bool→Prop):Prop :=
  match mx with
  | none=>k false
  | some _=>(d9 mx&&d9 hi)=false∧k false
def lY (C:Ctx) (t:TypeId) (x:AV) (lo hi mx:Option Int) (S:St) (k:AV→Prop):Prop :=
  match C.P.underlying t with
  | some .string =>
    match x,mx with
    | .v (.string s),none=>zf s.size s.size lo hi none fun l h _=>k (.v (.string (s.extract l h)))
    | _,_=>af 64
  | some (.slice e) =>
    match C.P.info? e with
    | some i=>bG (Nat.blt 0 i.size) (
      match x with
      | .sl rows=>cx i.size rows=true∧KF mx hi fun zz=>zf rows.length rows.length lo hi mx fun l h _ =>
        match lo,hi,zz with
        | _,_,true=>k .esl
        | none,none,_=>k (.sl rows)
        | _,none,_=>k (.sl (rows.drop l))
        | none,_,_=>k (.sl (rows.take h))
        | _,_,_=>k (.sl ((rows.drop l).take (h - l)))
      | .mf id=>match S.o[id]? with
        | some (.arr _ sz rows)=>bG (Nat.beq sz i.size) (KF mx hi fun zz=>zf rows.length rows.length lo hi mx fun l h m =>
          match lo,hi,zz with
          | _,_,true=>k .esl
          | none,none,_=>k (.mf id)
          | _,none,_=>k (.msl id l (rows.length - l) 0)
          | _,_,_=>k (.msl id l (h - l) (m - h)))
        | _=>af 65
      | .msl id off len ext=>match S.o[id]? with
        | some (.arr _ sz _)=>bG (Nat.beq sz i.size) (KF mx hi fun zz=>zf len (len + ext) lo hi mx fun l h m =>
          match zz with
          | true=>k .esl
          | false=>k (.msl id (l + off) (h - l) (m - h)))
        | _=>af 66
      | _=>af 67)
    | none=>af 68
  | _=>af 69
def o7 (C:Ctx) (row:List AV) (t:TypeId) (x ix:AV) (S:St) (k:AV→Prop):Prop :=
  intOf ix fun i =>
  match C.P.underlying t with
  | some (.slice e) =>
    match C.P.info? e with
    | some inf =>
      match x with
      | .sl rows=>Ig rows i=some row∧bG (Nat.beq row.length inf.size&&Nat.blt 0 inf.size) (k (.fptr row 0))
      | .mf id=>match S.o[id]? with
        | some (.arr _ _ rows)=>Ig rows i=some row∧bG (Nat.beq row.length inf.size&&Nat.blt 0 inf.size) (k (.ptr (.O id) i.toNat 0))
        | some (.own none _ cells _)=>bG (Nat.beq inf.size 1) ((decide (0≤i)&&Nat.blt i.toNat cells.length)=true∧k (.ptr (.O id) i.toNat 0))
        | _=>af 72
      | .msl id off len _=>match S.o[id]? with
        | some (.arr _ _ rows)=>(decide (0≤i)&&decide (i<len))=true∧(rows[i.toNat + off]?=some row∧bG (Nat.beq row.length inf.size&&Nat.blt 0 inf.size) (k (.ptr (.O id) (i.toNat + off) 0)))
        | _=>af 74
      | _=>af 75
    | none=>af 76
  | some (.array len e) =>
    match C.P.info? e with
    | some inf=>(decide (0≤i)&&decide (i<len))=true∧(
      match x with
      | .ptr key a j=>k (.ptr key a (i.toNat * inf.size + j))
      | .fptr row j=>k (.fptr row (i.toNat * inf.size + j))
      | _=>af 77)
    | none=>af 78
  | _=>af 79
def vl (C:Ctx) (A:dG) (o:Oper) (fid:Nat) (as:List AV) (k:AV→Prop):Prop :=
  match rt A.call (keyOf o) with
  | some r=>(C.pcall fid as fun x=>x=r)∧k r
  | none=>C.pcall fid as k
def C1 (P:Program) (op:BinOp) (t:TypeId) (x y:AV) (S:St) (k:AV→Prop):Prop :=
  match x,y with
  | .mf id,.nilsl=>match S.o[id]? with
    | some (.arr _ _ rows)=>dU rows=true∧(match P.underlying t,op with
      | some (.slice _),.eql=>k (.v (.bool false))
      | some (.slice _),.neq=>k (.v (.bool true))
      | _,_=>af 265)
    | _=>af 472
  | .sl rows,.nilsl=>dU rows=true∧(match P.underlying t,op with
      | some (.slice _),.eql=>k (.v (.bool false))
      | some (.slice _),.neq=>k (.v (.bool true))
      | _,_=>af 265)
  | _,_=>af 473
def tp (size:Nat) (S:St) (x:AV) (k:Bool→List (List AV)→Prop):Prop :=
  match x with
  | .nilsl | .esl=>k true []
  | .sl rows=>cx size rows=true∧k true rows
  | .mf id=>match S.o[id]? with | some (.arr fl sz rows)=>bG (Nat.beq sz size) (k fl rows) | _=>af 45
  | .msl id off len _=>match S.o[id]? with | some (.arr fl sz rows)=>bG (Nat.beq sz size) (k fl ((rows.drop off).take len)) | _=>af 46
  | .v (.string s)=>bG (Nat.beq size 1) (k true (s.data.toList.map fun b=>[.v (.int .u8 b.toNat)]))
  | x=>jR size S x k
def Aa (P:Program) (src dst:TypeId) (x:AV) (S:St) (s:ByteArray) (k:AV→Prop):Prop :=
  match P.underlying src,P.underlying dst with
  | some (.slice e),some .string =>
    match P.underlying e with
    | some (.int .u8)=>bG (!(JB x)) (tp 1 S x fun _ rows=>bytesOf rows=some s.data.toList∧k (.v (.string s)))
    | _=>af 481
  | _,_=>af 482
def I4 (C:Ctx) (A:dG) (o:Oper) (vs:List AV) (M:St) (k:AV→Prop):Prop :=
  match o.op,vs with
  | .load t _,[p]=>match rt A.row (keyOf o) with
    | some row=>match p with
      | .ptr (.O id) i j=>match M.o[id]? with
        | some (.arr _ _ rows)=>rows[i]?=some row∧iL C.P t row j k
        | _=>af 410
      | _=>af 411
    | none=>pY C o vs M k
  | .slice t _ lo hi mx,a::rest=>match cV A.chk (keyOf o) with
    | false=>pY C o vs M k
    | true=>match lo,hi,mx,rest with
      | none,none,none,[]=>lY C t a none none none M k
      | some _,none,none,[x]=>intOf x fun x=>lY C t a (some x) none none M k
      | none,some _,none,[y]=>intOf y fun y=>lY C t a none (some y) none M k
      | some _,some _,none,[x,y]=>intOf x fun x=>intOf y fun y=>lY C t a (some x) (some y) none M k
      | none,some _,some _,[y,z]=>intOf y fun y=>intOf z fun z=>lY C t a none (some y) (some z) M k
      | some _,some _,some _,[x,y,z]=>intOf x fun x=>intOf y fun y=>intOf z fun z=>lY C t a (some x) (some y) (some z) M k
      | _,_,_,_=>af 202
  | .indexAddr t _ _,[a,i]=>match rt A.row (keyOf o) with
    | some row=>o7 C row t a i M k
    | none=>pY C o vs M k
  | .lookup t _ _ ok,[m,key]=>match rt A.call (keyOf o) with
    | some a=>match C.P.underlying t,m with
      | some (.map kt e),.mp id=>match M.o[id]? with
        | some (.mapo _ es)=>(∀ k':AV→Prop,k' a→lQ C.P kt key es fun _ r=>pF C.P e ok es r k')∧k a
        | _=>af 412
      | _,_=>af 413
    | none=>pY C o vs M k
  | .binOp op t _ _ _,[a,b]=>match cV A.chk (keyOf o) with
    | false=>pY C o vs M k
    | true=>C1 C.P op t a b M k
  | .convert src dst _,[x]=>match rt A.call (keyOf o) with
    | some (.v (.string s))=>Aa C.P src dst x M s k
    | _=>pY C o vs M k
  | .call c,vs=>match c.callee with
    | .value _=>match vs with
      | .fn fid first cap::as=>bG (C.pure fid) (i_ M.o (first++as++cap) fun bs=>vl C A o fid bs fun r=>bG (vD 4 r||((first++as++cap).flatMap (dq M.o 6)).isEmpty) (k r))
      | _=>af 205
    | _=>pY C o vs M k
  | _,_=>pY C o vs M k
def Ab (S:St) (row:List AV) (a:AV) (cs:List AV) (K:St→Prop):Prop :=
  match a with
  | .ptr (.O id) i j =>
    match S.o[id]? with
    | some (.arr fl sz rows)=>rows[i]?=some row∧bG (Nat.ble (j + cs.length) row.length&&cs.all (uM 4)) (iJ (splice row j cs) fun row'=>bi (S.o.set id (.arr (fl&&cs.all (dj 4)) sz (rows.set i row'))) fun o=>K { t:=S.t,l:=S.l,o:=o,b:=S.b })
    | _=>af 18
  | _=>af 19
def HF (C:Ctx) (A:dG) (o:Oper) (vs:List AV) (M:St) (k:AV→St→Prop):Prop :=
  match rt A.row (keyOf o) with
  | none=>yr C o vs M k
  | some row=>match o.op,vs with
    | .store t _ _,[p,y]=>match p with
      | .ptr (.O _) _ _=>m7 y fun cs=>match C.P.info? t with
        | some i=>bG (Nat.beq cs.length i.size) (Ab M row p cs fun M'=>k .bad M')
        | none=>af 208
      | _=>yr C o vs M k
    | _,_=>yr C o vs M k
def r6 (P:Program) (ts:List TypeId) (base x:AV) (S:St) (k:St→AV→Prop):Prop :=
  match ts with
  | [t0,t1] =>
    match P.underlying t0 with
    | some (.slice e) =>
      match P.info? e with
      | some i=>bG (Nat.blt 0 i.size&&Nat.blt 0 i.bytes&&Ia i&&(match P.underlying t1 with | some (.slice _) | some .string=>true | _=>false)) (tp i.size S x fun fl src=>aO src=true∧(
          match base with
          | .nilsl | .esl=>Nat.ble (src.length * i.bytes) 140737488355328=true∧(bi (S.o++[.arr fl i.size src]) fun o=>k { t:=S.t,l:=S.l,o:=o,b:=S.b } (.mf S.o.length))
          | .mf id=>match S.o[id]? with
            | some (.arr fl' sz rows)=>bG (Nat.beq sz i.size&&(fl||!fl')) (Nat.ble ((rows.length + src.length) * i.bytes) 140737488355328=true∧qb S id (.arr (fl'&&fl) sz (rows++src)) fun S' id'=>k S' (.mf id'))
            | _=>af 48
          | .msl id off len ext=>match S.o[id]? with
            | some (.arr fl' sz rows)=>bG (Nat.beq sz i.size&&(fl||!fl')) (Nat.ble src.length ext=true∧(Nat.ble (off + len + ext) rows.length=true ∧
                bi (S.o.set id (.arr (fl'&&fl) sz (rows.take (off + len)++(src++rows.drop (off + len + src.length))))) fun o=>k { t:=S.t,l:=S.l,o:=o,b:=S.b } (.msl id off (len + src.length) (ext - src.length))))
            | _=>af 49
          | _=>af 50))
      | none=>af 51
    | _=>af 52
  | _=>af 53
def tq (P:Program) (ts:List TypeId) (base x:AV) (k:AV→Prop):Prop :=
  match ts with
  | [t0,t1] =>
    match P.underlying t0 with
    | some (.slice e) =>
      match P.info? e with
      | some i=>bG (Nat.blt 0 i.size&&Nat.blt 0 i.bytes&&Ia i&&(match P.underlying t1 with | some (.slice _) | some .string=>true | _=>false)) (tp i.size JA x fun fl src=>bG fl (aO src=true∧(Nat.ble (src.length * i.bytes) 140737488355328=true∧(
          match base with
          | .nilsl | .esl=>k (.sl src)
          | _=>af 254))))
      | none=>af 255
    | _=>af 256
  | _=>af 257
def j2 (P:Program) (t:TypeId) (l c:AV) (S:St) (k:St→AV→Prop):Prop :=
  match P.underlying t with
  | some (.slice e) =>
    match P.info? e with
    | some i=>intOf l fun l=>intOf c fun c=>(decide (0≤l)&&decide (l≤c)&&decide (i.bytes * c≤140737488355328)&&decide (c≤140737488355328)&&Nat.blt 0 i.size)=true ∧
        (cE P e fun z=>bG (z.all (dj 2)) (bi (S.o++[.arr true i.size (List.replicate l.toNat z)]) fun o=>k { t:=S.t,l:=S.l,o:=o,b:=S.b } (.mf S.o.length)))
    | none=>af 61
  | _=>af 62
def HG (P:Program) (t:TypeId) (l c:AV) (k:AV→Prop):Prop :=
  j2 P t l c JA fun S' _=>match S'.o with
    | [.arr _ _ rows]=>k (.sl rows)
    | _=>af 312
def I5 (C:Ctx) (o:Oper) (vs:List AV) (k:AV→Prop):Prop :=
  match o.op,vs with
  | .call c,[x,y]=>match c.callee with
    | .builtin .append=>tq C.P c.argTypes.toList x y k
    | _=>af 258
  | .makeSlice t _ _,[l,c]=>HG C.P t l c k
  | _,_=>af 259
def tr (P:Program) (ts:List TypeId) (base:AV) (n:Int) (S:St) (k:St→AV→Prop):Prop :=
  match ts with
  | [t0,t1] =>
    match P.underlying t0,P.underlying t1 with
    | some (.slice e),some (.int _) =>
      match P.info? e with
      | some i=>(Nat.blt 0 i.size&&Nat.blt 0 i.bytes&&decide (0<n)&&decide (n * i.bytes≤140737488355328)&&decide (n≤140737488355328))=true∧(cE P e fun z=>bG (z.all (dj 2)) (
          match base with
          | .nilsl | .esl=>bi (S.o++[.arr true i.size (List.replicate n.toNat z)]) fun o=>k { t:=S.t,l:=S.l,o:=o,b:=S.b } (.mf S.o.length)
          | _=>af 250))
      | none=>af 251
    | _,_=>af 252
  | _=>af 253
def C2 (P:Program) (ts:List TypeId) (x y:AV) (M:St) (k:AV→St→Prop):Prop :=
  match ts with
  | t::_ =>
    match P.underlying t with
    | some (.slice e) =>
      match P.info? e with
      | some i=>bG (Nat.blt 0 i.size) (tp i.size M y fun fl src=>aO src=true∧bG (!(JB y)) (
          match x with
          | .mf id=>match M.o[id]? with
            | some (.arr fl' sz rows)=>bG (Nat.beq sz i.size) (bi (M.o.set id (.arr (fl'&&fl) sz (src.take rows.length++rows.drop src.length))) fun o=>k (.v (.int .i64 ((min src.length rows.length:Nat):Int))) { t:=M.t,l:=M.l,o:=o,b:=M.b })
            | _=>af 243
          | .msl id off len _=>match M.o[id]? with
            | some (.arr fl' sz rows)=>bG (Nat.beq sz i.size) (Nat.ble (off + len) rows.length=true∧(bi (M.o.set id (.arr (fl'&&fl) sz (rows.take off++(src.take len++rows.drop (off + min src.length len))))) fun o=>k (.v (.int .i64 ((min src.length len:Nat):Int))) { t:=M.t,l:=M.l,o:=o,b:=M.b }))
            | _=>af 244
          | _=>af 245))
      | none=>af 246
    | _=>af 247
  | []=>af 248
def C3 (C:Ctx) (A:dG) (o:Oper) (f:AV) (args:List AV) (S:St) (k:St→AV→Prop):Prop :=
  match f with
  | .fn fid first cap =>
    match C.pure fid with
    | true=>i_ S.o (first++args++cap) fun as=>vl C A o fid as fun r =>
        match vD 4 r with
        | true=>k S r
        | false=>eN ((first++args++cap).flatMap (dq S.o 6)) S fun S'=>k S' r
    | false=>bG ((first++args++cap).all (uM 4)) (match rt A.sto (keyOf o) with
      | some (r,o')=>(C.scall fid (first++args++cap) S.o fun r' o''=>r'=r∧o''=o')∧j_ (bY S.o o' 0) S.t S.l fun t l=>k { t:=t,l:=l,o:=o',b:=S.b } r
      | none=>C.scall fid (first++args++cap) S.o fun r o'=>j_ (bY S.o o' 0) S.t S.l fun t l=>k { t:=t,l:=l,o:=o',b:=S.b } r)
  | _=>af 97
def lZ (P:Program) (R:List (AV×AV)) (t:TypeId) (m key x:AV) (S:St) (K:St→Prop):Prop :=
  match P.underlying t with
  | some (.map kt _) =>
    match m with
    | .mp id=>match S.o[id]? with
      | some (.mapo fl es)=>bG (uM 4 x) ((∀ K':List (AV×AV)→Prop,K' R→lQ P kt key es fun kv r=>bG (Et P kt kv) (
          match r with
          | some i=>bG (Instr.sameBits 10000 ((es[i]?.bind fun e=>B8 e.1).getD (.bool false)) kv) (K' (es.set i (key,x)))
          | none=>K' (es++[(key,x)])))∧bi (S.o.set id (.mapo (fl&&dj 4 x) R)) fun o=>K { t:=S.t,l:=S.l,o:=o,b:=S.b })
      | _=>af 106
    | _=>af 107
  | _=>af 108
def Ac (P:Program) (ts:List TypeId) (x:AV) (S:St) (K:St→Prop):Prop :=
  match ts with
  | t::_ =>
    match P.underlying t with
    | some (.slice e) =>
      match P.info? e with
      | some i=>bG (Nat.blt 0 i.size) (
          match x with
          | .msl id off len _=>match S.o[id]? with
            | some (.arr fl sz rows)=>bG (Nat.beq sz i.size) (Nat.ble (off + len) rows.length=true∧cE P e fun z=>bG (z.all (dj 2)&&z.all kV) (bi (S.o.set id (.arr (fl&&true) sz (rows.take off++(List.replicate len z++rows.drop (off + len))))) fun o=>K { t:=S.t,l:=S.l,o:=o,b:=S.b }))
            | _=>af 267
          | _=>af 268)
      | none=>af 269
    | _=>af 270
  | []=>af 271
def HH (C:Ctx) (A:dG) (pl:bK) (o:Oper) (S:St) (K:St→Prop):Prop :=
  match o.op with
  | .mapUpdate t m key x=>match rt A.mpr (keyOf o) with
    | some R=>cR S m fun m=>cR S key fun key=>cR S x fun x=>lZ C.P R t m key x S fun S'=>bB o.dst .bad S' K
    | none=>vM C pl o S K
  | .insert t m key x=>match rt A.mpr (keyOf o) with
    | some R=>cR S m fun m=>cR S key fun key=>cR S x fun x=>lZ C.P R t m key x S fun S'=>bB o.dst .bad S' K
    | none=>vM C pl o S K
  | .makeSlice t l c=>match cV A.chk (keyOf o) with
    | true=>cR S l fun l=>cR S c fun c=>j2 C.P t l c S fun S' a=>bB o.dst (KC (cV pl.nn (o.dst.getD 0)) a) S' K
    | false=>vM C pl o S K
  | .call c=>match c.callee with
    | .builtin .append=>match cV A.chk (keyOf o) with
      | true=>dp S c.args.toList fun as=>match as with
        | [x,.v (.int _ n)]=>tr C.P c.argTypes.toList x n S fun S' r=>bB o.dst r S' K
        | [.ene,y]=>bG (cV pl.nn (o.dst.getD 0)) (r6 C.P c.argTypes.toList .esl y S fun S' r=>bB o.dst (JK r) S' K)
        | [x,y]=>r6 C.P c.argTypes.toList x y S fun S' r=>bB o.dst r S' K
        | _=>af 210
      | false=>vM C pl o S K
    | .builtin .copy=>dp S c.args.toList fun as=>match as with
        | [x,y]=>C2 C.P c.argTypes.toList x y S fun r S'=>bB o.dst r S' K
        | _=>af 249
    | .builtin .clear=>match cV A.chk (keyOf o) with
      | true=>dp S c.args.toList fun as=>match as with
        | [x]=>Ac C.P c.argTypes.toList x S fun S'=>bB o.dst (.tup []) S' K
        | _=>af 249
      | false=>vM C pl o S K
    | .value f=>cR S f fun fv=>dp S c.args.toList fun as=>C3 C A o fv as S fun S' r=>bB o.dst r S' K
    | _=>vM C pl o S K
  | _=>vM C pl o S K
def Ih (A:dG) (dst:Option Tmp) (S:St) (K:St→Prop):Prop :=
  match dst with
  | none=>K S
  | some d=>match rt A.val d with
    | none=>K S
    | some v=>qD S.t d fun a=>a=v∧sT S.t d v fun t=>K { t:=t,l:=S.l,o:=S.o,b:=S.b }
def Ge (A:dG) (key:Nat) (S:St) (K:St→Prop):Prop :=
  match rt A.obr key with
  | none=>K S
  | some (id,R)=>match S.o[id]? with
    | some (.arr fl sz rows)=>rows=R∧bi (S.o.set id (.arr fl sz R)) fun o=>K { t:=S.t,l:=S.l,o:=o,b:=S.b }
    | _=>af 430
def Gf (C:Ctx) (A:dG) (pl:bK) (o:Oper) (S:St) (K:St→Prop):Prop :=
  dp S o.op.operands.toList fun vs=>I3 C A pl o vs fun r=>bB o.dst r S K
def Gg (C:Ctx) (A:dG) (o:Oper) (S:St) (K:St→Prop):Prop :=
  dp S o.op.operands.toList fun vs=>I4 C A o vs (cY S) fun r=>bB o.dst r S K
def Ii (C:Ctx) (A:dG) (o:Oper) (S:St) (K:St→Prop):Prop :=
  dp S o.op.operands.toList fun vs=>HF C A o vs (cY S) fun r M=>bB o.dst r (fg S M) K
def pN (row:Option (List (List AV))) (M:St) (pk:Bool) (id i:Nat) (k:AV→St→Prop):Prop :=
  match M.o[id]? with
  | some (.own ks sz cells none)=>match row with
    | none=>cells[i]?=some none∧k .nilsl M
    | some rows=>cells[i]?=some (some rows)∧match pk&&Ay sz with | true=>k .nn M | false=>jh (Fx sz M.o.length) fun h=>bi (M.o.set id (.own ks sz cells (some (i,h)))++[.arr true (vC sz) rows]) fun o=>k (.mf M.o.length) { t:=M.t,l:=M.l,o:=o,b:=M.b }
  | _=>af 323
def tu (P:Program) (a:xX) (t:TypeId) (same pk:Bool) (M:St) (id i:Nat) (k:AV→St→Prop):Prop :=
  match same with
  | true=>match M.o[id]? with
    | some (.own none _ cells (some (j,a)))=>(Nat.beq i j&&Nat.blt j cells.length)=true∧iL P t [KO a] 0 fun r=>k r M
    | _=>af 324
  | false=>pN a.row M pk id i fun a M'=>iL P t [a] 0 fun r=>k r M'
def q9 (P:Program) (t:TypeId) (M:St) (id i:Nat) (v:AV) (K:St→Prop):Prop :=
  match P.info? t,M.o[id]? with
  | some inf,some (.own none sz cells hole)=>bG (Hn sz v&&Nat.beq inf.size 1) ((Nat.blt i cells.length&&kh hole i)=true∧(bi (M.o.set id (.own none sz cells (some (i,v)))) fun o=>K { t:=M.t,l:=M.l,o:=o,b:=M.b }))
  | _,_=>af 325
def tv (P:Program) (nw:Bool) (j:Nat) (a:xX) (t:TypeId) (l c:AV) (M:St) (k:AV→St→Prop):Prop :=
  match P.underlying t with
  | some (.slice e) =>
    match P.info? e,P.underlying e with
    | some i,some (.slice e2)=>match P.info? e2 with
      | some i2=>intOf l fun l=>intOf c fun c=>(decide (0≤l)&&decide (l≤c)&&decide (i.bytes * c≤140737488355328)&&decide (c≤140737488355328)&&Nat.blt 0 i.size)=true∧bG (Nat.beq i.size 1&&(Nat.blt 0 i2.size&&Nat.blt i2.size 65536))
          (cE P e fun z=>match z with
            | [.nilsl]=>List.replicate l.toNat none=a.cs∧oq j M.o M.b (.own none (match nw with | true=>i2.size + 65536 | false=>i2.size) a.cs none) fun o=>k (.mf j) { t:=M.t,l:=M.l,o:=o,b:=M.b }
            | _=>af 325)
      | none=>af 326
    | _,_=>af 61
  | _=>af 62
def tw (P:Program) (a:xX) (t:TypeId) (m key:AV) (ok:Bool) (M:St) (k:AV→St→Prop):Prop :=
  match P.underlying t with
  | some (.map kt e)=>match m with
    | .mp id=>match M.o[id]? with
      | some (.own (some ks) _ _ none)=>match a.at_ with
        | some i=>(∀ K':Option Nat→Prop,K' (some i)→lQ P kt key (lR ks) fun _ r=>K' r)∧pN a.row M false id i fun a M'=>ox ok a true fun r=>k r M'
        | none=>(∀ K':Option Nat→Prop,K' none→lQ P kt key (lR ks) fun _ r=>K' r)∧kg P e ok fun r=>k r M
      | _=>af 333
    | _=>af 334
  | _=>af 335
def JS (M:St) (id sz:Nat) (cells:List (Option (List (List AV)))) (hole:Option (Nat×AV)) (x:AV) (K:St→Prop) (r:Option Nat) (ks:List AV):Prop :=
  match r with
  | some i=>kh hole i=true∧(bi (M.o.set id (.own (some ks) sz cells (some (i,x)))) fun o=>K { t:=M.t,l:=M.l,o:=o,b:=M.b })
  | none=>match hole with
    | none=>bi (M.o.set id (.own (some ks) sz (cells++[none]) (some (cells.length,x)))) fun o=>K { t:=M.t,l:=M.l,o:=o,b:=M.b }
    | some _=>af 339
def r7 (P:Program) (a:xX) (t:TypeId) (m key x:AV) (M:St) (K:St→Prop):Prop :=
  match P.underlying t with
  | some (.map kt _)=>match m with
    | .mp id=>match M.o[id]? with
      | some (.own (some ks) sz cells hole)=>bG (Cf x&&!Ay sz) ((∀ K':Option Nat→List AV→Prop,K' a.at_ a.ks→lQ P kt key (lR ks) fun kv r=>bG (Et P kt kv) (match r with
          | some i=>bG (Instr.sameBits 10000 ((ks[i]?.bind B8).getD (.bool false)) kv) (K' (some i) (ks.set i key))
          | none=>K' none (ks++[key])))∧JS M id sz cells hole x K a.at_ a.ks)
      | _=>af 340
    | _=>af 341
  | _=>af 342
def DD (P:Program) (A:dG) (pl:bK) (o:Oper) (vs:List AV) (M:St) (k:AV→St→Prop):Prop :=
  match rt A.own (keyOf o) with
  | none=>lJ P pl o vs M k
  | some a=>match o.op,vs with
    | .load t _,[p]=>jj M p fun id i=>tu P a t (Dn pl o) (cV pl.pk (o.dst.getD 0)) M id i k
    | .store t _ _,[p,v]=>jj M p fun id i=>q9 P t M id i v fun M'=>k .bad M'
    | .makeSlice t _ _,[l,c]=>tv P (cV pl.nw (o.dst.getD 0)) (vG pl.ix o.dst M.o.length) a t l c M k
    | .lookup t _ _ ok,[m,key]=>tw P a t m key ok M k
    | .mapUpdate t _ _ _,[m,key,x]=>r7 P a t m key x M fun M'=>k .bad M'
    | .insert t _ _ _,[m,key,x]=>r7 P a t m key x M fun M'=>k .bad M'
    | _,_=>af 343
def pO (A:dG) (S:St) (id:Nat) (K:St→Prop):Prop :=
  match rt A.own (id + 2000000) with
  | none=>iM S id K
  | some a=>match S.o[id]? with
    | some (.own ks sz cells (some (j,.mf k)))=>match S.o[k]? with
      | some (.arr true sz' rows)=>bG (Nat.beq sz' (vC sz)&&!Ay sz) (Nat.blt j cells.length=true∧(cells.set j (some rows)=a.cs∧eN [k] S fun S1=>bi (S1.o.set id (.own ks sz a.cs none)) fun o=>K { t:=S1.t,l:=S1.l,o:=o,b:=S1.b }))
      | _=>af 320
    | some (.own ks sz cells (some (j,.mfx k)))=>match S.o[k]? with
      | some (.arr true sz' rows)=>bG (Nat.beq sz' (vC sz)) (Nat.blt j cells.length=true∧(cells.set j (some rows)=a.cs∧eN [k] S fun S1=>bi (S1.o.set id (.own ks sz a.cs none)) fun o=>K { t:=S1.t,l:=S1.l,o:=o,b:=S1.b }))
      | _=>af 320
    | some (.own ks sz cells (some (j,.nilsl)))=>Nat.blt j cells.length=true∧(cells.set j none=a.cs∧(bi (S.o.set id (.own ks sz a.cs none)) fun o=>K { t:=S.t,l:=S.l,o:=o,b:=S.b }))
    | _=>af 321
def wY (A:dG):List Nat→St→(St→Prop)→Prop
  | [],S,K=>K S
  | id::ids,S,K=>pO A S id fun S'=>wY A ids S' K
def r8 (A:dG) (S:St) (id:Nat) (K:St→Prop):Prop :=
  match rt A.mpr (id + 2000000) with
  | none=>kB S id K
  | some R=>match S.o[id]? with
    | some (.own (some ks) _ cells none)=>oy ks cells=R∧(bi (S.o.set id (.mapo true R)) fun o=>K { t:=S.t,l:=S.l,o:=o,b:=S.b })
    | _=>af 344
def tz (A:dG):List Nat→St→(St→Prop)→Prop
  | [],S,K=>K S
  | id::ids,S,K=>r8 A S id fun S'=>tz A ids S' K
def wZ (A:dG) (pl:bK) (id:Nat) (S:St) (K:St→Prop):Prop :=
  match cV pl.cl id with
  | false=>K S
  | true=>wY A (Ce S.o.length) S fun S1=>match cV pl.fr id with
    | false=>K S1
    | true=>tz A (Ce S1.o.length) S1 K
def C4 (C:Ctx) (A:dG) (o:Oper) (vs:List AV) (M:St) (k:AV→St→Prop):Prop :=
  match o.op,vs with
  | .makeSlice t _ _,[l,c]=>match cV A.chk (keyOf o) with
    | true=>j2 C.P t l c M fun M' r=>k r M'
    | false=>lS C o vs M k
  | .call c,.fn fid first cap::as=>match c.callee with
    | .value _=>bG (!(C.pure fid)&&(first++as++cap).all (uM 4)) (match rt A.sto (keyOf o) with
      | some (r,o')=>(C.scall fid (first++as++cap) M.o fun r' o''=>r'=r∧o''=o')∧bG (bY M.o o' 0).isEmpty (k r { t:=M.t,l:=M.l,o:=o',b:=M.b })
      | none=>C.scall fid (first++as++cap) M.o fun r o'=>bG (bY M.o o' 0).isEmpty (k r { t:=M.t,l:=M.l,o:=o',b:=M.b }))
    | _=>af 310
  | _,_=>HF C A o vs M k
def Gi (C:Ctx) (A:dG) (pl:bK) (o:Oper) (vs:List AV) (M:St) (k:AV→St→Prop):Prop :=
  match fX pl o with
  | true=>DD C.P A pl o vs M k
  | false=>C4 C A o vs M k
def Ij (C:Ctx) (A:dG) (pl:bK) (o:Oper) (S:St) (K:St→Prop):Prop :=
  dp S o.op.operands.toList fun vs=>DD C.P A pl o vs (cY S) fun r M=>bB o.dst r (fg S M) K
def Gj (C:Ctx) (A:dG) (pl:bK) (o:Oper) (S:St) (K:St→Prop):Prop :=
  dp S o.op.operands.toList fun vs=>Gi C A pl o vs (cY S) fun r M=>bB o.dst r (fg S M) K
def Ik (C:Ctx) (o:Oper) (S:St) (K:St→Prop):Prop :=
  dp S o.op.operands.toList fun vs=>I5 C o vs fun r=>bB o.dst r S K
def nZ (A:dG) (o:Oper) (K:St→Prop) (S:St):Prop:=Ih A o.dst S fun S'=>Ge A (keyOf o) S' K
def I6 (C:Ctx) (A:dG) (pl:bK) (o:Oper) (S:St) (K:St→Prop):Prop :=
  match FH o with
  | 0=>Gf C A pl o S (nZ A o K)
  | 1=>Gg C A o S (nZ A o K)
  | 2=>Ii C A o S (nZ A o K)
  | _=>HH C A pl o S (nZ A o K)
def Il (C:Ctx) (A:dG) (pl:bK) (o:Oper) (S:St) (K:St→Prop):Prop :=
  match fX pl o with
  | true=>Ij C A pl o S (nZ A o K)
  | false=>I6 C A pl o S K
def By (C:Ctx) (A:dG) (pl:bK) (o:Oper) (S:St) (K:St→Prop):Prop :=
  match fC pl o with
  | 0=>Gf C A pl o S (nZ A o K)
  | 1=>Gg C A o S (nZ A o K)
  | 2=>Gj C A pl o S (nZ A o K)
  | 4=>match o.dst with
    | some d=>bB o.dst (.ptr (.L d) 0 0) S K
    | none=>af 217
  | 5=>Ik C o S (nZ A o K)
  | _=>match AE pl o with
    | true=>af 219
    | false=>HH C A pl o S (nZ A o K)
def I7 (op:BinOp):Bool :=
  match op with
  | .eql | .neq=>true
  | _=>false
def zg (op:BinOp):Bool :=
  match op with
  | .eql=>true
  | _=>false
def Im (P:Program) (o:Oper) (S:St) (K:St→Prop):Prop :=
  match o.op with
  | .binOp op t x (.const (.slice none 0 0)) _=>match P.underlying t with
    | some (.slice _)=>cR S x fun a=>match a with
      | .sl rows=>bG (I7 op) ((rows=[]→bB o.dst (.v (.bool (zg op))) S K)∧bB o.dst (.v (.bool (!(zg op)))) S K)
      | _=>af 460
    | _=>af 461
  | _=>af 462
def Ad (C:Ctx) (A:dG) (pl:bK) (all:Array Oper):List Oper→St→(St→Prop)→Prop
  | [],S,K=>K S
  | o::rest,S,K =>
    match o.guard with
    | none=>match cV A.dem (keyOf o) with
      | true=>Im C.P o S fun S'=>Ad C A pl all rest S' K
      | false=>Il C A pl o S fun S'=>Ad C A pl all rest S' K
    | some (j,want) =>
      match rD all j with
      | none=>af 218
      | some d=>gn d S fun b S1=>gsel b want (Il C A pl o S1 fun S'=>Ad C A pl all rest S' K) (bB o.dst (.tup []) S1 fun S'=>Ad C A pl all rest S' K)
def KT (C:Ctx) (A:dG) (pl:bK) (all:Array Oper) (o:Oper) (S:St) (K:St→Prop):Prop :=
  match o.guard with
  | none=>bG (jk pl all o S) (By C A pl o S K)
  | some (j,want) =>
    match rD all j with
    | none=>af 218
    | some d=>gn d S fun b S1=>gsel b want (bG (jk pl all o S1) (By C A pl o S1 K)) (bB o.dst (.tup []) S1 K)
def JD (C:Ctx) (A:dG) (pl:bK) (ai:Array Oper) (i:Nat) (S:St) (K:St→Prop):Prop :=
  match ai[i]? with
  | none=>af 303
  | some o=>KT C A pl ai o S K
def oT (C:Ctx) (A:dG) (pl:bK) (ai:Array Oper):PT→Option (St×Prop)→St→(St→Prop)→Prop
  | .done,m,S,K=>match m with
    | none=>K S
    | some (_,X)=>X
  | .go i t,m,S,K=>match m with
    | none=>JD C A pl ai i S fun S'=>oT C A pl ai t none S' K
    | some (_,_)=>af 305
  | .alt i t r,m,S,K=>match m with
    | none=>JD C A pl ai i S fun S'=>oT C A pl ai t none S' fun S1=>oT C A pl ai r (some (S1,K S1)) S K
    | some (S1,X)=>JD C A pl ai i S fun S'=>oT C A pl ai t none S' fun S2=>S2=S1∧oT C A pl ai r (some (S1,X)) S K
def qq (f:Nat→Option PT):List Nat→Option PT
  | []=>some .done
  | i::is=>match f i with
    | some t=>match qq f is with
      | some r=>some (.alt i t r)
      | none=>none
    | none=>none
def MU:List Nat→Bool
  | [_,_] | [_,_,_] | [_,_,_,_]=>true
  | _=>false
def ku (pl:bK) (ai:Array Oper) (ws:List Nat):Nat→Nat→Array Bool→Option PT
  | 0,_,listed=>match Region.ready .any ai listed with
    | []=>some .done
    | _::_=>none
  | n + 1,a,listed =>
    match Region.ready .any ai listed with
    | []=>some .done
    | r::rs=>match oF pl ai ws listed (r::rs) with
      | some k=>match ku pl ai ws n a (listed.setIfInBounds k true) with | some t=>some (.go k t) | none=>none
      | none=>match rs with
        | []=>match ku pl ai ws n a (listed.setIfInBounds r true) with | some t=>some (.go r t) | none=>none
        | _::_=>match MU (r::rs),a with
          | true,a + 1=>qq (fun i=>ku pl ai ws n a (listed.setIfInBounds i true)) (r::rs)
          | _,_=>none
def zh (pl:bK) (ai:Array Oper) (ws:List Nat):Nat→Array Bool→Option PT
  | 0,listed=>ku pl ai ws 0 6 listed
  | n + 1,listed=>match oG ai listed (Region.ready .any ai listed) with
    | some i=>match zh pl ai ws n (listed.setIfInBounds i true) with | some t=>some (.go i t) | none=>none
    | none=>ku pl ai ws (n + 1) 6 listed
def w7 (pl:bK) (ai:Array Oper):Option PT :=
  match Ic ai with
  | false=>none
  | true=>match pl.cl with
    | []=>ku pl ai (bZ ai.toList []) ai.size 3 (Array.replicate ai.size false)
    | _::_=>zh pl ai (bZ ai.toList []) ai.size (Array.replicate ai.size false)
def lr (pl:bK) (ord:List (Nat×PT)):Code→Bool
  | .region id ai true=>match rt ord id,w7 pl ai with
    | some is,some js=>C0 is js
    | _,_=>false
  | .seq a b=>lr pl ord a&&lr pl ord b
  | .cond _ a b=>lr pl ord a&&lr pl ord b
  | .block _ c=>lr pl ord c
  | .loop c=>lr pl ord c
  | _=>true
def qt:Code→Nat
  | .region id _ _=>id
  | .seq a _=>qt a
  | .cond _ a _=>qt a
  | .block _ c=>qt c
  | .loop c=>qt c
  | _=>0
def E0 (A:I2) (id:Nat) (S:St) (K:St→Prop):Prop :=
  match rt A.wr id with
  | some L=>Gb L S K
  | none=>K S
def HI:Type:=Code→St→(Ex→St→Prop)→Prop
def w8 (C:Ctx) (cd:HI) (A:I2) (pl:bK):Code→St→(Ex→St→Prop)→Prop
  | .skip,S,K=>K .nrm S
  | .region id ai draw,S,K =>
    match draw with
    | false=>Ad C (EZ A id) pl ai ai.toList S fun S'=>wZ (EZ A id) pl id S' fun S''=>E0 A id S'' (K .nrm)
    | true=>match rt A.ord id with
      | some is=>bG (uc pl ai) (xH C.P (cy ai.toList) S fun S1=>oT C (EZ A id) pl ai is none S1 fun S'=>k8 (cy ai.toList) S' (wZ (EZ A id) pl id S' fun S''=>E0 A id S'' (K .nrm)))
      | none=>af 440
  | .seq a b,S,K=>w8 C cd A pl a S fun e S'=>match e with
    | .nrm=>match rt A.cut (qt b) with
      | some (W,L,e1,S1)=>Gb L (wk W S') fun S2=>cd b S2 (fun e' S3=>e'=e1∧S3=S1)∧K e1 S1
      | none=>w8 C cd A pl b S' K
    | .ex i=>K (.ex i) S'
    | .ret=>K .ret S'
  | .cond c x y,S,K=>ol c S fun b S'=>match b with
    | true=>w8 C cd A pl x S' K
    | false=>w8 C cd A pl y S' K
  | .block id c,S,K=>w8 C cd A pl c S fun e S'=>match e with
    | .ex i=>match Nat.beq i id with | true=>K .nrm S' | false=>K (.ex i) S'
    | .nrm=>K .nrm S'
    | .ret=>K .ret S'
  | .loop c,S,K=>match rt A.lps (qt c) with
    | some (W,L,e,S1)=>Gb L (wk W S) fun S2=>(C.loop pl c S2 fun e' S'=>e'=e∧S'=S1)∧K e S1
    | none=>C.loop pl c S K
  | .exit id,S,K=>K (.ex id) S
  | .ret,S,K=>K .ret S
  | _,_,_=>af 119
def sub:Code→List Nat→Code
  | c,[]=>c
  | .seq a _,0::p=>sub a p
  | .seq _ b,_::p=>sub b p
  | .cond _ a _,0::p=>sub a p
  | .cond _ _ b,_::p=>sub b p
  | .block _ c,_::p=>sub c p
  | .loop c,_::p=>sub c p
  | c,_=>c
def bz (P:Program) (f:Nat):Code :=
  match P.funcs[f]? with
  | some fn=>fn.body.getD .skip
  | none=>.skip
def dK (S S':St):Prop:=∀ (G:Gh) (E:Env) (a:Act) (w:World),ah G pn E S w→TR E S.t a→∃ E',ah G pn E' S' w∧TR E' S'.t a
def I8:Ex→Nat
  | .nrm=>0
  | .ret=>1
  | .ex i=>i + 2
def I9 (C:Ctx) (cd:HI) (A:I2) (pl:bK) (we:List (Nat×(Wk×Le))) (c:Code) (S:St) (K:Ex→St→Prop):Prop :=
  w8 C cd A pl c S fun e S'=>match rt we (I8 e) with
    | some (W,L)=>Gb L (wk W S') (K e)
    | none=>K e S'
def My:List (Nat×AV)→Nat→Nat→List AV
  | _,_,0=>[]
  | xs,i,n + 1=>(match rt xs i with | some a=>a | none=>.bad)::My xs (i + 1) n
def cK (n:Nat) (ts:List (Nat×AV)) (l:List (Nat×List AV)) (o:List Ob) (b:Nat):St:={ t:=My ts 0 n,l:=l,o:=o,b:=b }
theorem dK.refl (S:St):dK S S:=fun _ E _ _ h k=>⟨E,h,k⟩
theorem dK.trans {S S' S'':St} (h:dK S S') (k:dK S' S''):dK S S'':=fun G E a w hM ht=>by
  obtain ⟨E1,h1,h2⟩:=h G E a w hM ht
  exact k G E1 a w h1 h2
theorem d8.refl (a:AV):d8 a a:=fun _ _ h=>h
theorem d8.trans {a b c:AV} (h:d8 a b) (k:d8 b c):d8 a c:=fun _ _ hv=>k _ _ (h _ _ hv)
theorem d8.bad (a:AV):d8 a .bad:=fun _ _ _=>.bad _ _
theorem d8.nil:d8 .nilsl (.sl []):=fun E u h=>by cases h; exact .sln E
theorem d8.esl:d8 .esl (.sl []):=fun E u h=>by
  cases h with
  | esln=>exact .sln E
  | esl _ a=>exact .sle E a 0
theorem c8.refl (r:List AV):c8 r r:=⟨rfl,fun _ _ _ h k=>by rw [h] at k; cases k; exact .refl _⟩
theorem c8.nil:c8 [] []:=.refl _
theorem c8.cons {a b:AV} {r r':List AV} (h:d8 a b) (k:c8 r r'):c8 (a::r) (b::r') :=
  ⟨by simp [k.1],fun i x y h1 h2=>by
    cases i with
    | zero=>simp at h1 h2; subst h1 h2; exact h
    | succ i=>exact k.2 i x y (by simpa using h1) (by simpa using h2)⟩
theorem c8.vrs {r r':List AV} {E:Env} {us:List Value} (h:c8 r r') (hv:cb E r us):cb E r' us :=
  ⟨by rw [← h.1]; exact hv.1,fun m c u h1 h2=>by
    have hm:m<r.length:=by rw [h.1]; exact (List.getElem?_eq_some_iff.1 h1).1
    exact h.2 m _ c (List.getElem?_eq_getElem hm) h1 _ _ (hv.2 m _ u (List.getElem?_eq_getElem hm) h2)⟩
theorem d8.agg {r r':List AV} (h:c8 r r'):d8 (.agg r) (.agg r'):=fun E u hv=>by
  obtain ⟨us,rfl,h1⟩:=hv.aggI
  exact cb.aggV (h.vrs h1)
theorem d8.tup {r r':List AV} (h:c8 r r'):d8 (.tup r) (.tup r'):=fun E u hv=>by
  obtain ⟨us,rfl,h1⟩:=hv.tupI
  have:=h.vrs h1
  exact .tup us (by simpa using this.1) (fun m c u h1 h2=>this.2 m c u h1 (by simpa using h2))
theorem d8.fptr {r r':List AV} {j:Nat} (h:c8 r r'):d8 (.fptr r j) (.fptr r' j):=fun E u hv=>by
  cases hv with
  | fptr j us h1 h2 h3 h4 =>
    have:=h.vrs (E:=E.fz) (us:=us) ⟨h1.symm,h2⟩
    exact .fptr j us this.1.symm this.2 h3 h4
theorem j1.refl (r:List (List AV)):j1 r r:=⟨rfl,fun _ _ _ h k=>by rw [h] at k; cases k; exact .refl _⟩
theorem j1.nil:j1 [] []:=.refl _
theorem j1.cons {a b:List AV} {r r':List (List AV)} (h:c8 a b) (k:j1 r r'):j1 (a::r) (b::r') :=
  ⟨by simp [k.1],fun i x y h1 h2=>by
    cases i with
    | zero=>simp at h1 h2; subst h1 h2; exact h
    | succ i=>exact k.2 i x y (by simpa using h1) (by simpa using h2)⟩
theorem j1.app {a b r r':List (List AV)} (h:j1 a b) (k:j1 r r'):j1 (a++r) (b++r'):=by
  induction a generalizing b with
  | nil =>
    have:b=[]:=List.eq_nil_of_length_eq_zero h.1.symm
    subst this
    exact k
  | cons x a ih =>
    cases b with
    | nil=>exact absurd h.1 (by simp)
    | cons y b=>exact .cons (h.2 0 x y rfl rfl) (ih ⟨by simpa using h.1,fun i p q h1 h2=>h.2 (i + 1) p q (by simpa using h1) (by simpa using h2)⟩)
theorem c8.app {a b r r':List AV} (h:c8 a b) (k:c8 r r'):c8 (a++r) (b++r'):=by
  induction a generalizing b with
  | nil =>
    have:b=[]:=List.eq_nil_of_length_eq_zero h.1.symm
    subst this
    exact k
  | cons x a ih =>
    cases b with
    | nil=>exact absurd h.1 (by simp)
    | cons y b=>exact .cons (h.2 0 x y rfl rfl) (ih ⟨by simpa using h.1,fun i p q h1 h2=>h.2 (i + 1) p q (by simpa using h1) (by simpa using h2)⟩)
theorem j1.flat {r r':List (List AV)} (h:j1 r r'):c8 r.flatten r'.flatten:=by
  induction r generalizing r' with
  | nil =>
    have:r'=[]:=List.eq_nil_of_length_eq_zero h.1.symm
    subst this
    exact .refl _
  | cons x a ih =>
    cases r' with
    | nil=>exact absurd h.1 (by simp)
    | cons y b =>
      have h1:=h.2 0 x y rfl rfl
      have h2:=ih (r':=b) ⟨by simpa using h.1,fun i p q h1 h2=>h.2 (i + 1) p q (by simpa using h1) (by simpa using h2)⟩
      rw [List.flatten_cons,List.flatten_cons]
      have app:∀ {a b r r':List AV},c8 a b→c8 r r'→c8 (a++r) (b++r'):=by
        intro a b r r' h k
        induction a generalizing b with
        | nil =>
          have:b=[]:=List.eq_nil_of_length_eq_zero h.1.symm
          subst this
          exact k
        | cons x a ih =>
          cases b with
          | nil=>exact absurd h.1 (by simp)
          | cons y b=>exact .cons (h.2 0 x y rfl rfl) (ih ⟨by simpa using h.1,fun i p q h1 h2=>h.2 (i + 1) p q (by simpa using h1) (by simpa using h2)⟩)
      exact app h1 h2
theorem j1.lens {r r':List (List AV)} {sz:Nat} (h:j1 r r') (hl:∀ x∈r,x.length=sz):∀ x∈r',x.length=sz:=by
  intro x hx
  obtain ⟨i,hi⟩:=List.getElem?_of_mem hx
  have hlt:i<r.length:=by rw [h.1]; exact (List.getElem?_eq_some_iff.1 hi).1
  rw [← (h.2 i _ x (List.getElem?_eq_getElem hlt) hi).1]
  exact hl _ (List.getElem_mem hlt)
theorem d8.sl {r r':List (List AV)} (h:j1 r r'):d8 (.sl r) (.sl r'):=fun E u hv=>by
  cases hv with
  | sln =>
    have:r'=[]:=List.eq_nil_of_length_eq_zero h.1.symm
    subst this
    exact .sln E
  | sle _ a cap =>
    have:r'=[]:=List.eq_nil_of_length_eq_zero h.1.symm
    subst this
    exact .sle E a cap
  | sl us h1 h2 h3 h4 h5 h6 h7 =>
    have hf:=h.flat
    have:=hf.vrs (E:=E.fz) (us:=us) ⟨h3.symm,h4⟩
    rw [h.1]
    exact .sl us h1 (h.lens h2) this.1.symm this.2 h5 h6 (by rw [← h.1]; exact h7)
theorem DF {ts:List Nat}:∀ {t:List AV} {i j:Nat} {c:AV},(HC ts i t)[j]?=some c→c=.bad∨t[j]?=some c
  | [],_,_,_,h=>by simp [HC] at h
  | x::xs,i,0,c,h=>by
    simp only [HC,List.getElem?_cons_zero,Option.some.injEq] at h
    split at h
    · exact .inr (by rw [← h]; rfl)
    · exact .inl h.symm
  | x::xs,i,j + 1,c,h=>by
    simp only [HC,List.getElem?_cons_succ] at h
    rw [List.getElem?_cons_succ]
    exact DF h
theorem DG {ts:List Nat}:∀ {t:List AV} {i:Nat},(HC ts i t).length=t.length
  | [],_=>rfl
  | x::xs,i=>by simp [HC,DG]
theorem Gk (ts:List Nat) (S:St):dK S { t:=HC ts 0 S.t,l:=S.l,o:=S.o,b:=S.b }:=fun _ E _ _ hM ht =>
  ⟨E,hM.congr rfl rfl rfl,by rw [DG]; exact ht.len,fun n c u h1 h2=>by
    rcases DF h1 with h | h
    · rw [h]; exact .bad _ _
    · exact ht.val n c u h h2,ht.df,ht.gt⟩
theorem Ae (d:Nat) (S:St):dK S (eg d S):=fun G E a w hM ht=>by
  obtain ⟨E1,h1,h2,_⟩:=qM hM ht d rfl
  exact ⟨E1,h1,h2⟩
theorem r9:∀ (ds:List Nat) (S:St),dK S (z8 ds S)
  | [],S=>.refl S
  | d::ds,S=>(Ae d S).trans (r9 ds _)
theorem zi (i:Nat) (S:St):dK S (br i S):=fun _ _ _ _ hM ht =>
  let ⟨h1,h2⟩:=uo hM ht i
  ⟨_,h1,h2⟩
theorem w9:∀ (ds:List Nat) (S:St),dK S (Ga ds S)
  | [],S=>.refl S
  | d::ds,S=>(zi d S).trans (w9 ds _)
theorem o8:∀ {os:List Ob} {i:Nat} {x:Ob},z9 os=true→os[i]?=some x→x=.dead
  | [],i,x,_,h=>by simp at h
  | .dead::os,0,x,_,h=>by simp at h; exact h.symm
  | .dead::os,i + 1,x,h,h1=>o8 (os:=os) (i:=i) h (by simpa using h1)
  | .arr _ _ _::os,_,_,h,_=>by cases h
  | .mapo _ _::os,_,_,h,_=>by cases h
  | .own _ _ _ _::os,_,_,h,_=>by cases h
theorem E4 (n:Nat) (S:St):dK S (IZ n S):=fun _ E _ _ hM ht=>by
  unfold IZ
  split
  · rename_i h
    rw [Bool.and_eq_true] at h
    have hb:=Nat.le_of_ble_eq_true h.2
    have hbl:=hM.bl
    refine ⟨E,⟨hM.hp,hM.os,hM.tape,hM.output,hM.size,hM.keep,hM.F0,hM.Flt,hM.Fnew,hM.own,hM.inj,hM.loc,fun id=>?_,fun id hid=>?_,?_,hM.szs,hM.pk,fun id=>?_⟩,ht⟩
    · have h0:=hM.obj id
      show fy E (S.o.take n)[id]? _
      rw [List.getElem?_take]
      split
      · exact h0
      · rename_i hn
        cases hx:S.o[id]? with
        | none=>rw [hx] at h0; exact h0
        | some x =>
          have:x=.dead:=o8 h.1 (i:=id - n) (by rw [List.getElem?_drop]; rw [show n + (id - n)=id by omega]; exact hx)
          rw [hx,this] at h0
          revert h0
          cases E.mu (.O id) with
          | none=>exact fun _=>trivial
          | some _=>exact fun h=>h.elim
    · show (S.o.take n)[id]?=some .dead∨_
      have hid':id<S.b:=hid
      rw [List.getElem?_take,if_pos (by omega)]
      exact hM.old id hid
    · show S.b≤(S.o.take n).length
      rw [List.length_take]
      omega
    · have h0:=hM.ow id
      show dJ E id (S.o.take n)[id]?
      rw [List.getElem?_take]
      split
      · exact h0
      · rename_i hn
        cases hx:S.o[id]? with
        | none=>rw [hx] at h0; exact h0
        | some x =>
          have:x=.dead:=o8 h.1 (i:=id - n) (by rw [List.getElem?_drop]; rw [show n + (id - n)=id by omega]; exact hx)
          rw [hx,this] at h0
          exact h0
  · exact ⟨E,hM,ht⟩
theorem w_ {G:Gh} {E:Env} {S:St} {w:World} (hM:ah G pn E S w):E.mu (.O S.o.length)=none:=by
  have:=hM.obj S.o.length
  rw [List.getElem?_eq_none (Nat.le_refl _)] at this
  revert this
  cases E.mu (.O S.o.length) with
  | none=>exact fun _=>rfl
  | some _=>exact fun h=>h.elim
theorem Bz {G:Gh} {E:Env} {S:St} {w:World} (hM:ah G pn E S w) (sz:Nat) (t:List AV):ah G pn ⟨E.F,aF E.mu (.O S.o.length) .virt,E.h⟩ { t:=t,l:=S.l,o:=S.o++[.arr true sz []],b:=S.b } w:=by
  have hbl:=hM.bl
  refine hM.addkey' (key:=.O S.o.length) (mv:=.virt) (fun _ _=>rfl) (fun _ h=>by cases h) (w_ hM) (fun _ _ _ _ h=>by cases h) (fun _ _=>rfl) (fun id hid=>?_) rfl ?_ (fun id h=>?_) (fun _ h=>by cases h) (fun id h=>?_) ?_
  · show (S.o++[_])[id]?=_
    by_cases h:id<S.o.length
    · rw [List.getElem?_append_left h]
    · have hne:id≠S.o.length:=fun e=>hid (by rw [e])
      rw [List.getElem?_eq_none (by simp; omega),List.getElem?_eq_none (by omega)]
  · show S.b≤(S.o++[_]).length
    simp
    omega
  · cases h
    exact hbl
  · cases h
    show fy _ (S.o++[_])[S.o.length]? _
    rw [List.getElem?_append_right (Nat.le_refl _),Nat.sub_self]
    rfl
  · exact hM.ow_push rfl rfl
theorem q_:∀ (ps:List (Nat×Nat)) (S:St),dK S (Bw ps S)
  | [],S=>.refl S
  | (d,sz)::ps,S=>by
    unfold Bw
    split
    · rename_i hd
      refine dK.trans ?_ (q_ ps _)
      intro G E a w hM ht
      refine ⟨_,Bz hM sz _,?_⟩
      have hle:LE E ⟨E.F,aF E.mu (.O S.o.length) .virt,E.h⟩:=jV (w_ hM)
      refine ⟨by simpa using ht.len,fun n c u h1 h2=>?_,ht.df,ht.gt.mono hle⟩
      have h1':(S.t.set d (.mf S.o.length))[n]?=some c:=h1
      rw [List.getElem?_set] at h1'
      split at h1'
      · rename_i e
        subst e
        split at h1'
        · cases h1'
          have hv:=ht.val d _ u hd h2
          cases hv
          exact .mfn (by show aF _ _ _ _=_; unfold aF; rw [if_pos rfl])
        · cases h1'
      · exact (ht.val n c u h1' h2).mono hle
    · exact q_ ps S
theorem nB:∀ (ps:List (Nat×Nat×Nat)) (S:St),dK S (ze ps S)
  | [],S=>.refl S
  | (d,j,sz)::ps,S=>by
    unfold ze
    split
    · rename_i row hd
      split
      · rename_i hj
        refine dK.trans ?_ (nB ps _)
        intro G E a w hM ht
        have hle:LE E ⟨E.F,aF E.mu (.O S.o.length) .virt,E.h⟩:=jV (w_ hM)
        refine ⟨_,?_,ht.mono hle⟩
        have h0:=Bz hM sz S.t
        refine ⟨h0.hp,h0.os,h0.tape,h0.output,h0.size,h0.keep,h0.F0,h0.Flt,h0.Fnew,h0.own,h0.inj,fun e=>?_,h0.obj,h0.old,h0.bl,h0.szs,(fun _ _ h=>by cases h),h0.ow⟩
        have h1:=h0.loc e
        show gO pn _ (aL (rB S.l d (row.set j (.mf S.o.length))) e) e
        rw [jo hd]
        split
        · rename_i e'
          subst e'
          have h1':gO pn ⟨E.F,aF E.mu (.O S.o.length) .virt,E.h⟩ (aL S.l d) d:=h1
          rw [hd] at h1'
          rcases h1' with ⟨b,h2,h3,h4,us,ty,h5,h6,h7⟩ | ⟨_,h2,_⟩
          · refine .inl ⟨b,by simpa using h2,by simpa using h3,by simp,us,ty,h5,by simpa using h6,fun m c hc=>?_⟩
            have hf:[row.set j (.mf S.o.length)].flatten=row.set j (.mf S.o.length):=by simp
            have hf0:[row].flatten=row:=by simp
            rw [hf,List.getElem?_set] at hc
            split at hc
            · rename_i e'
              subst e'
              split at hc
              · cases hc
                obtain ⟨u,hu,hv⟩:=h7 j .nilsl (by rw [hf0]; exact hj)
                refine ⟨u,hu,?_⟩
                cases hv
                exact .mfn (by show aF _ _ _ _=_; unfold aF; rw [if_pos rfl])
              · cases hc
            · exact h7 m c (by rw [hf0]; exact hc)
          · cases h2
        · exact h1
      · exact nB ps S
    · exact nB ps S
theorem DI {G:Gh} {E:Env} {S:St} {w:World} {a:Act} (hM:ah G pn E S w) (ht:TR E S.t a) (ids:List Nat):LE (E.fd ids) ⟨FD E ids,jq ids E.mu,E.h⟩∧ah G pn ⟨FD E ids,jq ids E.mu,E.h⟩ (eh ids S) w∧TR ⟨FD E ids,jq ids E.mu,E.h⟩ (eh ids S).t a:=by
  obtain ⟨hS1,ht1⟩:=mg (ids:=ids) hM ht
  obtain ⟨hle2,hS2⟩:=hS1.freeze (F':=FD E ids) (fun b h=>.inl h) (fun b h=>by
    rcases h with h | ⟨id,hid,o',s,n,hm⟩
    · exact .inl h
    · obtain ⟨h1,h2,h3⟩:=hM.own _ _ _ _ _ hm
      refine .inr ⟨h2,h3,fun k o'' s' n' h'=>?_⟩
      obtain ⟨h4,h5⟩:=iq h'
      exact h5 id hid (hM.inj _ _ _ _ _ _ _ _ _ h4 hm))
  exact ⟨⟨fun _ h=>h,fun _ _ _ h=>(by cases h),fun _ _=>rfl,fun _ _ _ _ _ _ h=>(by cases h)⟩,hS2,ht1.mono hle2⟩
theorem E5 {S:St} {d j:Nat} {row:List AV} {x y:AV} (hr:aL S.l d=some row) (hj:row[j]?=some x) (hy:B7 S.o 6 x=some y):dK S (I0 (dq S.o 6 x) d j y S):=by
  intro G E a w hM ht
  obtain ⟨hle,hS2,ht2⟩:=DI hM ht (dq S.o 6 x)
  unfold I0
  split
  · rename_i row' hr'
    refine ⟨_,⟨hS2.hp,hS2.os,hS2.tape,hS2.output,hS2.size,hS2.keep,hS2.F0,hS2.Flt,hS2.Fnew,hS2.own,hS2.inj,fun e=>?_,hS2.obj,hS2.old,hS2.bl,hS2.szs,(fun _ _ h=>by cases h),hS2.ow⟩,ht2⟩
    show gO pn _ (aL (rB (eh (dq S.o 6 x) S).l d (row'.set j y)) e) e
    rw [jo hr']
    split
    · rename_i e'
      subst e'
      have l1:=hM.loc d
      have l2:=hS2.loc d
      rw [hr] at l1
      rw [hr'] at l2
      rcases l1 with ⟨b,h2,h3,h4,us,ty,h5,h6,h7⟩ | ⟨_,h2,_⟩
      · rcases l2 with ⟨b',k2,k3,k4,us',ty',k5,k6,k7⟩ | ⟨_,k2,_⟩
        · have k2':=(iq k2).1
          rw [h2] at k2'
          injection k2' with k2'
          injection k2' with e1 _ _ _
          subst e1
          have k5':E.h[b]?=_:=k5
          rw [h5] at k5'
          cases k5'
          refine .inl ⟨b,by simpa using k2,by simpa using k3,by simp,us,ty,k5,by simpa using k6,fun m c hc=>?_⟩
          have hf:[row'.set j y].flatten=row'.set j y:=by simp
          have hf0:[row'].flatten=row':=by simp
          rw [hf,List.getElem?_set] at hc
          split at hc
          · rename_i e'
            subst e'
            split at hc
            · cases hc
              have hf1:[row].flatten=row:=by simp
              obtain ⟨u,hu,hv⟩:=h7 j x (by rw [hf1]; exact hj)
              exact ⟨u,hu,(gq hM 6 hy hv (ids:=dq S.o 6 x) (fun _ h=>h)).mono hle⟩
            · cases hc
          · exact k7 m c (by rw [hf0]; exact hc)
        · cases k2
      · cases h2
    · exact hS2.loc e
  · exact ⟨_,hS2,ht2⟩
theorem fB:∀ (ds:List Nat) (S:St),dK S (uY ds S)
  | [],S=>.refl S
  | d::ds,S=>by
    unfold uY
    split
    · split
      · rename_i row hr
        split
        · rename_i x hx
          split
          · rename_i y hy
            exact (E5 hr hx hy).trans (fB ds _)
          · exact fB ds S
        · exact fB ds S
      · exact fB ds S
    · split
      · rename_i x hx
        split
        · rename_i y hy
          refine dK.trans ?_ (fB ds _)
          intro G E a w hM ht
          obtain ⟨hle,hS2,ht2⟩:=DI hM ht (dq S.o 6 x)
          refine ⟨_,hS2.congr rfl rfl rfl,by simpa using ht2.len,fun n c u h1 h2=>?_,ht2.df,ht2.gt⟩
          have h1':((eh (dq S.o 6 x) S).t.set d y)[n]?=some c:=h1
          rw [List.getElem?_set] at h1'
          split at h1'
          · rename_i e
            subst e
            split at h1'
            · cases h1'
              exact (gq hM 6 hy (ht.val d _ u hx h2) (ids:=dq S.o 6 x) (fun _ h=>h)).mono hle
            · cases h1'
          · exact ht2.val n c u h1' h2
        · exact fB ds S
      · exact fB ds S
theorem Gl (W:Wk) (S:St):dK S (KS W S):=by
  unfold KS
  exact (Gk W.ts S).trans ((r9 W.ls _).trans ((w9 _ _).trans ((E4 _ _).trans ((q_ _ _).trans (nB _ _)))))
theorem pQ (W:Wk) (S:St):dK S (wk W S):=(fB W.fz S).trans (Gl W _)
theorem BA:∀ {xs:List (Nat×AV)} {S:St} {K:St→Prop},I1 xs S K→∃ S',dK S S'∧K S'
  | [],S,K,h=>⟨S,.refl S,h⟩
  | (d,v)::xs,S,K,h=>by
    obtain ⟨a,ha,hl,h⟩:=cj.1 h
    rw [d3] at h
    obtain ⟨S',h1,h2⟩:=BA h
    refine ⟨S',dK.trans ?_ h1,h2⟩
    intro G E act w hM ht
    refine ⟨E,hM.congr rfl rfl rfl,by simpa using ht.len,fun n c u h1 h2=>?_,ht.df,ht.gt⟩
    have h1':(S.t.set d v)[n]?=some c:=h1
    rw [List.getElem?_set] at h1'
    split at h1'
    · rename_i e
      subst e
      split at h1'
      · cases h1'
        exact hl _ _ (ht.val d _ u ha h2)
      · cases h1'
    · exact ht.val n c u h1' h2
theorem BB:∀ {xs:List (Nat×List AV)} {S:St} {K:St→Prop},HD xs S K→∃ S',dK S S'∧K S'
  | [],S,K,h=>⟨S,.refl S,h⟩
  | (d,r)::xs,S,K,h=>by
    unfold HD at h
    split at h
    · rename_i row hd
      obtain ⟨hl,h⟩:=h
      rw [iQ] at h
      obtain ⟨S',h1,h2⟩:=BB h
      refine ⟨S',dK.trans ?_ h1,h2⟩
      intro G E act w hM ht
      refine ⟨E,?_,ht⟩
      refine ⟨hM.hp,hM.os,hM.tape,hM.output,hM.size,hM.keep,hM.F0,hM.Flt,hM.Fnew,hM.own,hM.inj,fun e=>?_,hM.obj,hM.old,hM.bl,hM.szs,(fun _ _ h=>by cases h),hM.ow⟩
      have h1:=hM.loc e
      show gO pn _ (aL (rB S.l d r) e) e
      rw [jo hd]
      split
      · rename_i e'
        subst e'
        rw [hd] at h1
        rcases h1 with ⟨b,h2,h3,h4,us,ty,h5,h6,h7⟩ | ⟨_,h2,_⟩
        · refine .inl ⟨b,by rw [← hl.1]; exact h2,by rw [← hl.1]; exact h3,by simp,us,ty,h5,by rw [← hl.1]; exact h6,fun m c hc=>?_⟩
          have hf:[r].flatten=r:=by simp
          have hf0:[row].flatten=row:=by simp
          rw [hf] at hc
          have hm:m<row.length:=by rw [hl.1]; exact (List.getElem?_eq_some_iff.1 hc).1
          obtain ⟨u,hu,hv⟩:=h7 m _ (by rw [hf0]; exact List.getElem?_eq_getElem hm)
          exact ⟨u,hu,hl.2 m _ c (List.getElem?_eq_getElem hm) hc _ _ hv⟩
        · cases h2
      · exact h1
    · exact False.elim h
theorem BC:∀ {xs:List (Nat×List (List AV))} {S:St} {K:St→Prop},HE xs S K→∃ S',dK S S'∧K S'
  | [],S,K,h=>⟨S,.refl S,h⟩
  | (i,R)::xs,S,K,h=>by
    unfold HE at h
    split at h
    · rename_i fl sz rows hi
      obtain ⟨hl,h⟩:=h
      rw [ax] at h
      obtain ⟨S',h1,h2⟩:=BC h
      refine ⟨S',dK.trans ?_ h1,h2⟩
      intro G E act w hM ht
      refine ⟨E,?_,ht⟩
      refine ⟨hM.hp,hM.os,hM.tape,hM.output,hM.size,hM.keep,hM.F0,hM.Flt,hM.Fnew,hM.own,hM.inj,hM.loc,fun id=>?_,fun id hid=>?_,by show S.b≤(S.o.set _ _).length; rw [List.length_set]; exact hM.bl,hM.szs,hM.pk,fun id=>?_⟩
      · have h1:=hM.obj id
        show fy E (S.o.set i _)[id]? _
        rw [List.getElem?_set]
        split
        · rename_i e
          subst e
          rw [if_pos (List.getElem?_eq_some_iff.1 hi).1]
          rw [hi] at h1
          revert h1
          cases E.mu (.O i) with
          | none=>exact fun h=>h
          | some mv =>
            cases mv with
            | virt =>
              intro h
              have h:rows=[]:=h
              subst h
              exact List.eq_nil_of_length_eq_zero hl.1.symm
            | blk b o s n =>
              rintro ⟨⟨h1,h2⟩,h3,h4,us,ty,h5,h6,h7⟩
              refine ⟨⟨h1,by rw [← hl.1]; exact h2⟩,h3,hl.lens h4,us,ty,h5,by rw [← hl.1]; exact h6,fun m c hc=>?_⟩
              have hf:=hl.flat
              have hm:m<rows.flatten.length:=by rw [hf.1]; exact (List.getElem?_eq_some_iff.1 hc).1
              obtain ⟨u,hu,hv⟩:=h7 m _ (List.getElem?_eq_getElem hm)
              exact ⟨u,hu,hf.2 m _ c (List.getElem?_eq_getElem hm) hc _ _ hv⟩
        · exact h1
      · have h1:=hM.old id hid
        show (S.o.set i _)[id]?=some .dead∨_
        rw [List.getElem?_set]
        split
        · rename_i e
          subst e
          rcases h1 with h1 | h1
          · rw [hi] at h1; cases h1
          · exact .inr h1
        · exact h1
      · have h1:=hM.ow id
        show dJ E id (S.o.set i _)[id]?
        rw [List.getElem?_set]
        split
        · rename_i e
          subst e
          rw [if_pos (List.getElem?_eq_some_iff.1 hi).1]
          rw [hi] at h1
          exact h1
        · exact h1
    · exact False.elim h
theorem l3 {L:Le} {S:St} {K:St→Prop} (h:Gb L S K):∃ S',dK S S'∧K S':=by
  obtain ⟨S1,h1,h⟩:=BA h
  obtain ⟨S2,h2,h⟩:=BB h
  obtain ⟨S3,h3,h⟩:=BC h
  exact ⟨S3,h1.trans (h2.trans h3),h⟩
structure xd (C:Ctx):Prop where
  det:gu C
theorem aw.mono2 {α β:Type} {X:(α→β→Prop)→Prop} (h:ar X) {K K':α→β→Prop} (hx:X K) (hk:∀ r s,K r s→K' r s):X K':=by
  obtain ⟨r,s,h1,h2⟩:=h _ hx
  exact h2 _ (hk r s h1)
theorem aw.mono {α:Type} {X:(α→Prop)→Prop} (h:aw X) {K K':α→Prop} (hx:X K) (hk:∀ r,K r→K' r):X K':=by
  obtain ⟨r,h1,h2⟩:=h K hx
  exact h2 _ (hk r h1)
theorem ar.mono {α β:Type} {X:(α→β→Prop)→Prop} (h:ar X) {K K':α→β→Prop} (hx:X K) (hk:∀ a b,K a b→K' a b):X K':=by
  obtain ⟨a,b,h1,h2⟩:=h K hx
  exact h2 _ (hk a b h1)
theorem E6 {op:BinOp} {x y:Value} {K:Value→Prop} (h:Gc op x y K):vE op x y K:=by
  unfold Gc at h
  unfold vE
  split at h <;> first
    | exact al h.1 h.2
    | exact False.elim h
section
variable {C:Ctx} {A:dG} {pl:bK} {o:Oper}
theorem E7 {op:BinOp} {t:TypeId} {x y:AV} {k:AV→Prop} (h:Gd C A o op t x y k):Cd C.P op t x y k:=by
  unfold Gd at h
  split at h
  · rename_i a b
    show yo C.P op t a b k
    unfold yo
    split at h
    · rename_i hn
      rw [hn]
      dsimp only
      split at h
      · exact h
      · rename_i a b hne
        split
        · exact (hne _ _ rfl rfl).elim
        · exact E6 h
    · rename_i c hc
      rw [hc]
      exact h
  · rename_i as bs
    show (match uN as,uN bs with
    | some xs,some ys =>
      match bE C.P op t xs ys with
      | some (.bool b)=>k (.v (.bool b))
      | _=>af 226
    | _,_=>af 227)
    split at h
    · rename_i xs ys h1 h2
      try rw [h1,h2]
      try dsimp only
      split at h
      · rw [h.1]
        exact h.2
      · exact False.elim h
    · exact False.elim h
  · exact False.elim h
theorem BD {t:TypeId} {x ix:AV} {k:AV→Prop} (h:z_ C A o t x ix k):qE C.P t x ix k:=by
  unfold z_ at h
  unfold qE
  refine aw.mono bd h (fun i h'=>?_)
  clear h
  split at h'
  · rename_i s hu
    rw [hu]
    dsimp only
    split at h'
    · rw [h'.1]
      dsimp only
      have h2:=h'.2.2
      rw [h'.2.1] at h2
      exact h2
    · exact False.elim h'
  · rename_i len e cs hu
    rw [hu]
    dsimp only
    have h:=h'
    split at h
    · rename_i inf hi
      rw [hi]
      exact al h.1 h.2
    · exact False.elim h
  · exact False.elim h'
theorem Gm {vs:List AV} {k:AV→Prop} (h:I3 C A pl o vs k):pop C pl o vs k:=by
  unfold I3 at h
  split at h
  · exact h
  · split at h
    · rename_i ho
      unfold pop
      rw [ho]
      exact E7 h
    · rename_i ho
      unfold pop
      rw [ho]
      exact BD h
    · exact False.elim h
theorem pR {len cap:Nat} {lo hi mx:Option Int} {k:Nat→Nat→Nat→Prop} (h:zf len cap lo hi mx k):sU len cap lo hi mx k:=by
  unfold zf at h
  unfold sU
  split at h <;> first
    | exact h
    | exact al h.1 h.2
    | exact False.elim h
theorem Af {mx hi:Option Int} {k:Bool→Prop} (h:KF mx hi k):k (d9 mx&&d9 hi):=by
  cases mx with
  | none=>exact h
  | some m =>
    obtain ⟨h1,h2⟩:=h
    rw [h1]
    exact h2
theorem iu {t:TypeId} {x:AV} {lo hi mx:Option Int} {S:St} {k:AV→Prop} (h:lY C t x lo hi mx S k):ji C.P t x lo hi mx S k:=by
  unfold lY at h
  unfold ji
  split at h
  · rename_i hu
    rw [hu]
    dsimp only
    split at h
    · exact pR h
    · exact False.elim h
  · rename_i e hu
    rw [hu]
    dsimp only
    split at h
    · rename_i i hi
      rw [hi]
      dsimp only
      obtain ⟨h0,h⟩:=ac h
      refine al h0 ?_
      split at h
      · have h2:=Af h.2
        rw [Bool.and_comm (d9 _) (d9 _)] at h2
        exact al h.1 (pR h2)
      · split at h
        · rename_i ho
          dsimp only
          rw [ho]
          obtain ⟨h1,h⟩:=ac h
          have h2:=Af h
          rw [Bool.and_comm (d9 _) (d9 _)] at h2
          exact al h1 (pR h2)
        · exact False.elim h
      · split at h
        · rename_i ho
          dsimp only
          rw [ho]
          obtain ⟨h1,h⟩:=ac h
          have h2:=Af h
          rw [Bool.and_comm (d9 _) (d9 _)] at h2
          exact al h1 (pR h2)
        · exact False.elim h
      · exact False.elim h
    · exact False.elim h
  · exact False.elim h
theorem uZ {row:List AV} {t:TypeId} {x ix:AV} {S:St} {k:AV→Prop} (h:o7 C row t x ix S k):hZ C.P t x ix S k:=by
  unfold o7 at h
  unfold hZ
  refine aw.mono bd h (fun i h=>?_)
  split at h
  · rename_i e hu
    rw [hu]
    dsimp only
    split at h
    · rename_i inf hi
      rw [hi]
      dsimp only
      split at h
      · have h1:=h.1
        unfold Ig at h1
        dsimp only
        rw [h1]
        exact h.2
      · split at h
        · rename_i ho
          dsimp only
          rw [ho]
          dsimp only
          have h1:=h.1
          unfold Ig at h1
          rw [h1]
          exact h.2
        · rename_i ho
          dsimp only
          rw [ho]
          obtain ⟨h1,h2,h3⟩:=ac h
          refine al ?_ h3
          rw [Bool.and_eq_true]
          exact ⟨h2,h1⟩
        · exact False.elim h
      · split at h
        · rename_i ho
          dsimp only
          rw [ho]
          dsimp only
          refine al h.1 ?_
          rw [h.2.1]
          exact h.2.2
        · exact False.elim h
      · exact False.elim h
    · exact False.elim h
  · rename_i len e hu
    rw [hu]
    dsimp only
    split at h
    · rename_i inf hi
      rw [hi]
      exact al h.1 h.2
    · exact False.elim h
  · exact False.elim h
theorem uF (hC:xd C) {fid:Nat} {as:List AV} {k:AV→Prop} (h:vl C A o fid as k):C.pcall fid as k:=by
  unfold vl at h
  split at h
  · exact aw.mono (hC.det.pcall _ _) h.1 (fun _ e=>by rw [e]; exact h.2)
  · exact h
theorem C5 {P:Program} {op:BinOp} {t:TypeId} {x y:AV} {S:St} {k:AV→Prop} (h:C1 P op t x y S k):t_ P op t x y S k:=by
  unfold C1 at h
  split at h
  · rename_i id
    split at h
    · rename_i rows hob
      obtain ⟨h1,h⟩:=h
      have:qF S (.mf id)=true:=by
        unfold qF
        dsimp only
        rw [hob]
        cases rows with
        | nil=>cases h1
        | cons _ _=>rfl
      unfold t_
      rw [this]
      exact h
    · exact False.elim h
  · rename_i rows
    obtain ⟨h1,h⟩:=h
    have:qF S (.sl rows)=true:=by
      unfold qF
      cases rows with
      | nil=>cases h1
      | cons _ _=>rfl
    unfold t_
    rw [this]
    exact h
  · exact False.elim h
theorem nC {size:Nat} {S:St} {x:AV} {k:Bool→List (List AV)→Prop} (h:tp size S x k):jR size S x k:=by
  unfold tp at h
  unfold jR
  split at h <;> first
    | exact al h.1 h.2
    | exact h
    | exact False.elim h
theorem BE {src dst:TypeId} {x:AV} {S:St} {s:ByteArray} {k:AV→Prop} (h:Aa C.P src dst x S s k):fx C.P src dst x S k:=by
  unfold Aa at h
  unfold fx
  split at h
  · rename_i hu hd
    rw [hu,hd]
    dsimp only
    split at h
    · rename_i he
      rw [he]
      dsimp only
      obtain ⟨h1,h⟩:=ac h
      refine al h1 (ar.mono dz (nC h) (fun fl rows h=>?_))
      rw [h.1]
      show k (.v (.string ⟨s.data.toList.toArray⟩))
      have:(⟨s.data.toList.toArray⟩:ByteArray)=s:=by cases s; simp
      rw [this]
      exact h.2
    · exact False.elim h
  · exact False.elim h
theorem Gn (hC:xd C) {vs:List AV} {M:St} {k:AV→Prop} (h:I4 C A o vs M k):pY C o vs M k:=by
  unfold I4 at h
  split at h
  · rename_i ho
    split at h
    · split at h
      · split at h
        · rename_i hob
          unfold pY
          rw [ho]
          dsimp only
          unfold Fy
          dsimp only
          unfold xF
          dsimp only
          rw [hob]
          dsimp only
          rw [h.1]
          exact h.2
        · exact False.elim h
      · exact False.elim h
    · exact h
  · rename_i ho
    split at h
    · exact h
    · unfold pY
      rw [ho]
      split at h
      · exact iu h
      · exact aw.mono bd h (fun _ h=>iu h)
      · exact aw.mono bd h (fun _ h=>iu h)
      · exact aw.mono bd h (fun _ h=>aw.mono bd h (fun _ h=>iu h))
      · exact aw.mono bd h (fun _ h=>aw.mono bd h (fun _ h=>iu h))
      · exact aw.mono bd h (fun _ h=>aw.mono bd h (fun _ h=>aw.mono bd h (fun _ h=>iu h)))
      · exact False.elim h
  · rename_i ho
    split at h
    · unfold pY
      rw [ho]
      exact uZ h
    · exact h
  · rename_i ho
    split at h
    · split at h
      · rename_i hu
        split at h
        · rename_i hob
          unfold pY
          rw [ho]
          dsimp only
          unfold pG
          rw [hu]
          dsimp only
          rw [hob]
          exact h.1 _ h.2
        · exact False.elim h
      · exact False.elim h
    · exact h
  · rename_i ho
    split at h
    · exact h
    · unfold pY
      rw [ho]
      exact C5 h
  · rename_i ho
    split at h
    · unfold pY
      rw [ho]
      exact BE h
    · exact h
  · rename_i c ho
    split at h
    · rename_i hcal
      split at h
      · unfold pY
        rw [ho]
        dsimp only
        rw [hcal]
        dsimp only
        obtain ⟨h1,h⟩:=ac h
        exact al h1 (aw.mono (dA _ _) h (fun bs hb=>uF hC hb))
      · exact False.elim h
    · exact h
  · exact h
theorem BF {S:St} {row:List AV} {a:AV} {cs:List AV} {K:St→Prop} (h:Ab S row a cs K):ma S a cs K:=by
  unfold Ab at h
  split at h
  · unfold ma
    split at h
    · rename_i ho
      dsimp only
      rw [ho]
      dsimp only
      rw [h.1]
      exact h.2
    · exact False.elim h
  · exact False.elim h
theorem BG {vs:List AV} {M:St} {k:AV→St→Prop} (h:HF C A o vs M k):yr C o vs M k:=by
  unfold HF at h
  split at h
  · exact h
  · split at h
    · rename_i ho
      split at h
      · unfold yr
        rw [ho]
        refine aw.mono b_ h (fun cs h=>?_)
        split at h
        · rename_i hi
          rw [hi]
          obtain ⟨h1,h⟩:=ac h
          exact al h1 (BF h)
        · exact False.elim h
      · exact h
    · exact h
theorem sc {ts:List TypeId} {base x:AV} {S:St} {k:St→AV→Prop} (h:r6 C.P ts base x S k):jF C.P ts base x S k:=by
  unfold r6 at h
  unfold jF
  split at h
  · split at h
    · rename_i e hu
      dsimp only
      rw [hu]
      dsimp only
      split at h
      · rename_i i hi
        rw [hi]
        dsimp only
        obtain ⟨h1,h⟩:=ac h
        refine al h1 ?_
        refine ar.mono dz (nC h) (fun fl src h=>?_)
        refine al h.1 ?_
        replace h:=h.2
        split at h
        · exact al h.1 h.2
        · exact al h.1 h.2
        · split at h
          · rename_i ho
            dsimp only
            rw [ho]
            obtain ⟨h1,h⟩:=ac h
            refine al ?_ h.2
            simp only [Bool.and_eq_true] at h1 ⊢
            exact ⟨⟨h1.1,h.1⟩,h1.2⟩
          · exact False.elim h
        · split at h
          · rename_i ho
            dsimp only
            rw [ho]
            obtain ⟨h1,h2,h3,h⟩:=ac h
            refine al h1 ?_
            rw [h2]
            exact al h3 h
          · exact False.elim h
        · exact False.elim h
      · exact False.elim h
    · exact False.elim h
  · exact False.elim h
theorem xY {ts:List TypeId} {base x:AV} {k:AV→Prop} (h:tq C.P ts base x k):kW C.P ts base x k:=by
  unfold tq at h
  unfold kW
  split at h
  · split at h
    · rename_i e hu
      dsimp only
      rw [hu]
      dsimp only
      split at h
      · rename_i i hi
        rw [hi]
        dsimp only
        obtain ⟨h1,h⟩:=ac h
        refine al h1 ?_
        refine ar.mono dz (nC h) (fun fl src h=>?_)
        obtain ⟨h2,h3,h4,h⟩:=ac h
        refine al ?_ h
        rw [h2,h3,h4]
        rfl
      · exact False.elim h
    · exact False.elim h
  · exact False.elim h
theorem kj {t:TypeId} {l c:AV} {S:St} {k:St→AV→Prop} (h:j2 C.P t l c S k):bQ C.P t l c S k:=by
  unfold j2 at h
  unfold bQ
  split at h
  · rename_i hu
    rw [hu]
    dsimp only
    split at h
    · rename_i hi
      rw [hi]
      dsimp only
      exact aw.mono bd h (fun _ h=>aw.mono bd h (fun _ h=>al h.1 h.2))
    · exact False.elim h
  · exact False.elim h
theorem Gp {vs:List AV} {k:AV→Prop} (h:I5 C o vs k):IK C o vs k:=by
  unfold I5 at h
  unfold IK
  split at h
  · rename_i c x y ho
    rw [ho]
    dsimp only
    split at h
    · rename_i hc
      rw [hc]
      exact xY h
    · exact False.elim h
  · rename_i ho
    rw [ho]
    exact kj h
  · exact False.elim h
theorem xZ {ts:List TypeId} {base:AV} {n:Int} {S:St} {k:St→AV→Prop} (h:tr C.P ts base n S k):kX C.P ts base n S k:=by
  unfold tr at h
  unfold kX
  split at h
  · split at h
    · rename_i hu hv
      dsimp only
      rw [hu,hv]
      dsimp only
      split at h
      · rename_i hi
        rw [hi]
        exact al h.1 h.2
      · exact False.elim h
    · exact False.elim h
  · exact False.elim h
theorem C6 (hC:xd C) {f:AV} {args:List AV} {S:St} {k:St→AV→Prop} (h:C3 C A o f args S k):yq C f args S k:=by
  unfold C3 at h
  unfold yq
  split at h
  · dsimp only
    split at h
    · rename_i hp
      rw [hp]
      exact aw.mono (dA _ _) h (fun bs hb=>uF hC hb)
    · rename_i hp
      rw [hp]
      obtain ⟨h1,h⟩:=ac h
      refine al h1 ?_
      split at h
      · exact ar.mono (hC.det.scall _ _ _) h.1 (fun r o' ⟨e1,e2⟩=>by subst e1 e2; exact h.2)
      · exact h
  · exact False.elim h
theorem nS {R:List (AV×AV)} {t:TypeId} {m key x:AV} {S:St} {K:St→Prop} (h:lZ C.P R t m key x S K):et C.P t m key x S K:=by
  unfold lZ at h
  unfold et
  split at h
  · rename_i hu
    rw [hu]
    dsimp only
    split at h
    · split at h
      · rename_i fl es ho
        dsimp only
        rw [ho]
        dsimp only
        obtain ⟨h1,h2,h3⟩:=ac h
        refine al h1 ?_
        have:=h2 (fun es'=>bi (S.o.set _ (.mapo (fl&&dj 4 x) es')) fun o=>K { t:=S.t,l:=S.l,o:=o,b:=S.b }) h3
        exact this
      · exact False.elim h
    · exact False.elim h
  · exact False.elim h
theorem C7 {ts:List TypeId} {x y:AV} {M:St} {k:AV→St→Prop} (h:C2 C.P ts x y M k):t9 C.P ts x y M k:=by
  unfold C2 at h
  unfold t9
  split at h
  · split at h
    · rename_i e hu
      dsimp only
      rw [hu]
      dsimp only
      split at h
      · rename_i i hi
        rw [hi]
        dsimp only
        obtain ⟨h1,h⟩:=ac h
        refine al h1 ?_
        refine ar.mono dz (nC h) (fun fl src h=>?_)
        obtain ⟨h2,h⟩:=h
        obtain ⟨h3,h⟩:=ac h
        refine al (by rw [h2,h3]; rfl) ?_
        split at h
        · split at h
          · rename_i ho
            dsimp only
            rw [ho]
            exact h
          · exact False.elim h
        · split at h
          · rename_i ho
            dsimp only
            rw [ho]
            obtain ⟨h1,h2,h⟩:=ac h
            exact al (by rw [h1,h2]; rfl) h
          · exact False.elim h
        · exact False.elim h
      · exact False.elim h
    · exact False.elim h
  · exact False.elim h
theorem BH {ts:List TypeId} {x:AV} {S:St} {K:St→Prop} (h:Ac C.P ts x S K):ou C.P ts x S K:=by
  unfold Ac at h
  unfold ou
  split at h
  · split at h
    · rename_i e hu
      dsimp only
      rw [hu]
      dsimp only
      split at h
      · rename_i i hi
        rw [hi]
        dsimp only
        obtain ⟨h1,h⟩:=ac h
        refine al h1 ?_
        split at h
        · split at h
          · rename_i ho
            dsimp only
            rw [ho]
            obtain ⟨h1,h2,h⟩:=ac h
            exact al (by rw [h1,h2]; rfl) h
          · exact False.elim h
        · exact False.elim h
      · exact False.elim h
    · exact False.elim h
  · exact False.elim h
theorem BI (hC:xd C) {S:St} {K:St→Prop} (h:HH C A pl o S K):vM C pl o S K:=by
  unfold HH at h
  split at h
  · rename_i ho
    split at h
    · unfold vM
      rw [ho]
      refine aw.mono ck h (fun m h=>?_)
      refine aw.mono ck h (fun k h=>?_)
      refine aw.mono ck h (fun x h=>?_)
      exact nS h
    · exact h
  · rename_i ho
    split at h
    · unfold vM
      rw [ho]
      refine aw.mono ck h (fun m h=>?_)
      refine aw.mono ck h (fun k h=>?_)
      refine aw.mono ck h (fun x h=>?_)
      exact nS h
    · exact h
  · rename_i ho
    split at h
    · unfold vM
      rw [ho]
      refine aw.mono ck h (fun l h=>?_)
      refine aw.mono ck h (fun c h=>?_)
      exact kj h
    · exact h
  · rename_i c ho
    split at h
    · rename_i hcal
      split at h
      · unfold vM
        rw [ho]
        dsimp only
        rw [hcal]
        dsimp only
        refine aw.mono bc h (fun as h=>?_)
        split at h
        · exact xZ h
        · rename_i y hne
          split
          · rename_i e
            cases e
            exact (hne _ _ rfl).elim
          · rename_i e
            cases e
            exact al (ac h).1 (sc (ac h).2)
          · rename_i h4 e
            cases e
            exact (h4 rfl).elim
          · rename_i h3
            exact (h3 _ _ rfl).elim
        · rename_i x y hne hne2
          split
          · rename_i e
            cases e
            exact (hne _ _ rfl).elim
          · rename_i e
            cases e
            exact (hne2 rfl).elim
          · rename_i e
            cases e
            exact sc h
          · rename_i h3
            exact (h3 _ _ rfl).elim
        · exact False.elim h
      · exact h
    · rename_i hcal
      unfold vM
      rw [ho]
      dsimp only
      rw [hcal]
      dsimp only
      refine aw.mono bc h (fun as h=>?_)
      split at h
      · exact C7 h
      · exact False.elim h
    · rename_i hcal
      split at h
      · unfold vM
        rw [ho]
        dsimp only
        rw [hcal]
        dsimp only
        refine aw.mono bc h (fun as h=>?_)
        split at h
        · exact BH h
        · exact False.elim h
      · exact h
    · rename_i f hcal
      unfold vM
      rw [ho]
      dsimp only
      rw [hcal]
      dsimp only
      refine aw.mono ck h (fun l h=>?_)
      refine aw.mono bc h (fun c h=>?_)
      exact C6 hC h
    · exact h
  · exact h
theorem lu {K:St→Prop} {S:St} (h:nZ A o K S):K S:=by
  have h2:∀ {key:Nat} {S:St} {K:St→Prop},Ge A key S K→K S:=by
    intro key S K h
    unfold Ge at h
    split at h
    · exact h
    · split at h
      · rename_i ho
        obtain ⟨h1,h⟩:=h
        subst h1
        rw [ax] at h
        have e:∀ {α:Type} {l:List α} {i:Nat} {x:α},l[i]?=some x→l.set i x=l:=by
          intro α l i x hx
          refine List.ext_getElem? (fun m=>?_)
          rw [List.getElem?_set]
          split
          · rename_i e
            subst e
            rw [if_pos (List.getElem?_eq_some_iff.1 hx).1,hx]
          · rfl
        rw [e ho] at h
        exact h
      · exact False.elim h
  unfold nZ at h
  unfold Ih at h
  split at h
  · exact h2 h
  · split at h
    · exact h2 h
    · rename_i v hv
      obtain ⟨a,ha,e,h⟩:=cj.1 h
      subst e
      rw [d3,f0 ha] at h
      exact h2 h
theorem zj {S:St} {K:St→Prop} (h:Gf C A pl o S K):Eu C pl o S K:=aw.mono bc h (fun _ h=>Gm h)
theorem zk (hC:xd C) {S:St} {K:St→Prop} (h:Gg C A o S K):Ev C o S K:=aw.mono bc h (fun _ h=>Gn hC h)
theorem E8 {S:St} {K:St→Prop} (h:Ii C A o S K):Ew C o S K:=aw.mono bc h (fun _ h=>BG h)
theorem qu {row:Option (List (List AV))} {M:St} {pk:Bool} {id i:Nat} {k:AV→St→Prop} (h:pN row M pk id i k):fh M pk id i k:=by
  unfold pN at h
  unfold fh
  split at h
  · rename_i hob
    rw [hob]
    dsimp only
    split at h
    · obtain ⟨h1,h⟩:=h
      rw [h1]
      exact h
    · obtain ⟨h1,h⟩:=h
      rw [h1]
      exact h
  · exact h.elim
theorem x4 {P:Program} {a:xX} {t:TypeId} {same pk:Bool} {M:St} {id i:Nat} {k:AV→St→Prop} (h:tu P a t same pk M id i k):iN P t same pk M id i k:=by
  unfold tu at h
  unfold iN
  split at h
  · split at h
    · rename_i hob
      rw [hob]
      exact al h.1 h.2
    · exact h.elim
  · exact qu h
theorem xe {P:Program} {t:TypeId} {M:St} {id i:Nat} {v:AV} {K:St→Prop} (h:q9 P t M id i v K):gm P t M id i v K:=by
  unfold q9 at h
  unfold gm
  split at h
  · rename_i hi hob
    rw [hi,hob]
    obtain ⟨h1,h2,h3⟩:=ac h
    refine al ?_ h3
    simp only [Bool.and_eq_true] at h1 h2 ⊢
    exact ⟨⟨⟨h1.1,h2.1⟩,h1.2⟩,h2.2⟩
  · exact h.elim
theorem x6 {P:Program} {nw:Bool} {j:Nat} {a:xX} {t:TypeId} {l c:AV} {M:St} {k:AV→St→Prop} (h:tv P nw j a t l c M k):gM P nw j t l c M k:=by
  unfold tv at h
  unfold gM
  split at h
  · rename_i hu
    rw [hu]
    dsimp only
    split at h
    · rename_i hi he
      rw [hi,he]
      dsimp only
      split at h
      · rename_i hi2
        rw [hi2]
        dsimp only
        refine nk h (fun n h=>?_)
        refine nk h (fun m h=>?_)
        obtain ⟨h1,h⟩:=h
        obtain ⟨h2,h⟩:=ac h
        refine al ?_ ?_
        · simp only [Bool.and_eq_true] at h1 h2 ⊢
          exact ⟨⟨h1,h2.1⟩,h2.2⟩
        · refine rR h (fun z h=>?_)
          split at h
          · obtain ⟨h3,h⟩:=h
            dsimp only
            rw [h3]
            exact h
          · exact h.elim
      · exact h.elim
    · exact h.elim
  · exact h.elim
theorem x8 {P:Program} {a:xX} {t:TypeId} {m key:AV} {ok:Bool} {M:St} {k:AV→St→Prop} (h:tw P a t m key ok M k):iO P t m key ok M k:=by
  unfold tw at h
  unfold iO
  split at h
  · rename_i hu
    rw [hu]
    dsimp only
    split at h
    · dsimp only
      split at h
      · rename_i hob
        rw [hob]
        dsimp only
        split at h
        · obtain ⟨h1,h2⟩:=h
          exact h1 (fun r=>match r with
            | some i=>fh M false _ i fun a M'=>ox ok a true fun r=>k r M'
            | none=>kg P _ ok fun r=>k r M) (qu h2)
        · obtain ⟨h1,h2⟩:=h
          exact h1 (fun r=>match r with
            | some i=>fh M false _ i fun a M'=>ox ok a true fun r=>k r M'
            | none=>kg P _ ok fun r=>k r M) h2
      · exact h.elim
    · exact h.elim
  · exact h.elim
theorem sf {P:Program} {a:xX} {t:TypeId} {m key x:AV} {M:St} {K:St→Prop} (h:r7 P a t m key x M K):jG P t m key x M K:=by
  unfold r7 at h
  unfold jG
  split at h
  · rename_i hu
    rw [hu]
    dsimp only
    split at h
    · rename_i id
      dsimp only
      split at h
      · rename_i ks sz cells hole hob
        rw [hob]
        dsimp only
        obtain ⟨h1,h2,h3⟩:=ac h
        refine al h1 ?_
        have h4:=h2 (JS M id sz cells hole x K) h3
        refine aw.mono2 di h4 (fun kv r h5=>?_)
        obtain ⟨h6,h7⟩:=ac h5
        refine al h6 ?_
        cases r with
        | none=>exact h7
        | some i =>
          obtain ⟨h8,h9,h10⟩:=ac h7
          refine al ?_ h10
          rw [Bool.and_eq_true]
          exact ⟨h8,h9⟩
      · exact h.elim
    · exact h.elim
  · exact h.elim
theorem uG {M:St} {x:AV} {X Y:Nat→Nat→Prop} (h:jj M x X) (hk:∀ id i,X id i→Y id i):jj M x Y:=by
  unfold jj at h ⊢
  split at h
  · split at h
    · exact hk _ _ h
    · exact h.elim
  · exact h.elim
theorem zl {P:Program} {vs:List AV} {M:St} {k:AV→St→Prop} (h:DD P A pl o vs M k):lJ P pl o vs M k:=by
  unfold DD at h
  split at h
  · exact h
  · split at h
    · rename_i ho
      unfold lJ
      rw [ho]
      exact uG h (fun _ _ h=>x4 h)
    · rename_i ho
      unfold lJ
      rw [ho]
      exact uG h (fun _ _ h=>xe h)
    · rename_i ho
      unfold lJ
      rw [ho]
      exact x6 h
    · rename_i ho
      unfold lJ
      rw [ho]
      exact x8 h
    · rename_i ho
      unfold lJ
      rw [ho]
      exact sf h
    · rename_i ho
      unfold lJ
      rw [ho]
      exact sf h
    · exact h.elim
theorem qv {S:St} {id:Nat} {K:St→Prop} (h:pO A S id K):iM S id K:=by
  unfold pO at h
  split at h
  · exact h
  · unfold iM
    split at h
    · rename_i hob
      rw [hob]
      dsimp only
      split at h
      · rename_i hk
        rw [hk]
        obtain ⟨h1,h2,h3,h4⟩:=ac h
        refine al ?_ ?_
        · rw [Bool.and_eq_true] at h1
          rw [Bool.and_eq_true,Bool.and_eq_true]
          exact ⟨⟨h1.1,h2⟩,h1.2⟩
        · rw [h3]
          exact h4
      · exact h.elim
    · rename_i hob
      rw [hob]
      dsimp only
      split at h
      · rename_i hk
        rw [hk]
        obtain ⟨h1,h2,h3,h4⟩:=ac h
        refine al ?_ ?_
        · rw [Bool.and_eq_true]
          exact ⟨h1,h2⟩
        · rw [h3]
          exact h4
      · exact h.elim
    · rename_i hob
      rw [hob]
      dsimp only
      obtain ⟨h2,h3,h4⟩:=h
      refine al h2 ?_
      rw [h3]
      exact h4
    · exact h.elim
theorem sg:∀ {ids:List Nat} {S:St} {K:St→Prop},wY A ids S K→m9 ids S K
  | [],_,_,h=>h
  | _::_,_,_,h=>aw.mono nv (qv h) (fun _ h=>sg h)
theorem si {S:St} {id:Nat} {K:St→Prop} (h:r8 A S id K):kB S id K:=by
  unfold r8 at h
  split at h
  · exact h
  · unfold kB
    split at h
    · rename_i hob
      rw [hob]
      dsimp only
      rw [h.1]
      exact h.2
    · exact h.elim
theorem qw:∀ {ids:List Nat} {S:St} {K:St→Prop},tz A ids S K→kZ ids S K
  | [],_,_,h=>h
  | _::_,_,_,h=>aw.mono oY (si h) (fun _ h=>qw h)
theorem xf {id:Nat} {S:St} {K:St→Prop} (h:wZ A pl id S K):kp pl id S K:=by
  unfold wZ at h
  unfold kp
  split at h
  · rename_i hc
    rw [hc]
    exact h
  · rename_i hc
    rw [hc]
    dsimp only
    refine aw.mono (jZ _ _) (sg h) (fun S1 h=>?_)
    split at h
    · rename_i hc
      rw [hc]
      exact h
    · rename_i hc
      rw [hc]
      exact qw h
theorem C8 (hC:xd C) {vs:List AV} {M:St} {k:AV→St→Prop} (h:C4 C A o vs M k):lS C o vs M k:=by
  unfold C4 at h
  split at h
  · rename_i t X Y l c ho
    split at h
    · unfold lS
      rw [ho]
      exact kj h
    · exact h
  · rename_i c fid first cap as ho
    unfold lS
    rw [ho]
    dsimp only
    split at h
    · rename_i x hcal
      rw [hcal]
      obtain ⟨h1,h⟩:=ac h
      refine al h1 ?_
      split at h
      · obtain ⟨h2,h3⟩:=h
        obtain ⟨r0,o0,⟨e1,e2⟩,h4⟩:=hC.det.scall _ _ _ _ h2
        subst e1 e2
        exact h4 _ h3
      · exact h
    · exact h.elim
  · rename_i hne hne2
    have h':=BG h
    unfold lS
    split
    · rename_i t X Y l c ho
      exact absurd rfl (hne t X Y l c ho)
    · rename_i c fid first cap as ho
      exact absurd rfl (hne2 c fid first cap as ho)
    · exact h'
theorem E9 (hC:xd C) {vs:List AV} {M:St} {k:AV→St→Prop} (h:Gi C A pl o vs M k):m_ C pl o vs M k:=by
  unfold Gi at h
  unfold m_
  split at h
  · rename_i hw
    rw [hw]
    exact zl h
  · rename_i hw
    rw [hw]
    exact C8 hC h
theorem C9 (hC:xd C) {S:St} {K:St→Prop} (h:Gj C A pl o S K):qc C pl o S K:=aw.mono bc h (fun _ h=>E9 hC h)
theorem E_ {S:St} {K:St→Prop} (h:Ij C A pl o S K):sX C pl o S K:=aw.mono bc h (fun _ h=>zl h)
theorem Fa {S:St} {K:St→Prop} (h:Ik C o S K):Ey C o S K:=aw.mono bc h (fun _ h=>Gp h)
theorem Gq (hC:xd C) {S:St} {K:St→Prop} (h:I6 C A pl o S K):zA C pl o S K:=by
  refine aw.mono (Bd hC.det) (K:=nZ A o K) ?_ (fun _ h=>lu h)
  unfold I6 at h
  unfold zA
  split at h
  · rename_i hc
    rw [hc]
    exact zj h
  · rename_i hc
    rw [hc]
    exact zk hC h
  · rename_i hc
    rw [hc]
    exact E8 h
  · rename_i h0 h1 h2
    have:=BI hC h
    split
    · exact absurd (by assumption) h0
    · exact absurd (by assumption) h1
    · exact absurd (by assumption) h2
    · exact this
theorem vm (hC:xd C) {S:St} {K:St→Prop} (h:Il C A pl o S K):FI C pl o S K:=by
  unfold Il at h
  unfold FI
  split at h
  · rename_i hw
    rw [hw]
    exact aw.mono Bb (E_ h) (fun _ h=>lu h)
  · rename_i hw
    rw [hw]
    exact Gq hC h
theorem xg (hC:xd C) {S:St} {K:St→Prop} (h:By C A pl o S K):xE C pl o S K:=by
  unfold By at h
  split at h
  · rename_i hc
    refine aw.mono (g6 hC.det) (K:=nZ A o K) ?_ (fun _ h=>lu h)
    unfold xE
    rw [hc]
    exact zj h
  · rename_i hc
    refine aw.mono (g6 hC.det) (K:=nZ A o K) ?_ (fun _ h=>lu h)
    unfold xE
    rw [hc]
    exact zk hC h
  · rename_i hc
    refine aw.mono (g6 hC.det) (K:=nZ A o K) ?_ (fun _ h=>lu h)
    unfold xE
    rw [hc]
    exact C9 hC h
  · rename_i hc
    unfold xE
    rw [hc]
    exact h
  · rename_i hc
    refine aw.mono (g6 hC.det) (K:=nZ A o K) ?_ (fun _ h=>lu h)
    unfold xE
    rw [hc]
    exact Fa h
  · rename_i h0 h1 h2 h4 h5
    refine aw.mono (g6 hC.det) (K:=nZ A o K) ?_ (fun _ h=>lu h)
    unfold xE
    split
    · exact absurd (by assumption) h0
    · exact absurd (by assumption) h1
    · exact absurd (by assumption) h2
    · exact absurd (by assumption) h4
    · exact absurd (by assumption) h5
    · split at h
      · exact False.elim h
      · rename_i hb
        rw [hb]
        exact BI hC h
theorem HJ (hC:xd C) {all:Array Oper} {S:St} {K:St→Prop} (h:KT C A pl all o S K):ag C pl all o S K:=by
  unfold KT at h
  unfold ag
  split at h
  · rename_i hg
    rw [hg]
    obtain ⟨h1,h⟩:=ac h
    exact al h1 (xg hC h)
  · rename_i j want hg
    rw [hg]
    dsimp only
    split at h
    · exact False.elim h
    · rename_i d hd
      rw [hd]
      dsimp only
      refine ar.mono dv h (fun b S1 h=>?_)
      have key:∀ {S:St},bG (jk pl all o S) (By C A pl o S K)→qG C pl all o S K:=by
        intro S h
        obtain ⟨h1,h⟩:=ac h
        exact al h1 (xg hC h)
      unfold gsel at h ⊢
      split at h
      · exact key h
      · exact key h
      · exact h
theorem DJ (hC:xd C) {ai:Array Oper} {i:Nat} {S:St} {K:St→Prop} (h:JD C A pl ai i S K):yv C pl ai i S K:=by
  unfold JD at h
  unfold yv
  split at h
  · exact False.elim h
  · rename_i o ho
    rw [ho]
    exact HJ hC h
theorem BJ {S2 S1:St} {X:Prop} (h:S2=S1∧X):ua S2 S1 X:=by
  unfold ua
  split
  · exact h.2
  · exact h
theorem Ag (hC:xd C) {ai:Array Oper} {ws:List Nat}:∀ {n a:Nat} {listed:Array Bool} {t:PT} {S:St} {K:St→Prop},ku pl ai ws n a listed=some t→oT C A pl ai t none S K→jT C pl ai ws n listed S K
  | 0,a,listed,t,S,K,hp,h=>by
    unfold ku at hp
    unfold jT
    split at hp
    · cases hp
      rename_i hr
      rw [hr]
      exact h
    · cases hp
  | n + 1,a,listed,t,S,K,hp,h=>by
    unfold ku at hp
    unfold jT
    split at hp
    · cases hp
      rename_i hr
      rw [hr]
      exact h
    · rename_i r rs hr
      rw [hr]
      dsimp only
      have step:∀ {k b:Nat} {u:PT} {S:St} {K:St→Prop},ku pl ai ws n b (listed.setIfInBounds k true)=some u→(JD C A pl ai k S fun S'=>oT C A pl ai u none S' K)→yv C pl ai k S fun S'=>jT C pl ai ws n (listed.setIfInBounds k true) S' K :=
        fun hj h=>aw.mono (fJ hC.det) (DJ hC h) (fun _ h=>Ag hC hj h)
      have alts:∀ {b:Nat} {is:List Nat} {u:PT} {S S1:St} {K:St→Prop} {X:Prop},qq (fun i=>ku pl ai ws n b (listed.setIfInBounds i true)) is=some u→oT C A pl ai u (some (S1,X)) S K →
          Ci (fun i K'=>yv C pl ai i S fun S'=>jT C pl ai ws n (listed.setIfInBounds i true) S' K') is S1 X:=by
        intro b is
        induction is with
        | nil =>
          intro u S S1 K X hu h
          unfold qq at hu
          cases hu
          exact h
        | cons i is ih =>
          intro u S S1 K X hu h
          unfold qq at hu
          split at hu
          · rename_i v hv
            split at hu
            · rename_i w hw
              cases hu
              refine aw.mono (aw.bind (fJ hC.det) (fun S'=>fk hC.det _ _ _)) (step hv h) (fun S2 h=>?_)
              exact BJ ⟨h.1,ih hw h.2⟩
            · cases hu
          · cases hu
      split at hp
      · rename_i k hk
        rw [hk]
        dsimp only
        split at hp
        · cases hp
          rename_i u hj
          exact step hj h
        · cases hp
      · rename_i hk
        rw [hk]
        dsimp only
        split at hp
        · split at hp
          · cases hp
            rename_i u hj
            refine aw.mono (aw.bind (fJ hC.det) (fun S'=>fk hC.det _ _ _)) (step hj h) (fun _ h=>?_)
            exact h
          · cases hp
        · split at hp
          · rename_i b _ _
            unfold qq at hp
            split at hp
            · rename_i v hv
              split at hp
              · rename_i w hw
                cases hp
                refine aw.mono (aw.bind (fJ hC.det) (fun S'=>fk hC.det _ _ _)) (step hv h) (fun S1 h=>?_)
                exact alts hw h
              · cases hp
            · cases hp
          · cases hp
theorem Gr (hC:xd C) {ai:Array Oper} {ws:List Nat}:∀ {n:Nat} {listed:Array Bool} {t:PT} {S:St} {K:St→Prop},zh pl ai ws n listed=some t→oT C A pl ai t none S K→uO C pl ai ws n listed S K
  | 0,listed,t,S,K,hp,h=>Ag hC (n:=0) hp h
  | n + 1,listed,t,S,K,hp,h=>by
    unfold zh at hp
    unfold uO
    split at hp
    · rename_i i hi
      rw [hi]
      dsimp only
      split at hp
      · cases hp
        rename_i u hj
        exact aw.mono (fJ hC.det) (DJ hC h) (fun _ h=>Gr hC hj h)
      · cases hp
    · rename_i hi
      rw [hi]
      exact Ag hC hp h
theorem Gs (hC:xd C) {ai:Array Oper} {t:PT} {S:St} {K:St→Prop} (hp:w7 pl ai=some t) (h:oT C A pl ai t none S K):xG C pl ai S K:=by
  unfold w7 at hp
  unfold xG
  split at hp
  · cases hp
  · rename_i hn
    refine al hn ?_
    split at hp
    · rename_i hc
      rw [hc]
      exact Ag hC hp h
    · rename_i hc
      rw [hc]
      exact Gr hC hp h
theorem sj:∀ {x y:PT},C0 x y=true→x=y
  | .done,.done,_=>rfl
  | .go i t,.go j u,h=>by
    unfold C0 at h
    rw [Bool.and_eq_true] at h
    rw [Nat.eq_of_beq_eq_true h.1,sj h.2]
  | .alt i t r,.alt j u s,h=>by
    unfold C0 at h
    rw [Bool.and_eq_true,Bool.and_eq_true] at h
    rw [Nat.eq_of_beq_eq_true h.1,sj h.2.1,sj h.2.2]
  | .done,.go _ _,h=>by cases h
  | .done,.alt _ _ _,h=>by cases h
  | .go _ _,.done,h=>by cases h
  | .go _ _,.alt _ _ _,h=>by cases h
  | .alt _ _ _,.done,h=>by cases h
  | .alt _ _ _,.go _ _,h=>by cases h
end
open Go.RowKit (Below)
def ey (P:Program) (c:Code) (S:St) (K:Ex→St→Prop):Prop :=
  ∃ e S',(∀ (r:Option Nat) (G:Gh) (E:Env) (a:Act) (w:World) (Q:Exit→Act→World→Prop),ah G pn E S w→TR E S.t a→FW G (fun e' S''=>e'=e∧S''=S') Q→c.wpIn (rd r) 0 P Q a w)∧K e S'
theorem ey.mono {P:Program} {c:Code} {S:St} {K K':Ex→St→Prop} (h:ey P c S K) (hk:∀ e S',K e S'→K' e S'):ey P c S K' :=
  let ⟨e,S',h1,h2⟩:=h
  ⟨e,S',h1,hk _ _ h2⟩
theorem BK (cfg:pZ):xd (i6 cfg):=⟨o5 cfg⟩
theorem uH {P:Program} {op:BinOp} {t e:TypeId} {rows:List (List AV)} {E:Env} {u:Value} (hop:I7 op=true) (hu:P.underlying t=some (.slice e)) (hx:VR E (.sl rows) u) (w:World) (X Y:Operand) :
    ∃ b,(do eqGuard op t X Y u (.slice none 0 0); binOp op t u (.slice none 0 0):Sem Value).run P w=.ok (.bool b) w∧((b=zg op∧rows=[])∨b=!(zg op)):=by
  have h0:∃ b,(∀ d:Nat,(Op.equalIn (d + 1) t u (.slice none 0 0)).run P w=.ok b w)∧((b=true∧rows=[])∨b=false):=by
    cases hx with
    | sln=>exact ⟨true,fun d=>by unfold Op.equalIn; rw [Sem.run_bind,run_underlying hu]; rfl,.inl ⟨rfl,rfl⟩⟩
    | sle _ a cap=>exact ⟨false,fun d=>by unfold Op.equalIn; rw [Sem.run_bind,run_underlying hu]; rfl,.inr rfl⟩
    | sl us h1 h2 h3 h4 h5 h6 h7=>exact ⟨false,fun d=>by unfold Op.equalIn; rw [Sem.run_bind,run_underlying hu]; rfl,.inr rfl⟩
  obtain ⟨b,hb,hr⟩:=h0
  have hn:FL u=true:=by cases hx <;> rfl
  have he:(Op.equal t u (.slice none 0 0)).run P w=.ok b w:=s5 hb
  rw [jm hn]
  cases op with
  | eql =>
    refine ⟨b,?_,hr⟩
    have:binOp .eql t u (.slice none 0 0)=(do pure (.bool (← Op.equal t u (.slice none 0 0)))):=by cases hx <;> rfl
    simp [this,he]
  | neq =>
    refine ⟨!b,?_,?_⟩
    · have:binOp .neq t u (.slice none 0 0)=(do pure (.bool (!(← Op.equal t u (.slice none 0 0))))):=by cases hx <;> rfl
      simp [this,he]
    · rcases hr with ⟨rfl,hr⟩ | rfl
      · exact .inl ⟨rfl,hr⟩
      · exact .inr rfl
  | _=>cases hop
section
variable {G:Gh} {C:Ctx} {A:dG} {pl:bK}
theorem nD (hO:xd C) (hC:d5 C) {rr:Option Nat} {all:Array Oper} {Q:Exit→Act→World→Prop}:∀ {ai:List Oper} {E:Env} {S:St} {w:World} {a:Act} {K:St→Prop},ah G pn E S w→TR E S.t a→Ad C A pl all ai S K →
    (∀ S' E' a' w',K S'→ah G pn E' S' w'→TR E' S'.t a'→Q .normal a' w')→wpListIn (rd rr) 0 C.P all Q ai a w
  | [],E,S,w,a,K,hM,ht,h,hQ=>hQ _ _ _ _ h hM ht
  | o::rest,E,S,w,a,K,hM,ht,h,hQ=>by
    have step:∀ {S1:St},ah G pn E S1 w→TR E S1.t a→Region.wanted o (yielded all a.tmps)=true→(Il C A pl o S1 fun S'=>Ad C A pl all rest S' K)→wpListIn (rd rr) 0 C.P all Q (o::rest) a w:=by
      intro S1 hM1 ht1 hw h
      unfold wpListIn
      rw [if_pos hw]
      refine yO (Cz (vm hO h)) (tc hC hM1 ht1 (vm hO h) _ _ (fun S' E' a' w' hk hS htr=>?_))
      exact nD hO hC hS htr hk hQ
    unfold Ad at h
    split at h
    · rename_i hg
      have hw:Region.wanted o (yielded all a.tmps)=true:=by unfold Region.wanted; rw [hg]
      split at h
      · unfold wpListIn
        rw [if_pos hw]
        unfold Im at h
        split at h
        · rename_i op t x yt ho
          split at h
          · rename_i e hu
            obtain ⟨c,h,hc⟩:=c_ h ht
            split at h
            · rename_i rows
              obtain ⟨hop,h1,h2⟩:=ac h
              obtain ⟨b,hrun,hbr⟩:=uH hop hu hc w x (.const (.slice none 0 0))
              have hex:(execOp a.eval o).run C.P w=.ok (.value (.bool b)) w:=by
                have:(execOp a.eval o)=(do pure (.value (← (do eqGuard op t x (.const (.slice none 0 0)) (a.eval x) (.slice none 0 0); binOp op t (a.eval x) (.slice none 0 0):Sem Value)))):=by
                  unfold execOp
                  rw [ho]
                  simp [Act.eval]
                rw [this,Sem.run_bind,hrun]
                rfl
              refine yO (fun c hc=>by rw [ho] at hc; cases hc) (cT hex ?_)
              have h3:bB o.dst (.v (.bool b)) S fun S'=>Ad C A pl all rest S' K:=by
                rcases hbr with ⟨rfl,hr⟩ | rfl
                · exact h1 hr
                · exact h2
              rw [aB] at h3
              exact nD hO hC (hM.congr cp cq cC) (ht.put (.v _ _ rfl)) h3 hQ
            · exact False.elim h
          · exact False.elim h
        · exact False.elim h
      · exact step hM ht hw h
    · rename_i j want hg
      split at h
      · exact False.elim h
      · rename_i d hd
        obtain ⟨b,S1,h,hb,hM1,ht1⟩:=kD hM ht h
        rcases lV hg (nm hd hb) h with ⟨hw,h⟩ | ⟨hw,h⟩
        · exact step hM1 ht1 hw h
        · rw [aB] at h
          unfold wpListIn
          rw [if_neg (by rw [hw]; exact fun h=>by cases h)]
          exact ⟨fun _ _=>trivial,nD hO hC (hM1.congr cp cq cC) (ht1.put (rS _)) h hQ⟩
end
theorem BM {A:I2} {id:Nat} {S:St} {K:St→Prop} (h:E0 A id S K):∃ S',dK S S'∧K S':=by
  unfold E0 at h
  split at h
  · exact l3 h
  · exact ⟨S,.refl S,h⟩
theorem BN {cfg:pZ} (hmix:cfg.P.follows .mixedOrders=true) {A:I2} {pl:bK}:∀ (c:Code) {S:St} {K:Ex→St→Prop},lr pl A.ord c=true→w8 (i6 cfg) (ey cfg.P) A pl c S K →
    ∀ (r:Option Nat) (G:Gh) (E:Env) (a:Act) (w:World) (Q:Exit→Act→World→Prop),ah G pn E S w→TR E S.t a→FW G K Q→c.wpIn (rd r) 0 cfg.P Q a w:=by
  have hC:=BK cfg
  intro c
  induction c with
  | skip=>exact fun _ h r G E a w Q hM ht hQ=>wpIn_skip (hQ .nrm _ E _ _ h hM ht)
  | region id ai draw =>
    intro S K hB h r G E a w Q hM ht hQ
    cases draw with
    | false =>
      refine wpIn_region_list (nD hC (kM cfg) hM ht h (fun S' E' a' w' hk hS htr=>?_))
      obtain ⟨S3,E3,hk,hS,htr⟩:=lU hS htr (xf hk)
      obtain ⟨S2,hw,hk⟩:=BM hk
      obtain ⟨E2,hM2,ht2⟩:=hw G E3 a' w' hS htr
      exact hQ .nrm _ _ _ _ hk hM2 ht2
    | true =>
      refine mT hmix pl id ai S (fun e S'=>e=.nrm∧E0 A id S' (K .nrm)) ?_ r G E a w Q hM ht (fun e S' E' a' w' hk hS htr=>?_)
      · unfold lr at hB
        have h':(match rt A.ord id with
        | some is=>bG (uc pl ai) (xH (i6 cfg).P (cy ai.toList) S fun S1=>oT (i6 cfg) (EZ A id) pl ai is none S1 fun S'=>k8 (cy ai.toList) S' (wZ (EZ A id) pl id S' fun S''=>E0 A id S'' (K .nrm)))
        | none=>af 440):=h
        split at hB
        · rename_i is js h1 h2
          rw [h1] at h'
          dsimp only at h'
          obtain ⟨h3,h'⟩:=ac h'
          refine al h3 ?_
          refine aw.mono wD h' (fun S1 h=>?_)
          rw [sj hB] at h
          refine aw.mono (wE hC.det) (Gs hC h2 h) (fun S' h=>?_)
          obtain ⟨h4,h5⟩:=mQ h
          exact h5 _ (aw.mono pL (xf h4) (fun S'' h=>⟨rfl,h⟩))
        · cases hB
      · obtain ⟨rfl,hk⟩:=hk
        obtain ⟨S2,hw,hk⟩:=BM hk
        obtain ⟨E2,hM2,ht2⟩:=hw G E' a' w' hS htr
        exact hQ .nrm _ _ _ _ hk hM2 ht2
  | seq x y ihx ihy =>
    intro S K hB h r G E a w Q hM ht hQ
    unfold lr at hB
    rw [Bool.and_eq_true] at hB
    refine wpIn_seq (ihx hB.1 h r G E a w _ hM ht (fun e S' E' a' w' hk hS htr=>?_))
    cases e with
    | nrm =>
      dsimp only at hk
      split at hk
      · obtain ⟨S2,h1,⟨e2,S3,h2,h3,h4⟩,h5⟩:=l3 hk
        subst h3 h4
        obtain ⟨E2,hM2,ht2⟩:=((pQ _ _).trans h1) G E' a' w' hS htr
        refine h2 r G E2 a' w' Q hM2 ht2 (fun e' S'' E'' a'' w'' he hS' ht'=>?_)
        obtain ⟨rfl,rfl⟩:=he
        exact hQ _ _ _ _ _ h5 hS' ht'
      · exact ihy hB.2 hk r G E' a' w' Q hS htr hQ
    | ex i=>exact hQ (.ex i) _ _ _ _ hk hS htr
    | ret=>exact hQ .ret _ _ _ _ hk hS htr
  | cond c x y ihx ihy =>
    intro S K hB h r G E a w Q hM ht hQ
    unfold lr at hB
    rw [Bool.and_eq_true] at hB
    obtain ⟨b,S1,h1,h2,h3,h4⟩:=oP hM ht h
    cases b with
    | true=>exact wpIn_cond_true h2 (ihx hB.1 h1 r G E a w Q h3 h4 hQ)
    | false=>exact wpIn_cond_false h2 (ihy hB.2 h1 r G E a w Q h3 h4 hQ)
  | block id c ih =>
    intro S K hB h r G E a w Q hM ht hQ
    refine wpIn_block (ih hB h r G E a w _ hM ht (fun e S' E' a' w' hk hS htr=>?_))
    cases e with
    | nrm=>exact hQ .nrm _ _ _ _ hk hS htr
    | ret=>exact hQ .ret _ _ _ _ hk hS htr
    | ex i =>
      show Exit.inBlock id Q (.exit i) a' w'
      unfold Exit.inBlock
      dsimp only at hk
      split at hk
      · rename_i hb
        have:=Nat.eq_of_beq_eq_true hb
        subst this
        simp only [if_pos]
        exact hQ .nrm _ _ _ _ hk hS htr
      · rename_i hb
        have hne:¬ i=id:=fun e=>by subst e; simp at hb
        simp only [if_neg hne]
        exact hQ (.ex i) _ _ _ _ hk hS htr
  | loop c ih =>
    intro S K hB h r G E a w Q hM ht hQ
    have h':(match rt A.lps (qt c) with
    | some (W,L,e,S1)=>Gb L (wk W S) fun S2=>((i6 cfg).loop pl c S2 fun e' S'=>e'=e∧S'=S1)∧K e S1
    | none=>(i6 cfg).loop pl c S K):=h
    split at h'
    · obtain ⟨S2,h1,h2,h3⟩:=l3 h'
      obtain ⟨E2,hM2,ht2⟩:=((pQ _ _).trans h1) G E a w hM ht
      refine kN cfg pl c S2 _ h2 r G E2 a w Q hM2 ht2 (fun e' S'' E'' a'' w'' he hS' ht'=>?_)
      obtain ⟨rfl,rfl⟩:=he
      exact hQ _ _ _ _ _ h3 hS' ht'
    · exact kN cfg pl c S K h' r G E a w Q hM ht hQ
  | exit id=>exact fun _ h r G E a w Q hM ht hQ=>wpIn_exit (hQ (.ex id) _ E _ _ h hM ht)
  | ret=>exact fun _ h r G E a w Q hM ht hQ=>wpIn_ret (hQ .ret _ E _ _ h hM ht)
  | _=>exact fun _ h=>False.elim h
theorem ey.of {cfg:pZ} (hmix:cfg.P.follows .mixedOrders=true) {pl:bK} {c:Code} {S S1:St} {e:Ex} {K:Ex→St→Prop} {A:I2} {we:List (Nat×(Wk×Le))} (hB:lr pl A.ord c=true)
    (h:I9 (i6 cfg) (ey cfg.P) A pl we c S (fun e' S'=>e'=e∧S'=S1)) (hk:K e S1):ey cfg.P c S K:=by
  refine ⟨e,S1,fun r G E a w Q hM ht hQ=>?_,hk⟩
  refine BN hmix c hB h r G E a w Q hM ht (fun e' S' E' a' w' hk hS htr=>?_)
  dsimp only at hk
  split at hk
  · obtain ⟨S2,h1,rfl,rfl⟩:=l3 hk
    obtain ⟨E2,hM2,ht2⟩:=((pQ _ _).trans h1) G E' a' w' hS htr
    exact hQ _ _ _ _ _ ⟨rfl,rfl⟩ hM2 ht2
  · obtain ⟨rfl,rfl⟩:=hk
    exact hQ _ _ _ _ _ ⟨rfl,rfl⟩ hS htr
theorem ja.round {cfg:pZ} {pl:bK} {c:Code} {S:St} {K:Ex→St→Prop}
    (h:ey cfg.P c S fun e S'=>match e with
      | .nrm=>ja cfg.P pl c S' K
      | .ex i=>K (.ex i) S'
      | .ret=>K .ret S'):ja cfg.P pl c S K:=by
  obtain ⟨e1,S1,h2,h1⟩:=h
  have run:∀ (e:Ex) (S3:St) (n:Nat),(∀ (r:Option Nat) (G:Gh) (E:Env) (a:Act) (w:World) (Q:Exit→Act→World→Prop),ah G pn E S1 w→TR E S1.t a→FW G (fun e' S''=>e'=e∧S''=S3) Q→Exit.then (Code.roundsIn (rd r) 0 cfg.P c Q n) Q (Hu e1) a w) →
      ∀ (r:Option Nat) (G:Gh) (E:Env) (a:Act) (w:World) (Q:Exit→Act→World→Prop),ah G pn E S w→TR E S.t a→FW G (fun e' S''=>e'=e∧S''=S3) Q→Code.roundsIn (rd r) 0 cfg.P c Q (n + 1) a w:=by
    intro e S3 n hn r G E a w Q hM ht hQ
    refine h2 r G E a w _ hM ht (fun e' S' E' a' w' hk hS htr=>?_)
    obtain ⟨rfl,rfl⟩:=hk
    exact hn r G E' a' w' Q hS htr hQ
  cases e1 with
  | nrm =>
    obtain ⟨n,e,S',hl,hk⟩:=h1
    exact ⟨n + 1,e,S',run e S' n (fun r G E a w Q hM ht hQ=>hl r G E a w Q hM ht hQ),hk⟩
  | ex i=>exact ⟨1,.ex i,S1,run _ _ 0 (fun r G E a w Q hM ht hQ=>hQ _ _ _ _ _ ⟨rfl,rfl⟩ hM ht),h1⟩
  | ret=>exact ⟨1,.ret,S1,run _ _ 0 (fun r G E a w Q hM ht hQ=>hQ _ _ _ _ _ ⟨rfl,rfl⟩ hM ht),h1⟩
def rk {σ τ:Type} (Sf:σ→St) (out:τ→Ex×St) (r:σ⊕τ) (e:Ex) (S':St):Prop :=
  match r with
  | .inl s'=>e=.nrm∧S'=Sf s'
  | .inr t=>e≠.nrm∧e=(out t).1∧S'=(out t).2
theorem MW {σ τ:Type} {Sf:σ→St} {out:τ→Ex×St} {s:σ}:rk Sf out (.inl s) .nrm (Sf s):=⟨rfl,rfl⟩
def pk {τ:Type} (out:τ→Ex×St) (t:τ) (e:Ex) (S':St):Prop:=e=(out t).1∧S'=(out t).2
theorem ja.iter {cfg:pZ} {pl:bK} {c:Code} {σ τ:Type} {step:σ→Option (σ⊕τ)} (Sf:σ→St) (out:τ→Ex×St)
    (hs:∀ s r,step s=some r→ey cfg.P c (Sf s) (rk Sf out r)):∀ (n:Nat) (s:σ) (t:τ),A.iter step n s=some t→ja cfg.P pl c (Sf s) fun e S'=>e=(out t).1∧S'=(out t).2
  | 0,s,t,h=>by cases h
  | n + 1,s,t,h=>by
    unfold A.iter at h
    split at h
    · cases h
    · rename_i s' hs'
      refine ja.round ((hs s _ hs').mono fun e S' h1=>?_)
      obtain ⟨rfl,rfl⟩:=h1
      exact ja.iter Sf out hs n s' t h
    · rename_i t' ht'
      cases h
      refine ja.round ((hs s _ ht').mono fun e S' h1=>?_)
      obtain ⟨h0,h1,h2⟩:=h1
      cases e with
      | nrm=>exact absurd rfl h0
      | ex i=>exact ⟨h1,h2⟩
      | ret=>exact ⟨h1,h2⟩
theorem d_.le {P:Program} {f:Nat} {as as':List AV} {K:AV→Prop} (h:d_ P f as' K) (hl:c8 as as'):d_ P f as K:=by
  obtain ⟨r,⟨h1,h2⟩,h3⟩:=h
  exact ⟨r,⟨h1,fun F w us hF hg hv=>h2 F w us hF hg (hl.vrs hv)⟩,h3⟩
theorem d_.to {P:Program} {f:Nat} {as:List AV} {r:AV} (h:d_ P f as fun x=>d8 x r):d_ P f as fun x=>x=r:=by
  obtain ⟨x,⟨h1,h2⟩,h3⟩:=h
  refine ⟨r,⟨h1,fun F w us hF hg hv=>(h2 F w us hF hg hv).mono ?_⟩,rfl⟩
  rintro e w' ⟨v,F',h4,h5,h6⟩
  exact ⟨v,F',h4,h3 _ _ h5,h6⟩
def JU (x:Bool):AV:=.v (.bool x)
def cM {α:Type} (f:α→List AV) (x:α):AV:=.agg (f x)
def ao (k:IntKind) (x:Int):List AV:=[.v (.int k x)]
def ad (x:Bool):List AV:=[.v (.bool x)]
def Mz {α:Type} (f:α→List AV) (l:List α):List AV:=[.sl (l.map f)]
theorem bS {k:IntKind} {a b:Int} (h:(a==b)=true):AV.v (.int k a)=AV.v (.int k b):=by rw [eq_of_beq h]
theorem kO {i:Nat}:Ex.ex i≠Ex.nrm:=fun h=>by cases h
theorem Fb:Ex.ret≠Ex.nrm:=fun h=>by cases h
theorem HK {α:Type} (f:α→List AV) (l:List α):AV.v (.int .i64 (((l.map f).length:Nat):Int))=AV.v (.int .i64 (l.length:Int)):=by rw [List.length_map]
theorem Gt {α:Type} (f:α→List AV) {l:List α} {i:Int} {x:α} (h:az l i=some x):Ig (l.map f) i=some (f x):=by
  unfold az at h
  unfold Ig
  split
  · rename_i h0
    rw [if_pos h0] at h
    rw [List.getElem?_map,h]
    rfl
  · rename_i h0
    rw [if_neg h0] at h
    cases h
theorem b4 {α:Type} (f:α→List AV) {l:List α} {i:Int} {x:α} (h:az l i=some x):(l.map f)[i.toNat]?=some (f x):=by
  unfold az at h
  split at h
  · rw [List.getElem?_map,h]
    rfl
  · cases h
theorem lv {α:Type} (f:α→List AV) (l:List α) {sz:Nat} (hf:∀ x,Nat.beq (f x).length sz=true):cx sz (l.map f)=true:=by
  cases l with
  | nil=>rfl
  | cons x l=>exact hf x
theorem Da {α:Type} (f:α→List AV) (l:List α) (hf:∀ x,(f x).all kV=true):aO (l.map f)=true:=by
  unfold aO
  rw [List.all_eq_true]
  intro r hr
  obtain ⟨x,_,rfl⟩:=List.mem_map.1 hr
  exact hf x
theorem cF {α:Type} (f:α→List AV) (l m:List α):l.map f++m.map f=(l++m).map f:=List.map_append.symm
theorem b7 {α:Type} (f:α→List AV) (l:List α) (i:Nat) (x:α):(l.map f).set i (f x)=(l.set i x).map f:=(List.map_set).symm
theorem d7 {α:Type} (f:α→List AV) (n:Nat) (x:α):List.replicate n (f x)=(List.replicate n x).map f:=List.map_replicate.symm
theorem vn {α:Type} (f:α→List AV) (l:List α) (i off a b:Nat):AV.msl i off a ((l.map f).length - b)=AV.msl i off a (l.length - b):=by rw [List.length_map]
theorem BO {α:Type} (f:α→List AV) (l:List α) (i off a b:Nat):AV.msl i off ((l.map f).length - a) b=AV.msl i off (l.length - a) b:=by rw [List.length_map]
theorem vo {α:Type} (f:α→List AV) (l:List α) (a:Nat):AV.sl ((l.map f).drop a)=AV.sl ((l.drop a).map f):=by rw [List.map_drop]
theorem DK {α:Type} (f:α→List AV) (l:List α) (a:Nat):AV.sl ((l.map f).take a)=AV.sl ((l.take a).map f):=by rw [List.map_take]
theorem JV {α:Type} (f:α→List AV) (l:List α) (a b:Nat):AV.sl (((l.map f).drop a).take b)=AV.sl (((l.drop a).take b).map f):=by rw [List.map_take,List.map_drop]
theorem xh {α:Type} (f:α→List AV) (l:List α) (a b:Nat):d8 (.sl (((l.map f).drop a).take b)) (.sl (((l.drop a).take b).map f)):=by rw [JV]; exact d8.refl _
theorem km {α:Type} {f:α→List AV} {l:List α} {h:Int} (e:(decide (0≤h)&&decide (h≤(l.length:Int)))=true):(decide (0≤h)&&decide (h≤(((l.map f).length:Nat):Int)))=true:=by rw [List.length_map]; exact e
theorem eY {α:Type} {f:α→List AV} {l:List α} {k m:Nat} (h:Nat.ble (l.length * k) m=true):Nat.ble ((l.map f).length * k) m=true:=by rw [List.length_map]; exact h
theorem bT {α:Type} {f:α→List AV} {l:List α} {k m n:Nat} (h:Nat.ble ((l.length + n) * k) m=true):Nat.ble (((l.map f).length + n) * k) m=true:=by rw [List.length_map]; exact h
theorem pS {α:Type} {f:α→List AV} {l l':List α} {k m:Nat} (h:Nat.ble ((l.length + l'.length) * k) m=true):Nat.ble (((l.map f).length + (l'.map f).length) * k) m=true:=by rw [List.length_map,List.length_map]; exact h
def bH {α:Type} (f:α→List AV) (c:Option (List α)):Option (List (List AV)):=c.map fun l=>l.map f
section
variable {α:Type} (f:α→List AV)
theorem mU {β:Type} {l:List β} {i:Int} {x:β} (h:az l i=some x):0≤i∧l[i.toNat]?=some x:=by
  unfold az at h
  split at h
  · rename_i h0
    exact ⟨h0,h⟩
  · cases h
theorem Gu {cs:List (Option (List α))} {i:Nat} {x:Option (List α)} {r:List α} (h:cs[i]?=some x) (h1:x=some r):(cs.map (bH f))[i]?=some (some (r.map f)):=by
  rw [List.getElem?_map,h,h1]
  rfl
theorem I_ {cs:List (Option (List α))} {i:Nat} {x:Option (List α)} (h:cs[i]?=some x) (h1:x=none):(cs.map (bH f))[i]?=some none:=by
  rw [List.getElem?_map,h,h1]
  rfl
theorem qx {cs:List (Option (List α))} {i:Int} {x:Option (List α)} {r:List α} (h:az cs i=some x) (h1:x=some r):(cs.map (bH f))[i.toNat]?=some (some (r.map f)):=Gu f (mU h).2 h1
theorem BP {cs:List (Option (List α))} {i:Int} {x:Option (List α)} (h:az cs i=some x) (h1:x=none):(cs.map (bH f))[i.toNat]?=some none:=I_ f (mU h).2 h1
theorem JW {cs:List (Option (List α))} {i:Nat} {x:Option (List α)} (h:cs[i]?=some x):Nat.blt i (cs.map (bH f)).length=true:=by
  have:i<cs.length:=(List.getElem?_eq_some_iff.1 h).1
  rw [List.length_map]
  exact Nat.blt_eq.mpr this
theorem fm {cs:List (Option (List α))} {i:Int} {x:Option (List α)} (h:az cs i=some x):Nat.blt i.toNat (cs.map (bH f)).length=true:=JW f (mU h).2
theorem p0 {cs:List (Option (List α))} {i:Int} {x:Option (List α)} (h:az cs i=some x):(decide (0≤i)&&Nat.blt i.toNat (cs.map (bH f)).length)=true:=by
  rw [Bool.and_eq_true]
  exact ⟨decide_eq_true (mU h).1,fm f h⟩
theorem Db {a b:Bool} (h:a=true) (k:b=true):(a&&b)=true:=by rw [h,k]; rfl
theorem Ja (i:Nat):Nat.beq i i=true:=Nat.beq_refl i
theorem ml (cs:List (Option (List α))) (i:Nat) (r:List α):(cs.map (bH f)).set i (some (r.map f))=(cs.set i (some r)).map (bH f):=by
  rw [List.map_set]
  rfl
theorem HL {cs:List (Option (List α))} {i:Nat} {x:Option (List α)} {r:List α} (h:cs[i]?=some x) (h1:x=some r):(cs.map (bH f)).set i (some (r.map f))=cs.map (bH f):=by
  have hs:=Gu f h h1
  apply List.ext_getElem?
  intro j
  rw [List.getElem?_set]
  split
  · rename_i hj
    subst hj
    rw [hs]
    split
    · rfl
    · rename_i hn
      exact absurd (List.getElem?_eq_some_iff.1 hs).1 hn
  · rfl
theorem ra {cs:List (Option (List α))} {i:Int} {x:Option (List α)} {r:List α} (h:az cs i=some x) (h1:x=some r):(cs.map (bH f)).set i.toNat (some (r.map f))=cs.map (bH f):=HL f (mU h).2 h1
theorem JX (n:Nat):List.replicate n (none:Option (List (List AV)))=(List.replicate n (none:Option (List α))).map (bH f):=by
  rw [List.map_replicate]
  rfl
end
theorem sk {α:Type} {P:Program} (c:Prop) [Decidable c] (x y:Sem α):aA P (if c then x else y)=if c then aA P x else aA P y:=by
  split <;> rfl
def Jb (f:Nat→Option Bool):List Nat→Option Bool
  | []=>some true
  | i::is=>match f i with
    | some e=>match Jb f is with
      | some s=>some (e&&s)
      | none=>none
    | none=>none
def Hj (P:Program):Nat→TypeId→Value→Value→Option Bool
  | 0,_,_,_=>none
  | n + 1,t,x,y =>
    match P.underlying t,x,y with
    | some .bool,.bool a,.bool b=>some (a==b)
    | some (.int _),.int k a,.int k' b=>if k=k' then some (a==b) else none
    | some .string,.string a,.string b=>some (a.toList==b.toList)
    | some (.struct fs),.agg xs,.agg ys=>match P.stoodInHeld t with
      | true=>none
      | false => fs.toList.foldr (fun f (r : Option Bool × Bool) => match f.name == "_", aA P (part f.type xs f.offset), aA P (part f.type ys f.offset) with
          | false,some a,some b=>match Hj P n f.type a b,r with
            | some e,(_,false)=>(some e,true)
            | some e,(some s,true)=>(some (e&&s),true)
            | _,_=>(none,true)
          | _,_,_=>(none,true)) (some true,false) |>.1
    | some (.array len e),.agg xs,.agg ys=>match aA P (sizeOf e) with
      | some m=>Jb (fun i=>match aA P (part e xs (i * m)),aA P (part e ys (i * m)) with
        | some a,some b=>Hj P n e a b
        | _,_=>none) (List.range' 0 len)
      | none=>none
    | _,_,_=>none
theorem gS {P:Program} {t:TypeId} {d:TypeDesc} (h:P.underlying t=some d):aA P (underlying t)=some d:=by
  unfold underlying
  simp [aY,program,aA,h]
  rfl
theorem Fc {P:Program} {t:TypeId} {fs:Array Field} {xs ys:Array Value} {d:Nat} (ht:P.underlying t=some (.struct fs)) (hp:P.stoodInHeld t=false) :
    aA P (Op.equalIn (d + 1) t (.agg xs) (.agg ys))=aA P (Op.eqFields d xs ys fs.toList):=by
  simp only [Op.equalIn,aY,gS ht,Option.bind_some]
  have hprog:aA P program=some P:=rfl
  simp only [aY,hprog,Option.bind_some,hp,Bool.false_eq_true,if_false]
  rw [← Array.forIn_toList]
  generalize fs.toList=l
  clear ht
  induction l with
  | nil=>rfl
  | cons f l ih =>
    simp only [List.forIn_cons,Op.eqFields,aY,sk]
    split
    · try simp only [aY]
      generalize aA P (part f.type xs f.offset)=r1
      cases r1 with
      | none=>rfl
      | some a =>
        simp only [Option.bind_some]
        generalize aA P (part f.type ys f.offset)=r2
        cases r2 with
        | none=>rfl
        | some b =>
          simp only [Option.bind_some]
          generalize aA P (Op.equalIn d f.type a b)=r3
          cases r3 with
          | none=>rfl
          | some r =>
            cases r
            · rfl
            · simp only [Option.bind_some]
              exact ih
    · exact ih
def vp (d:Nat) (e:TypeId) (m:Nat) (xs ys:Array Value):List Nat→Sem Bool
  | []=>pure true
  | i::is=>do
    if !(← Op.equalIn d e (← part e xs (i * m)) (← part e ys (i * m))) then return false
    vp d e m xs ys is
theorem Gv {P:Program} {t e:TypeId} {len m:Nat} {xs ys:Array Value} {d:Nat} (ht:P.underlying t=some (.array len e)) (hm:aA P (sizeOf e)=some m) :
    aA P (Op.equalIn (d + 1) t (.agg xs) (.agg ys))=aA P (vp d e m xs ys (List.range' 0 len)):=by
  simp only [Op.equalIn,aY,gS ht,Option.bind_some,hm]
  simp only [Std.Legacy.Range.forIn_eq_forIn_range',Std.Legacy.Range.size,Nat.sub_zero,Nat.add_one_sub_one,Nat.div_one]
  generalize List.range' 0 len=l
  clear ht
  induction l with
  | nil=>rfl
  | cons i l ih =>
    simp only [List.forIn_cons,vp,aY,sk]
    generalize aA P (part e xs (i * m))=r1
    cases r1 with
    | none=>rfl
    | some a =>
      simp only [Option.bind_some]
      generalize aA P (part e ys (i * m))=r2
      cases r2 with
      | none=>rfl
      | some b =>
        simp only [Option.bind_some]
        generalize aA P (Op.equalIn d e a b)=r3
        cases r3 with
        | none=>rfl
        | some r =>
          cases r
          · rfl
          · simp only [Option.bind_some]
            exact ih
theorem pT {P:Program}:∀ (n d:Nat) {t:TypeId} {x y:Value} {b:Bool},n≤d→Hj P n t x y=some b→aA P (Op.equalIn d t x y)=some b
  | 0,_,_,_,_,_,_,h=>by cases h
  | n + 1,0,_,_,_,_,hd,_=>by omega
  | n + 1,d + 1,t,x,y,b,hd,h=>by
    unfold Hj at h
    split at h
    · rename_i hu
      cases h
      simp only [Op.equalIn,aY,gS hu,Option.bind_some]
      rfl
    · rename_i hu
      split at h
      · rename_i hk
        cases h
        simp only [Op.equalIn,aY,gS hu,Option.bind_some]
        rw [if_pos hk]
        rfl
      · cases h
    · rename_i hu
      cases h
      simp only [Op.equalIn,aY,gS hu,Option.bind_some,← beq_toListBytes]
      rfl
    · rename_i fs xs ys hu
      split at h
      · cases h
      · rename_i hp
        rw [Fc hu hp]
        have key : ∀ (l : List Field) (r : Option Bool) (m : Bool), l.foldr (fun f (r : Option Bool × Bool) => match f.name == "_", aA P (part f.type xs f.offset), aA P (part f.type ys f.offset) with
          | false,some a,some b=>match Hj P n f.type a b,r with
            | some e,(_,false)=>(some e,true)
            | some e,(some s,true)=>(some (e&&s),true)
            | _,_=>(none,true)
          | _,_,_=>(none,true)) (some true,false)=(r,m)→(m=false→l=[])∧∀ b,r=some b→aA P (Op.eqFields d xs ys l)=some b:=by
          intro l
          induction l with
          | nil =>
            intro r m h
            cases h
            exact ⟨fun _=>rfl,fun b hb=>by cases hb; rfl⟩
          | cons f l ih =>
            intro r m h
            rw [List.foldr_cons] at h
            generalize hq:(l.foldr _ (some true,false):Option Bool×Bool)=q at h
            obtain ⟨r',m'⟩:=q
            obtain ⟨ih1,ih2⟩:=ih r' m' hq
            split at h
            · rename_i a b hn ha hb
              have hn' : f.name ≠ "_" := by simpa using hn
              have step:∀ e,Hj P n f.type a b=some e→aA P (Op.eqFields d xs ys (f::l))=match e with | true=>aA P (Op.eqFields d xs ys l) | false=>some false:=by
                intro e he
                simp only [Op.eqFields]
                rw [if_pos hn']
                simp only [aY,ha,hb,Option.bind_some,pT n d (by omega) he]
                cases e <;> rfl
              cases hv:Hj P n f.type a b with
              | none =>
                rw [hv] at h
                cases h
                exact ⟨fun h=>(by cases h),fun b' hb'=>(by cases hb')⟩
              | some e =>
                rw [hv] at h
                cases m' with
                | false =>
                  cases h
                  refine ⟨fun h=>(by cases h),fun b' hb'=>?_⟩
                  cases hb'
                  rw [step e hv,ih1 rfl]
                  cases e <;> rfl
                | true =>
                  cases r' with
                  | none =>
                    cases h
                    exact ⟨fun h=>(by cases h),fun b' hb'=>(by cases hb')⟩
                  | some s =>
                    cases h
                    refine ⟨fun h=>(by cases h),fun b' hb'=>?_⟩
                    cases hb'
                    rw [step e hv,ih2 s rfl]
                    cases e <;> rfl
            · cases h
              exact ⟨fun h=>(by cases h),fun b' hb'=>(by cases hb')⟩
        generalize hq:(fs.toList.foldr _ (some true,false):Option Bool×Bool)=q at h
        obtain ⟨r,m⟩:=q
        exact (key _ r m hq).2 b h
    · rename_i len e xs ys hu
      split at h
      · rename_i m hm
        rw [Gv hu hm]
        generalize List.range' 0 len=l at h ⊢
        induction l generalizing b with
        | nil =>
          cases h
          rfl
        | cons i l ih =>
          unfold Jb at h
          split at h
          · rename_i c hc
            split at hc
            · rename_i u v h1 h2
              split at h
              · rename_i s hs
                cases h
                simp only [vp,aY,h1,h2,Option.bind_some,pT n d (by omega) hc]
                cases c
                · rfl
                · exact ih _ hs
              · cases h
            · cases hc
          · cases h
      · cases h
    · cases h
theorem Fe {P:Program} {t:TypeId} {xs ys:List Value} {b:Bool} (hg:P.eqGuardType P.depth t=false) (h:Hj P 16 t (.agg xs.toArray) (.agg ys.toArray)=some b):bE P .eql t xs ys=some (.bool b):=by
  unfold bE
  have h1:aA P (eqGuard .eql t (.tmp 0) (.tmp 0) (.agg xs.toArray) (.agg ys.toArray))=some ():=by
    simp [eqGuard,aY,program,aA,hg]
    rfl
  have h2:aA P (binOp .eql t (.agg xs.toArray) (.agg ys.toArray))=some (.bool b):=by
    have:=pT (P:=P) 16 10000 (by omega) h
    simp only [binOp,Op.equal,Op.maxDepth]
    rw [aY,this]
    rfl
  rw [aY,h1]
  exact h2
theorem Ff {P:Program} {t:TypeId} {xs ys:List Value} {b:Bool} (hg:P.eqGuardType P.depth t=false) (h:Hj P 16 t (.agg xs.toArray) (.agg ys.toArray)=some b):bE P .neq t xs ys=some (.bool (!b)):=by
  unfold bE
  have h1:aA P (eqGuard .neq t (.tmp 0) (.tmp 0) (.agg xs.toArray) (.agg ys.toArray))=some ():=by
    simp [eqGuard,aY,program,aA,hg]
    rfl
  have h2:aA P (binOp .neq t (.agg xs.toArray) (.agg ys.toArray))=some (.bool (!b)):=by
    have:=pT (P:=P) 16 10000 (by omega) h
    simp only [binOp,Op.equal,Op.maxDepth]
    rw [aY,this]
    rfl
  rw [aY,h1]
  exact h2
structure MA (P:Program) (kt:TypeId) {κ:Type} (kf:κ→AV) (kv:κ→Value) (beq:κ→κ→Bool):Prop where
  tok:∀ k,B8 (kf k)=some (kv k)
  eqv:∀ a b,Hj P 16 kt (kv a) (kv b)=some (beq a b)
  chk:∀ e k,aA P (Instr.checkKey e 10000 kt (kv k))=some ()
  sam:∀ a b,beq a b=true→Instr.sameBits 10000 (kv b) (kv a)=true
section
variable {P:Program} {kt:TypeId} {κ:Type} {kf:κ→AV} {kv:κ→Value} {beq:κ→κ→Bool}
end
def ru (H:Type) (P:Program) (t:TypeId) {α:Type} (f:α→List AV) (wf:α→Prop):Prop:=∀ (n:Nat) (d:DataW H),dE P n t d=true→∃ x,c8 (iy P n t d) (f x)∧wf x
def nE (H:Type) (P:Program) (ts:List TypeId) {α:Type} (f:α→List AV) (wf:α→Prop):Prop:=∀ (n:Nat) (ds:List (DataW H)),ds.length=ts.length→((ts.zip ds).all fun x=>dE P n x.1 x.2)=true→∃ x,c8 ((ts.zip ds).flatMap fun x=>iy P n x.1 x.2) (f x)∧wf x
section
variable {H:Type} {P:Program} {t:TypeId}
theorem ru.int {k:IntKind} (hu:P.underlying t=some (.int k)):ru H P t (ao k) (Fw k):=by
  intro n d h
  cases n with
  | zero=>cases h
  | succ n =>
    unfold dE at h
    rw [hu] at h
    cases d with
    | lit l =>
      cases l with
      | int k' m =>
        have h:(decide (k'=k)&&(Lit.int k m).wf)=true:=h
        rw [Bool.and_eq_true] at h
        obtain ⟨h1,h2⟩:=h
        have h1:=of_decide_eq_true h1
        subst h1
        have h2:(decide (k'.min≤m)&&decide (m≤k'.max))=true:=h2
        rw [Bool.and_eq_true] at h2
        refine ⟨m,?_,of_decide_eq_true h2.1,of_decide_eq_true h2.2⟩
        unfold iy
        rw [hu]
        exact c8.refl _
      | _=>cases h
    | _=>cases h
theorem ru.bool (hu:P.underlying t=some .bool):ru H P t ad (fun _=>True):=by
  intro n d h
  cases n with
  | zero=>cases h
  | succ n =>
    unfold dE at h
    rw [hu] at h
    cases d with
    | lit l =>
      cases l with
      | bool b =>
        refine ⟨b,?_,trivial⟩
        unfold iy
        rw [hu]
        exact c8.refl _
      | _=>cases h
    | _=>cases h
theorem ru.slice {e:TypeId} (hu:P.underlying t=some (.slice e)) {α:Type} {f:α→List AV} {wf:α→Prop} (he:ru H P e f wf):ru H P t (Mz f) (fun l=>l.length≤maxLen∧∀ x∈l,wf x):=by
  intro n d h
  cases n with
  | zero=>cases h
  | succ n =>
    unfold dE at h
    rw [hu] at h
    cases d with
    | nil =>
      refine ⟨[],?_,by simp [maxLen],fun x hx=>by cases hx⟩
      unfold iy
      rw [hu]
      exact c8.cons d8.nil c8.nil
    | slice xs sp =>
      have h:(decide (xs.length≤maxLen)&&xs.all (dE P n e))=true:=h
      rw [Bool.and_eq_true] at h
      obtain ⟨h1,h2⟩:=h
      have key:∀ xs:List (DataW H),xs.all (dE P n e)=true→∃ l:List α,j1 (xs.map (iy P n e)) (l.map f)∧l.length=xs.length∧∀ x∈l,wf x:=by
        intro xs
        induction xs with
        | nil=>exact fun _=>⟨[],j1.nil,rfl,fun x hx=>by cases hx⟩
        | cons x xs ih =>
          intro h
          rw [List.all_cons,Bool.and_eq_true] at h
          obtain ⟨y,hy1,hy2⟩:=he n x h.1
          obtain ⟨l,hl1,hl2,hl3⟩:=ih h.2
          refine ⟨y::l,j1.cons hy1 hl1,by simp [hl2],fun z hz=>?_⟩
          rcases List.mem_cons.1 hz with rfl | hz
          · exact hy2
          · exact hl3 z hz
      obtain ⟨l,hl1,hl2,hl3⟩:=key xs h2
      refine ⟨l,?_,by rw [hl2]; exact of_decide_eq_true h1,hl3⟩
      unfold iy
      rw [hu]
      exact c8.cons (d8.sl hl1) c8.nil
    | _=>cases h
theorem nE.nil:nE H P [] (fun _:Unit=>[]) (fun _=>True):=fun _ _ _ _=>⟨(),c8.nil,trivial⟩
theorem nE.cons {ts:List TypeId} {α β:Type} {f:α→List AV} {wf:α→Prop} {g:β→List AV} {wg:β→Prop} (h:ru H P t f wf) (hs:nE H P ts g wg):nE H P (t::ts) (fun x:α×β=>f x.1++g x.2) (fun x=>wf x.1∧wg x.2):=by
  intro n ds hl ha
  cases ds with
  | nil=>simp at hl
  | cons d ds =>
    rw [List.zip_cons_cons,List.all_cons,Bool.and_eq_true] at ha
    obtain ⟨x,h1,h2⟩:=h n d ha.1
    obtain ⟨y,h3,h4⟩:=hs n ds (by simpa using hl) ha.2
    refine ⟨(x,y),?_,h2,h4⟩
    rw [List.zip_cons_cons,List.flatMap_cons]
    exact h1.app h3
theorem ru.struct {fs:Array Field} (hu:P.underlying t=some (.struct fs)) {α:Type} {g:α→List AV} {wg:α→Prop} (h:nE H P (fs.toList.map (·.type)) g wg):ru H P t g wg:=by
  intro n d hd
  cases n with
  | zero=>cases hd
  | succ n =>
    unfold dE at hd
    rw [hu] at hd
    cases d with
    | agg ds =>
    have hd:(Nat.beq ds.length fs.size&&(fs.toList.zip ds).all fun x=>dE P n x.1.type x.2)=true:=hd
    rw [Bool.and_eq_true] at hd
    obtain ⟨h1,h2⟩:=hd
    have hlen:=Nat.eq_of_beq_eq_true h1
    obtain ⟨x,h3,h4⟩:=h n ds (by simpa using hlen) (by
      rw [List.zip_map_left,List.all_map]
      exact h2)
    refine ⟨x,?_,h4⟩
    unfold iy
    rw [hu]
    dsimp only
    rw [List.zip_map_left,List.flatMap_map] at h3
    exact h3
    | _=>cases hd
theorem ru.conv {α β:Type} {f:α→List AV} {wf:α→Prop} {g:β→List AV} {wg:β→Prop} (h:ru H P t f wf) (φ:α→β) (hf:∀ x,f x=g (φ x)) (hw:∀ x,wf x→wg (φ x)):ru H P t g wg:=fun n d hd=>by
  obtain ⟨x,h1,h2⟩:=h n d hd
  exact ⟨φ x,by rw [← hf]; exact h1,hw x h2⟩
theorem ru.argS {fs:Array Field} (hu:P.underlying t=some (.struct fs)) {α:Type} {f:α→List AV} {wf:α→Prop} (h:ru H P t f wf) {n:Nat} {d:DataW H} (hd:dE P n t d=true):∃ x,d8 (uE P n t d) (.agg (f x))∧wf x:=by
  obtain ⟨x,h1,h2⟩:=h n d hd
  refine ⟨x,?_,h2⟩
  unfold uE
  rw [hu]
  exact d8.agg h1
end
end A
end Go.Proofs.Ytaiokpalfdbnnaa
