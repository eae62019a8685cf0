/- The evaluator with answers; contracts out of it. Nothing is claimed here of the program. -/
import Derived.Test.YtnmmknnnggcijaaDoorK6
import Derived.Test.YtnmmknnnggcijaaDoorM0
import Derived.Laws.StructEq
namespace Go.Proofs.YtnmmknnnggcijaaDoor
namespace A
open Go
def o8 {α:Type}:List (Nat×α)→Nat→Option α
  | [],_=>none
  | (d,x)::xs,e=>match Nat.beq d e with | true=>some x | false=>o8 xs e
structure Wk where
  ts:List Nat
  ls:List Nat
  no:Nat
  pr:List (Nat×Nat)
  pl:List (Nat×Nat×Nat)
  fz:List Nat
def Da (ts:List Nat):Nat→List AV→List AV
  | _,[]=>[]
  | i,x::xs=>(match dQ ts i with | true=>x | false=>.bad)::Da ts (i + 1) xs
def wW:List Nat→St→St
  | [],S=>S
  | d::ds,S=>wW ds (dS d S)
def zM:Nat→Nat→List Nat
  | _,0=>[]
  | i,n + 1=>i::zM (i + 1) n
def Cf:List Nat→St→St
  | [],S=>S
  | i::is,S=>Cf is (cV i S)
def wX:List Ob→Bool
  | []=>true
  | .dead::os=>wX os
  | _=>false
def Eh (n:Nat) (S:St):St :=
  match wX (S.o.drop n)&&Nat.ble S.b n with
  | true=>{ t:=S.t,l:=S.l,o:=S.o.take n,b:=S.b }
  | false=>S
def yw:List (Nat×Nat)→St→St
  | [],S=>S
  | (d,sz)::ps,S=>match S.t[d]? with
    | some .nilsl=>yw ps { t:=S.t.set d (.mf S.o.length),l:=S.l,o:=S.o++[.arr true sz []],b:=S.b }
    | _=>yw ps S
def vX:List (Nat×Nat×Nat)→St→St
  | [],S=>S
  | (d,j,sz)::ps,S=>match aF S.l d with
    | some row=>match row[j]? with
      | some .nilsl=>vX ps { t:=S.t,l:=pf S.l d (row.set j (.mf S.o.length)),o:=S.o++[.arr true sz []],b:=S.b }
      | _=>vX ps S
    | none=>vX ps S
def Ei (ids:List Nat) (d j:Nat) (b:AV) (S:St):St :=
  match aF (dT ids S).l d with
  | some row=>{ t:=(dT ids S).t,l:=pf (dT ids S).l d (row.set j b),o:=(dT ids S).o,b:=(dT ids S).b }
  | none=>dT ids S
def uR:List Nat→St→St
  | [],S=>S
  | d::ds,S=>match Nat.ble 10000 d with
    | true=>match aF S.l ((d - 10000) / 100) with
      | some row=>match row[d % 100]? with
        | some a=>match yV S.o 6 a with
          | some b=>uR ds (Ei (cN S.o 6 a) ((d - 10000) / 100) (d % 100) b S)
          | none=>uR ds S
        | none=>uR ds S
      | none=>uR ds S
    | false=>match S.t[d]? with
      | some a=>match yV S.o 6 a with
        | some b=>uR ds { t:=(dT (cN S.o 6 a) S).t.set d b,l:=(dT (cN S.o 6 a) S).l,o:=(dT (cN S.o 6 a) S).o,b:=(dT (cN S.o 6 a) S).b }
        | none=>uR ds S
      | none=>uR ds S
def FC (W:Wk) (S:St):St :=
  vX W.pl (yw W.pr (Eh W.no (Cf (zM W.no (S.o.length - W.no)) (wW W.ls { t:=Da W.ts 0 S.t,l:=S.l,o:=S.o,b:=S.b }))))
def wk (W:Wk) (S:St):St:=FC W (uR W.fz S)
def bB (a b:AV):Prop:=∀ E u,VR E a u→VR E b u
def bm (r r':List AV):Prop:=r.length=r'.length∧∀ (i:Nat) (a b:AV),r[i]?=some a→r'[i]?=some b→bB a b
def kG (r r':List (List AV)):Prop:=r.length=r'.length∧∀ (i:Nat) (a b:List AV),r[i]?=some a→r'[i]?=some b→bm a b
structure Le where
  ts:List (Nat×AV)
  ls:List (Nat×List AV)
  os:List (Nat×List (List AV))
def Ej:List (Nat×AV)→St→(St→Prop)→Prop
  | [],S,K=>K S
  | (d,v)::xs,S,K=>nP S.t d fun a=>bB a v∧qc S.t d v fun t=>Ej xs { t:=t,l:=S.l,o:=S.o,b:=S.b } K
def Db:List (Nat×List AV)→St→(St→Prop)→Prop
  | [],S,K=>K S
  | (d,r)::xs,S,K=>match aF S.l d with
    | some row=>bm row r∧mh (pf S.l d r) fun l=>Db xs { t:=S.t,l:=l,o:=S.o,b:=S.b } K
    | none=>af 450
def Dc:List (Nat×List (List AV))→St→(St→Prop)→Prop
  | [],S,K=>K S
  | (i,R)::xs,S,K=>match S.o[i]? with
    | some (.arr fl sz rows)=>kG rows R∧aQ (S.o.set i (.arr fl sz R)) fun o=>Dc xs { t:=S.t,l:=S.l,o:=o,b:=S.b } K
    | _=>af 451
def Cg (L:Le) (S:St) (K:St→Prop):Prop:=Ej L.ts S fun S=>Db L.ls S fun S=>Dc L.os S K
structure uS where
  at_:Option Nat
  row:Option (List (List AV))
  ks:List AV
  cs:List (Option (List (List AV)))
structure dh where
  dem:List Nat
  chk:List Nat
  row:List (Nat×List AV)
  val:List (Nat×AV)
  call:List (Nat×AV)
  sto:List (Nat×(AV×List Ob))
  obr:List (Nat×(Nat×List (List AV)))
  mpr:List (Nat×List (AV×AV))
  own:List (Nat×uS)
inductive PT where
  | done
  | go (i:Nat) (t:PT)
  | alt (i:Nat) (t r:PT)
def mT:List Nat→PT
  | []=>.done
  | i::is=>.go i (mT is)
def zN:PT→PT→Bool
  | .done,.done=>true
  | .go i t,.go j u=>Nat.beq i j&&zN t u
  | .alt i t r,.alt j u s=>Nat.beq i j&&(zN t u&&zN r s)
  | _,_=>false
structure Ek where
  ord:List (Nat×PT)
  reg:List (Nat×dh)
  wr:List (Nat×Le)
  lps:List (Nat×(Wk×Le×Ex×St))
  cut:List (Nat×(Wk×Le×Ex×St))
def Bm (A:Ek) (id:Nat):dh :=
  match o8 A.reg id with
  | some R=>R
  | none=>⟨[],[],[],[],[],[],[],[],[]⟩
def keyOf (o:Oper):Nat :=
  match o.dst with
  | some d=>d
  | none=>match o.op with
    | .store _ (.tmp t) _=>t + 1000000
    | .mapUpdate _ (.tmp t) _ _=>t + 1000000
    | .insert _ (.tmp t) _ _=>t + 1000000
    | _=>0
def DC (rows:List (List AV)) (i:Int):Option (List AV):=if 0≤i then rows[i.toNat]? else none
def Ch (op:BinOp) (x y:Value) (K:Value→Prop):Prop :=
  match op,x,y with
  | .quo,.int k a,.int k' b=>(decide (k=k')&&!(b==0))=true∧K (.int k (k.wrap (a.tdiv b)))
  | .rem,.int k a,.int k' b=>(decide (k=k')&&!(b==0))=true∧K (.int k (a.tmod b))
  | .shl,.int k a,.int _ b=>decide (0≤b)=true∧K (.int k (k.wrap (a * 2 ^ (min b.toNat k.bits))))
  | .shr,.int k a,.int _ b=>decide (0≤b)=true∧K (.int k (a.fdiv (2 ^ (min b.toNat k.bits))))
  | .add,.string a,.string b=>decide (((a.size + b.size:Nat):Int)≤9223372036854775807)=true∧K (.string (a++b))
  | _,_,_=>af 20
def Ci (C:Ctx) (A:dh) (o:Oper) (op:BinOp) (t:TypeId) (x y:AV) (k:AV→Prop):Prop :=
  match x,y with
  | .v a,.v b=>match CZ op a b with
    | none=>match a,b with
      | .bool x,.bool y=>xw C.P op t x y k
      | a,b=>Ch op a b fun c=>k (.v c)
    | some c=>k (.v c)
  | .agg as,.agg bs=>match rv as,rv bs with
    | some xs,some ys=>match o8 A.val (keyOf o) with
      | some (.v (.bool b))=>qO C.P op t xs ys=some (.bool b)∧k (.v (.bool b))
      | _=>af 400
    | _,_=>af 401
  | _,_=>af 402
def wY (C:Ctx) (A:dh) (o:Oper) (t:TypeId) (x ix:AV) (k:AV→Prop):Prop :=
  intOf ix fun i =>
  match C.P.underlying t,x with
  | some .string,.v (.string s)=>match o8 A.val (keyOf o) with
    | some (.v (.int .u8 n))=>(if 0≤i then s[i.toNat]? else none)=some (UInt8.ofNat n.toNat)∧(n=((UInt8.ofNat n.toNat).toNat:Int)∧k (.v (.int .u8 n)))
    | _=>af 403
  | some (.array len e),.agg cs=>match C.P.info? e with
    | some inf=>(decide (0≤i)&&decide (i<len))=true∧gM C.P e cs (i.toNat * inf.size) k
    | none=>af 404
  | _,_=>af 405
def El (C:Ctx) (A:dh) (pl:bi) (o:Oper) (vs:List AV) (k:AV→Prop):Prop :=
  match dQ A.chk (keyOf o) with
  | false=>pop C pl o vs k
  | true=>match o.op,vs with
    | .binOp op t _ _ _,[a,b]=>Ci C A o op t a b k
    | .index t _ _,[a,i]=>wY C A o t a i k
    | _,_=>af 406
def vY (len cap:Nat) (lo hi mx:Option Int) (k:Nat→Nat→Nat→Prop):Prop :=
  match lo,hi,mx with
  | none,none,none=>k 0 len cap
  | some l,none,none=>(decide (0≤l)&&decide (l≤len))=true∧k l.toNat len cap
  | none,some h,none=>(decide (0≤h)&&decide (h≤cap))=true∧k 0 h.toNat cap
  | some l,some h,none=>(decide (0≤l)&&decide (l≤h)&&decide (h≤cap))=true∧k l.toNat h.toNat cap
  | none,some h,some m=>(decide (0≤h)&&decide (h≤m)&&decide (m≤cap))=true∧k 0 h.toNat m.toNat
  | some l,some h,some m=>(decide (0≤l)&&decide (l≤h)&&decide (h≤m)&&decide (m≤cap))=true∧k l.toNat h.toNat m.toNat
  | _,_,_=>af 63
def ki (C:Ctx) (t:TypeId) (x:AV) (lo hi mx:Option Int) (S:St) (k:AV→Prop):Prop :=
  match C.P.underlying t with
  | some .string =>
    match x,mx with
    | .v (.string s),none=>vY s.size s.size lo hi none fun l h _=>k (.v (.string (s.extract l h)))
    | _,_=>af 64
  | some (.slice e) =>
    match C.P.info? e with
    | some i=>bf (Nat.blt 0 i.size) (
      match x with
      | .sl rows=>mg i.size rows=true∧vY rows.length rows.length lo hi mx fun l h _ =>
        match lo,hi,ig mx&&ig hi with
        | _,_,true=>k .esl
        | none,none,_=>k (.sl rows)
        | _,none,_=>k (.sl (rows.drop l))
        | none,_,_=>k (.sl (rows.take h))
        | _,_,_=>k (.sl ((rows.drop l).take (h - l)))
      | .mf id=>match S.o[id]? with
        | some (.arr _ sz rows)=>bf (Nat.beq sz i.size) (vY rows.length rows.length lo hi mx fun l h m =>
          match lo,hi,ig mx&&ig hi with
          | _,_,true=>k .esl
          | none,none,_=>k (.mf id)
          | _,none,_=>k (.msl id l (rows.length - l) 0)
          | _,_,_=>k (.msl id l (h - l) (m - h)))
        | _=>af 65
      | .msl id off len ext=>match S.o[id]? with
        | some (.arr _ sz _)=>bf (Nat.beq sz i.size) (vY len (len + ext) lo hi mx fun l h m =>
          match ig mx&&ig hi with
          | true=>k .esl
          | false=>k (.msl id (l + off) (h - l) (m - h)))
        | _=>af 66
      | _=>af 67)
    | none=>af 68
  | _=>af 69
def mU (C:Ctx) (row:List AV) (t:TypeId) (x ix:AV) (S:St) (k:AV→Prop):Prop :=
  intOf ix fun i =>
  match C.P.underlying t with
  | some (.slice e) =>
    match C.P.info? e with
    | some inf =>
      match x with
      | .sl rows=>DC rows i=some row∧bf (Nat.beq row.length inf.size&&Nat.blt 0 inf.size) (k (.fptr row 0))
      | .mf id=>match S.o[id]? with
        | some (.arr _ _ rows)=>DC rows i=some row∧bf (Nat.beq row.length inf.size&&Nat.blt 0 inf.size) (k (.ptr (.O id) i.toNat 0))
        | some (.own none _ cells _)=>bf (Nat.beq inf.size 1) ((decide (0≤i)&&Nat.blt i.toNat cells.length)=true∧k (.ptr (.O id) i.toNat 0))
        | _=>af 72
      | .msl id off len _=>match S.o[id]? with
        | some (.arr _ _ rows)=>(decide (0≤i)&&decide (i<len))=true∧(rows[i.toNat + off]?=some row∧bf (Nat.beq row.length inf.size&&Nat.blt 0 inf.size) (k (.ptr (.O id) (i.toNat + off) 0)))
        | _=>af 74
      | _=>af 75
    | none=>af 76
  | some (.array len e) =>
    match C.P.info? e with
    | some inf=>(decide (0≤i)&&decide (i<len))=true∧(
      match x with
      | .ptr key a j=>k (.ptr key a (i.toNat * inf.size + j))
      | .fptr row j=>k (.fptr row (i.toNat * inf.size + j))
      | _=>af 77)
    | none=>af 78
  | _=>af 79
def rQ (C:Ctx) (A:dh) (o:Oper) (fid:Nat) (as:List AV) (k:AV→Prop):Prop :=
  match o8 A.call (keyOf o) with
  | some r=>(C.pcall fid as fun x=>x=r)∧k r
  | none=>C.pcall fid as k
def zO (P:Program) (op:BinOp) (t:TypeId) (x y:AV) (S:St) (k:AV→Prop):Prop :=
  match x,y with
  | .mf id,.nilsl=>match S.o[id]? with
    | some (.arr _ _ rows)=>EV rows=true∧(match P.underlying t,op with
      | some (.slice _),.eql=>k (.v (.bool false))
      | some (.slice _),.neq=>k (.v (.bool true))
      | _,_=>af 265)
    | _=>af 472
  | _,_=>af 473
def qE (size:Nat) (S:St) (x:AV) (k:Bool→List (List AV)→Prop):Prop :=
  match x with
  | .nilsl | .esl=>k true []
  | .sl rows=>mg size rows=true∧k true rows
  | .mf id=>match S.o[id]? with | some (.arr fl sz rows)=>bf (Nat.beq sz size) (k fl rows) | _=>af 45
  | .msl id off len _=>match S.o[id]? with | some (.arr fl sz rows)=>bf (Nat.beq sz size) (k fl ((rows.drop off).take len)) | _=>af 46
  | .v (.string s)=>bf (Nat.beq size 1) (k true (s.data.toList.map fun b=>[.v (.int .u8 b.toNat)]))
  | x=>iT size S x k
def wZ (P:Program) (src dst:TypeId) (x:AV) (S:St) (s:ByteArray) (k:AV→Prop):Prop :=
  match P.underlying src,P.underlying dst with
  | some (.slice e),some .string =>
    match P.underlying e with
    | some (.int .u8)=>bf (!(EP x)) (qE 1 S x fun _ rows=>bytesOf rows=some s.data.toList∧k (.v (.string s)))
    | _=>af 481
  | _,_=>af 482
def Em (C:Ctx) (A:dh) (o:Oper) (vs:List AV) (M:St) (k:AV→Prop):Prop :=
  match o.op,vs with
  | .load t _,[p]=>match o8 A.row (keyOf o) with
    | some row=>match p with
      | .ptr (.O id) i j=>match M.o[id]? with
        | some (.arr _ _ rows)=>rows[i]?=some row∧gM C.P t row j k
        | _=>af 410
      | _=>af 411
    | none=>nn C o vs M k
  | .slice t _ lo hi mx,a::rest=>match dQ A.chk (keyOf o) with
    | false=>nn C o vs M k
    | true=>match lo,hi,mx,rest with
      | none,none,none,[]=>ki C t a none none none M k
      | some _,none,none,[x]=>intOf x fun x=>ki C t a (some x) none none M k
      | none,some _,none,[y]=>intOf y fun y=>ki C t a none (some y) none M k
      | some _,some _,none,[x,y]=>intOf x fun x=>intOf y fun y=>ki C t a (some x) (some y) none M k
      | none,some _,some _,[y,z]=>intOf y fun y=>intOf z fun z=>ki C t a none (some y) (some z) M k
      | some _,some _,some _,[x,y,z]=>intOf x fun x=>intOf y fun y=>intOf z fun z=>ki C t a (some x) (some y) (some z) M k
      | _,_,_,_=>af 202
  | .indexAddr t _ _,[a,i]=>match o8 A.row (keyOf o) with
    | some row=>mU C row t a i M k
    | none=>nn C o vs M k
  | .lookup t _ _ ok,[m,key]=>match o8 A.call (keyOf o) with
    | some a=>match C.P.underlying t,m with
      | some (.map kt e),.mp id=>match M.o[id]? with
        | some (.mapo _ es)=>(∀ k':AV→Prop,k' a→j6 C.P kt key es fun _ r=>m5 C.P e ok es r k')∧k a
        | _=>af 412
      | _,_=>af 413
    | none=>nn C o vs M k
  | .binOp op t _ _ _,[a,b]=>match dQ A.chk (keyOf o) with
    | false=>nn C o vs M k
    | true=>zO C.P op t a b M k
  | .convert src dst _,[x]=>match o8 A.call (keyOf o) with
    | some (.v (.string s))=>wZ C.P src dst x M s k
    | _=>nn C o vs M k
  | .call c,vs=>match c.callee with
    | .value _=>match vs with
      | .fn fid first cap::as=>bf (C.pure fid) (ij M.o (first++as++cap) fun bs=>rQ C A o fid bs fun r=>bf (r5 4 r||((first++as++cap).flatMap (cN M.o 6)).isEmpty) (k r))
      | _=>af 205
    | _=>nn C o vs M k
  | _,_=>nn C o vs M k
def w5 (S:St) (row:List AV) (a:AV) (cs:List AV) (K:St→Prop):Prop :=
  match a with
  | .ptr (.O id) i j =>
    match S.o[id]? with
    | some (.arr fl sz rows)=>rows[i]?=some row∧bf (Nat.ble (j + cs.length) row.length&&cs.all (ru 4)) (gK (splice row j cs) fun row'=>aQ (S.o.set id (.arr (fl&&cs.all (cM 4)) sz (rows.set i row'))) fun o=>K { t:=S.t,l:=S.l,o:=o,b:=S.b })
    | _=>af 18
  | _=>af 19
def Dd (C:Ctx) (A:dh) (o:Oper) (vs:List AV) (M:St) (k:AV→St→Prop):Prop :=
  match o8 A.row (keyOf o) with
  | none=>ve C o vs M k
  | some row=>match o.op,vs with
    | .store t _ _,[p,y]=>match p with
      | .ptr (.O _) _ _=>lb y fun cs=>match C.P.info? t with
        | some i=>bf (Nat.beq cs.length i.size) (w5 M row p cs fun M'=>k .bad M')
        | none=>af 208
      | _=>ve C o vs M k
    | _,_=>ve C o vs M k
def tA (P:Program) (ts:List TypeId) (base x:AV) (S:St) (k:St→AV→Prop):Prop :=
  match ts with
  | [t0,t1] =>
    match P.underlying t0 with
    | some (.slice e) =>
      match P.info? e with
      | some i=>bf (Nat.blt 0 i.size&&Nat.blt 0 i.bytes&&Dw i&&(match P.underlying t1 with | some (.slice _) | some .string=>true | _=>false)) (qE i.size S x fun fl src=>aA src=true∧(
          match base with
          | .nilsl | .esl=>Nat.ble (src.length * i.bytes) 140737488355328=true∧(aQ (S.o++[.arr fl i.size src]) fun o=>k { t:=S.t,l:=S.l,o:=o,b:=S.b } (.mf S.o.length))
          | .mf id=>match S.o[id]? with
            | some (.arr fl' sz rows)=>bf (Nat.beq sz i.size&&(fl||!fl')) (Nat.ble ((rows.length + src.length) * i.bytes) 140737488355328=true∧nr S id (.arr (fl'&&fl) sz (rows++src)) fun S' id'=>k S' (.mf id'))
            | _=>af 48
          | .msl id off len ext=>match S.o[id]? with
            | some (.arr fl' sz rows)=>bf (Nat.beq sz i.size&&(fl||!fl')) (Nat.ble src.length ext=true∧(Nat.ble (off + len + ext) rows.length=true ∧
                aQ (S.o.set id (.arr (fl'&&fl) sz (rows.take (off + len)++(src++rows.drop (off + len + src.length))))) fun o=>k { t:=S.t,l:=S.l,o:=o,b:=S.b } (.msl id off (len + src.length) (ext - src.length))))
            | _=>af 49
          | _=>af 50))
      | none=>af 51
    | _=>af 52
  | _=>af 53
def qF (P:Program) (ts:List TypeId) (base x:AV) (k:AV→Prop):Prop :=
  match ts with
  | [t0,t1] =>
    match P.underlying t0 with
    | some (.slice e) =>
      match P.info? e with
      | some i=>bf (Nat.blt 0 i.size&&Nat.blt 0 i.bytes&&Dw i&&(match P.underlying t1 with | some (.slice _) | some .string=>true | _=>false)) (qE i.size Fl x fun fl src=>bf fl (aA src=true∧(Nat.ble (src.length * i.bytes) 140737488355328=true∧(
          match base with
          | .nilsl | .esl=>k (.sl src)
          | _=>af 254))))
      | none=>af 255
    | _=>af 256
  | _=>af 257
def En (C:Ctx) (o:Oper) (vs:List AV) (k:AV→Prop):Prop :=
  match o.op,vs with
  | .call c,[x,y]=>match c.callee with
    | .builtin .append=>qF C.P c.argTypes.toList x y k
    | _=>af 258
  | _,_=>af 259
def qG (P:Program) (ts:List TypeId) (base:AV) (n:Int) (S:St) (k:St→AV→Prop):Prop :=
  match ts with
  | [t0,t1] =>
    match P.underlying t0,P.underlying t1 with
    | some (.slice e),some (.int _) =>
      match P.info? e with
      | some i=>(Nat.blt 0 i.size&&Nat.blt 0 i.bytes&&decide (0<n)&&decide (n * i.bytes≤140737488355328)&&decide (n≤140737488355328))=true∧(b_ P e fun z=>bf (z.all (cM 2)) (
          match base with
          | .nilsl | .esl=>aQ (S.o++[.arr true i.size (List.replicate n.toNat z)]) fun o=>k { t:=S.t,l:=S.l,o:=o,b:=S.b } (.mf S.o.length)
          | _=>af 250))
      | none=>af 251
    | _,_=>af 252
  | _=>af 253
def kj (P:Program) (t:TypeId) (l c:AV) (S:St) (k:St→AV→Prop):Prop :=
  match P.underlying t with
  | some (.slice e) =>
    match P.info? e with
    | some i=>intOf l fun l=>intOf c fun c=>(decide (0≤l)&&decide (l≤c)&&decide (i.bytes * c≤140737488355328)&&decide (c≤140737488355328)&&Nat.blt 0 i.size)=true ∧
        (b_ P e fun z=>bf (z.all (cM 2)) (aQ (S.o++[.arr true i.size (List.replicate l.toNat z)]) fun o=>k { t:=S.t,l:=S.l,o:=o,b:=S.b } (.mf S.o.length)))
    | none=>af 61
  | _=>af 62
def zP (P:Program) (ts:List TypeId) (x y:AV) (M:St) (k:AV→St→Prop):Prop :=
  match ts with
  | t::_ =>
    match P.underlying t with
    | some (.slice e) =>
      match P.info? e with
      | some i=>bf (Nat.blt 0 i.size) (qE i.size M y fun fl src=>aA src=true∧bf (!(EP y)) (
          match x with
          | .mf id=>match M.o[id]? with
            | some (.arr fl' sz rows)=>bf (Nat.beq sz i.size) (aQ (M.o.set id (.arr (fl'&&fl) sz (src.take rows.length++rows.drop src.length))) fun o=>k (.v (.int .i64 ((min src.length rows.length:Nat):Int))) { t:=M.t,l:=M.l,o:=o,b:=M.b })
            | _=>af 243
          | .msl id off len _=>match M.o[id]? with
            | some (.arr fl' sz rows)=>bf (Nat.beq sz i.size) (Nat.ble (off + len) rows.length=true∧(aQ (M.o.set id (.arr (fl'&&fl) sz (rows.take off++(src.take len++rows.drop (off + min src.length len))))) fun o=>k (.v (.int .i64 ((min src.length len:Nat):Int))) { t:=M.t,l:=M.l,o:=o,b:=M.b }))
            | _=>af 244
          | _=>af 245))
      | none=>af 246
    | _=>af 247
  | []=>af 248
def zQ (C:Ctx) (A:dh) (o:Oper) (f:AV) (args:List AV) (S:St) (k:St→AV→Prop):Prop :=
  match f with
  | .fn fid first cap =>
    match C.pure fid with
    | true=>ij S.o (first++args++cap) fun as=>rQ C A o fid as fun r =>
        match r5 4 r with
        | true=>k S r
        | false=>fh ((first++args++cap).flatMap (cN S.o 6)) S fun S'=>k S' r
    | false=>bf ((first++args++cap).all (ru 4)) (match o8 A.sto (keyOf o) with
      | some (r,o')=>(C.scall fid (first++args++cap) S.o fun r' o''=>r'=r∧o''=o')∧i6 (bz S.o o' 0) S.t S.l fun t l=>k { t:=t,l:=l,o:=o',b:=S.b } r
      | none=>C.scall fid (first++args++cap) S.o fun r o'=>i6 (bz S.o o' 0) S.t S.l fun t l=>k { t:=t,l:=l,o:=o',b:=S.b } r)
  | _=>af 97
def km (P:Program) (R:List (AV×AV)) (t:TypeId) (m key x:AV) (S:St) (K:St→Prop):Prop :=
  match P.underlying t with
  | some (.map kt _) =>
    match m with
    | .mp id=>match S.o[id]? with
      | some (.mapo fl es)=>bf (ru 4 x) ((∀ K':List (AV×AV)→Prop,K' R→j6 P kt key es fun kv r=>bf (AP P kt kv) (
          match r with
          | some i=>bf (Instr.sameBits 10000 ((es[i]?.bind fun e=>yW e.1).getD (.bool false)) kv) (K' (es.set i (key,x)))
          | none=>K' (es++[(key,x)])))∧aQ (S.o.set id (.mapo (fl&&cM 4 x) R)) fun o=>K { t:=S.t,l:=S.l,o:=o,b:=S.b })
      | _=>af 106
    | _=>af 107
  | _=>af 108
def De (C:Ctx) (A:dh) (pl:bi) (o:Oper) (S:St) (K:St→Prop):Prop :=
  match o.op with
  | .mapUpdate t m key x=>match o8 A.mpr (keyOf o) with
    | some R=>cj S m fun m=>cj S key fun key=>cj S x fun x=>km C.P R t m key x S fun S'=>bc o.dst .bad S' K
    | none=>uw C pl o S K
  | .insert t m key x=>match o8 A.mpr (keyOf o) with
    | some R=>cj S m fun m=>cj S key fun key=>cj S x fun x=>km C.P R t m key x S fun S'=>bc o.dst .bad S' K
    | none=>uw C pl o S K
  | .makeSlice t l c=>match dQ A.chk (keyOf o) with
    | true=>cj S l fun l=>cj S c fun c=>kj C.P t l c S fun S' a=>bc o.dst a S' K
    | false=>uw C pl o S K
  | .call c=>match c.callee with
    | .builtin .append=>match dQ A.chk (keyOf o) with
      | true=>cX S c.args.toList fun as=>match as with
        | [x,.v (.int _ n)]=>qG C.P c.argTypes.toList x n S fun S' r=>bc o.dst r S' K
        | [x,y]=>tA C.P c.argTypes.toList x y S fun S' r=>bc o.dst r S' K
        | _=>af 210
      | false=>uw C pl o S K
    | .builtin .copy=>cX S c.args.toList fun as=>match as with
        | [x,y]=>zP C.P c.argTypes.toList x y S fun r S'=>bc o.dst r S' K
        | _=>af 249
    | .value f=>cj S f fun fv=>cX S c.args.toList fun as=>zQ C A o fv as S fun S' r=>bc o.dst r S' K
    | _=>uw C pl o S K
  | _=>uw C pl o S K
def DD (A:dh) (dst:Option Tmp) (S:St) (K:St→Prop):Prop :=
  match dst with
  | none=>K S
  | some d=>match o8 A.val d with
    | none=>K S
    | some v=>nP S.t d fun a=>a=v∧qc S.t d v fun t=>K { t:=t,l:=S.l,o:=S.o,b:=S.b }
def Cj (A:dh) (key:Nat) (S:St) (K:St→Prop):Prop :=
  match o8 A.obr key with
  | none=>K S
  | some (id,R)=>match S.o[id]? with
    | some (.arr fl sz rows)=>rows=R∧aQ (S.o.set id (.arr fl sz R)) fun o=>K { t:=S.t,l:=S.l,o:=o,b:=S.b }
    | _=>af 430
def Ck (C:Ctx) (A:dh) (pl:bi) (o:Oper) (S:St) (K:St→Prop):Prop :=
  cX S o.op.operands.toList fun vs=>El C A pl o vs fun r=>bc o.dst r S K
def Cl (C:Ctx) (A:dh) (o:Oper) (S:St) (K:St→Prop):Prop :=
  cX S o.op.operands.toList fun vs=>Em C A o vs (cn S) fun r=>bc o.dst r S K
def DF (C:Ctx) (A:dh) (o:Oper) (S:St) (K:St→Prop):Prop :=
  cX S o.op.operands.toList fun vs=>Dd C A o vs (cn S) fun r M=>bc o.dst r (ev S M) K
def nh (row:Option (List (List AV))) (M:St) (id i:Nat) (k:AV→St→Prop):Prop :=
  match M.o[id]? with
  | some (.own ks sz cells none)=>match row with
    | none=>cells[i]?=some none∧k .nilsl M
    | some rows=>cells[i]?=some (some rows)∧aQ (M.o.set id (.own ks sz cells (some (i,.mf M.o.length)))++[.arr true sz rows]) fun o=>k (.mf M.o.length) { t:=M.t,l:=M.l,o:=o,b:=M.b }
  | _=>af 323
def qH (P:Program) (a:uS) (t:TypeId) (same:Bool) (M:St) (id i:Nat) (k:AV→St→Prop):Prop :=
  match same with
  | true=>match M.o[id]? with
    | some (.own none _ cells (some (j,a)))=>(Nat.beq i j&&Nat.blt j cells.length)=true∧gM P t [a] 0 fun r=>k r M
    | _=>af 324
  | false=>nh a.row M id i fun a M'=>gM P t [a] 0 fun r=>k r M'
def o3 (P:Program) (t:TypeId) (M:St) (id i:Nat) (v:AV) (K:St→Prop):Prop :=
  match P.info? t,M.o[id]? with
  | some inf,some (.own none sz cells hole)=>bf (qg v&&Nat.beq inf.size 1) ((Nat.blt i cells.length&&mn hole i)=true∧(aQ (M.o.set id (.own none sz cells (some (i,v)))) fun o=>K { t:=M.t,l:=M.l,o:=o,b:=M.b }))
  | _,_=>af 325
def qI (P:Program) (j:Nat) (a:uS) (t:TypeId) (l c:AV) (M:St) (k:AV→St→Prop):Prop :=
  match P.underlying t with
  | some (.slice e) =>
    match P.info? e,P.underlying e with
    | some i,some (.slice e2)=>match P.info? e2 with
      | some i2=>intOf l fun l=>intOf c fun c=>(decide (0≤l)&&decide (l≤c)&&decide (i.bytes * c≤140737488355328)&&decide (c≤140737488355328)&&Nat.blt 0 i.size)=true∧bf (Nat.beq i.size 1&&Nat.blt 0 i2.size)
          (b_ P e fun z=>match z with
            | [.nilsl]=>List.replicate l.toNat none=a.cs∧nR j M.o M.b (.own none i2.size a.cs none) fun o=>k (.mf j) { t:=M.t,l:=M.l,o:=o,b:=M.b }
            | _=>af 325)
      | none=>af 326
    | _,_=>af 61
  | _=>af 62
def qJ (P:Program) (a:uS) (t:TypeId) (m key:AV) (ok:Bool) (M:St) (k:AV→St→Prop):Prop :=
  match P.underlying t with
  | some (.map kt e)=>match m with
    | .mp id=>match M.o[id]? with
      | some (.own (some ks) _ _ none)=>match a.at_ with
        | some i=>(∀ K':Option Nat→Prop,K' (some i)→j6 P kt key (j7 ks) fun _ r=>K' r)∧nh a.row M id i fun a M'=>ml ok a true fun r=>k r M'
        | none=>(∀ K':Option Nat→Prop,K' none→j6 P kt key (j7 ks) fun _ r=>K' r)∧i7 P e ok fun r=>k r M
      | _=>af 333
    | _=>af 334
  | _=>af 335
def E5 (M:St) (id sz:Nat) (cells:List (Option (List (List AV)))) (hole:Option (Nat×AV)) (x:AV) (K:St→Prop) (r:Option Nat) (ks:List AV):Prop :=
  match r with
  | some i=>mn hole i=true∧(aQ (M.o.set id (.own (some ks) sz cells (some (i,x)))) fun o=>K { t:=M.t,l:=M.l,o:=o,b:=M.b })
  | none=>match hole with
    | none=>aQ (M.o.set id (.own (some ks) sz (cells++[none]) (some (cells.length,x)))) fun o=>K { t:=M.t,l:=M.l,o:=o,b:=M.b }
    | some _=>af 339
def pS (P:Program) (a:uS) (t:TypeId) (m key x:AV) (M:St) (K:St→Prop):Prop :=
  match P.underlying t with
  | some (.map kt _)=>match m with
    | .mp id=>match M.o[id]? with
      | some (.own (some ks) sz cells hole)=>bf (qg x) ((∀ K':Option Nat→List AV→Prop,K' a.at_ a.ks→j6 P kt key (j7 ks) fun kv r=>bf (AP P kt kv) (match r with
          | some i=>bf (Instr.sameBits 10000 ((ks[i]?.bind yW).getD (.bool false)) kv) (K' (some i) (ks.set i key))
          | none=>K' none (ks++[key])))∧E5 M id sz cells hole x K a.at_ a.ks)
      | _=>af 340
    | _=>af 341
  | _=>af 342
def Ay (P:Program) (A:dh) (pl:bi) (o:Oper) (vs:List AV) (M:St) (k:AV→St→Prop):Prop :=
  match o8 A.own (keyOf o) with
  | none=>j3 P pl o vs M k
  | some a=>match o.op,vs with
    | .load t _,[p]=>iA M p fun id i=>qH P a t (Af pl o) M id i k
    | .store t _ _,[p,v]=>iA M p fun id i=>o3 P t M id i v fun M'=>k .bad M'
    | .makeSlice t _ _,[l,c]=>qI P (Ag pl.ix o.dst M.o.length) a t l c M k
    | .lookup t _ _ ok,[m,key]=>qJ P a t m key ok M k
    | .mapUpdate t _ _ _,[m,key,x]=>pS P a t m key x M fun M'=>k .bad M'
    | .insert t _ _ _,[m,key,x]=>pS P a t m key x M fun M'=>k .bad M'
    | _,_=>af 343
def ni (A:dh) (S:St) (id:Nat) (K:St→Prop):Prop :=
  match o8 A.own (id + 2000000) with
  | none=>gN S id K
  | some a=>match S.o[id]? with
    | some (.own ks sz cells (some (j,.mf k)))=>match S.o[k]? with
      | some (.arr true sz' rows)=>bf (Nat.beq sz' sz) (Nat.blt j cells.length=true∧(cells.set j (some rows)=a.cs∧fh [k] S fun S1=>aQ (S1.o.set id (.own ks sz a.cs none)) fun o=>K { t:=S1.t,l:=S1.l,o:=o,b:=S1.b }))
      | _=>af 320
    | some (.own ks sz cells (some (j,.nilsl)))=>Nat.blt j cells.length=true∧(cells.set j none=a.cs∧(aQ (S.o.set id (.own ks sz a.cs none)) fun o=>K { t:=S.t,l:=S.l,o:=o,b:=S.b }))
    | _=>af 321
def tD (A:dh):List Nat→St→(St→Prop)→Prop
  | [],S,K=>K S
  | id::ids,S,K=>ni A S id fun S'=>tD A ids S' K
def pT (A:dh) (S:St) (id:Nat) (K:St→Prop):Prop :=
  match o8 A.mpr (id + 2000000) with
  | none=>jj S id K
  | some R=>match S.o[id]? with
    | some (.own (some ks) _ cells none)=>mm ks cells=R∧(aQ (S.o.set id (.mapo true R)) fun o=>K { t:=S.t,l:=S.l,o:=o,b:=S.b })
    | _=>af 344
def qK (A:dh):List Nat→St→(St→Prop)→Prop
  | [],S,K=>K S
  | id::ids,S,K=>pT A S id fun S'=>qK A ids S' K
def tE (A:dh) (pl:bi) (id:Nat) (S:St) (K:St→Prop):Prop :=
  match dQ pl.cl id with
  | false=>K S
  | true=>tD A (yZ S.o.length) S fun S1=>match dQ pl.fr id with
    | false=>K S1
    | true=>qK A (yZ S1.o.length) S1 K
def zR (C:Ctx) (A:dh) (o:Oper) (vs:List AV) (M:St) (k:AV→St→Prop):Prop :=
  match o.op,vs with
  | .makeSlice t _ _,[l,c]=>match dQ A.chk (keyOf o) with
    | true=>kj C.P t l c M fun M' r=>k r M'
    | false=>j8 C o vs M k
  | .call c,.fn fid first cap::as=>match c.callee with
    | .value _=>bf (!(C.pure fid)&&(first++as++cap).all (ru 4)) (match o8 A.sto (keyOf o) with
      | some (r,o')=>(C.scall fid (first++as++cap) M.o fun r' o''=>r'=r∧o''=o')∧bf (bz M.o o' 0).isEmpty (k r { t:=M.t,l:=M.l,o:=o',b:=M.b })
      | none=>C.scall fid (first++as++cap) M.o fun r o'=>bf (bz M.o o' 0).isEmpty (k r { t:=M.t,l:=M.l,o:=o',b:=M.b }))
    | _=>af 310
  | _,_=>Dd C A o vs M k
def Cm (C:Ctx) (A:dh) (pl:bi) (o:Oper) (vs:List AV) (M:St) (k:AV→St→Prop):Prop :=
  match eQ pl o with
  | true=>Ay C.P A pl o vs M k
  | false=>zR C A o vs M k
def DG (C:Ctx) (A:dh) (pl:bi) (o:Oper) (S:St) (K:St→Prop):Prop :=
  cX S o.op.operands.toList fun vs=>Ay C.P A pl o vs (cn S) fun r M=>bc o.dst r (ev S M) K
def Cn (C:Ctx) (A:dh) (pl:bi) (o:Oper) (S:St) (K:St→Prop):Prop :=
  cX S o.op.operands.toList fun vs=>Cm C A pl o vs (cn S) fun r M=>bc o.dst r (ev S M) K
def DI (C:Ctx) (o:Oper) (S:St) (K:St→Prop):Prop :=
  cX S o.op.operands.toList fun vs=>En C o vs fun r=>bc o.dst r S K
def l8 (A:dh) (o:Oper) (K:St→Prop) (S:St):Prop:=DD A o.dst S fun S'=>Cj A (keyOf o) S' K
def Eo (C:Ctx) (A:dh) (pl:bi) (o:Oper) (S:St) (K:St→Prop):Prop :=
  match BO o with
  | 0=>Ck C A pl o S (l8 A o K)
  | 1=>Cl C A o S (l8 A o K)
  | 2=>DF C A o S (l8 A o K)
  | _=>De C A pl o S (l8 A o K)
def DJ (C:Ctx) (A:dh) (pl:bi) (o:Oper) (S:St) (K:St→Prop):Prop :=
  match eQ pl o with
  | true=>DG C A pl o S (l8 A o K)
  | false=>Eo C A pl o S K
def yx (C:Ctx) (A:dh) (pl:bi) (o:Oper) (S:St) (K:St→Prop):Prop :=
  match eD pl o with
  | 0=>Ck C A pl o S (l8 A o K)
  | 1=>Cl C A o S (l8 A o K)
  | 2=>Cn C A pl o S (l8 A o K)
  | 4=>match o.dst with
    | some d=>bc o.dst (.ptr (.L d) 0 0) S K
    | none=>af 217
  | 5=>DI C o S (l8 A o K)
  | _=>match xy pl o with
    | true=>af 219
    | false=>De C A pl o S (l8 A o K)
def Ep (op:BinOp):Bool :=
  match op with
  | .eql | .neq=>true
  | _=>false
def vZ (op:BinOp):Bool :=
  match op with
  | .eql=>true
  | _=>false
def DK (P:Program) (o:Oper) (S:St) (K:St→Prop):Prop :=
  match o.op with
  | .binOp op t x (.const (.slice none 0 0)) _=>match P.underlying t with
    | some (.slice _)=>cj S x fun a=>match a with
      | .sl rows=>bf (Ep op) ((rows=[]→bc o.dst (.v (.bool (vZ op))) S K)∧bc o.dst (.v (.bool (!(vZ op)))) S K)
      | _=>af 460
    | _=>af 461
  | _=>af 462
def w6 (C:Ctx) (A:dh) (pl:bi) (all:Array Oper):List Oper→St→(St→Prop)→Prop
  | [],S,K=>K S
  | o::rest,S,K =>
    match o.guard with
    | none=>match dQ A.dem (keyOf o) with
      | true=>DK C.P o S fun S'=>w6 C A pl all rest S' K
      | false=>DJ C A pl o S fun S'=>w6 C A pl all rest S' K
    | some (j,want) =>
      match pi all j with
      | none=>af 218
      | some d=>fk d S fun b S1=>gsel b want (DJ C A pl o S1 fun S'=>w6 C A pl all rest S' K) (bc o.dst (.tup []) S1 fun S'=>w6 C A pl all rest S' K)
def FE (C:Ctx) (A:dh) (pl:bi) (all:Array Oper) (o:Oper) (S:St) (K:St→Prop):Prop :=
  match o.guard with
  | none=>bf (iB pl all o S) (yx C A pl o S K)
  | some (j,want) =>
    match pi all j with
    | none=>af 218
    | some d=>fk d S fun b S1=>gsel b want (bf (iB pl all o S1) (yx C A pl o S1 K)) (bc o.dst (.tup []) S1 K)
def ER (C:Ctx) (A:dh) (pl:bi) (ops:Array Oper) (i:Nat) (S:St) (K:St→Prop):Prop :=
  match ops[i]? with
  | none=>af 303
  | some o=>FE C A pl ops o S K
def oT (C:Ctx) (A:dh) (pl:bi) (ops:Array Oper):PT→Option (St×Prop)→St→(St→Prop)→Prop
  | .done,m,S,K=>match m with
    | none=>K S
    | some (_,X)=>X
  | .go i t,m,S,K=>match m with
    | none=>ER C A pl ops i S fun S'=>oT C A pl ops t none S' K
    | some (_,_)=>af 305
  | .alt i t r,m,S,K=>match m with
    | none=>ER C A pl ops i S fun S'=>oT C A pl ops t none S' fun S1=>oT C A pl ops r (some (S1,K S1)) S K
    | some (S1,X)=>ER C A pl ops i S fun S'=>oT C A pl ops t none S' fun S2=>S2=S1∧oT C A pl ops r (some (S1,X)) S K
def nG (f:Nat→Option PT):List Nat→Option PT
  | []=>some .done
  | i::is=>match f i with
    | some t=>match nG f is with
      | some r=>some (.alt i t r)
      | none=>none
    | none=>none
def GF:List Nat→Bool
  | [_,_] | [_,_,_] | [_,_,_,_]=>true
  | _=>false
def je (pl:bi) (ops:Array Oper) (ws:List Nat):Nat→Nat→Array Bool→Option PT
  | 0,_,listed=>match Region.ready .any ops listed with
    | []=>some .done
    | _::_=>none
  | n + 1,a,listed =>
    match Region.ready .any ops listed with
    | []=>some .done
    | r::rs=>match mq pl ops ws listed (r::rs) with
      | some k=>match je pl ops ws n a (listed.setIfInBounds k true) with | some t=>some (.go k t) | none=>none
      | none=>match rs with
        | []=>match je pl ops ws n a (listed.setIfInBounds r true) with | some t=>some (.go r t) | none=>none
        | _::_=>match GF (r::rs),a with
          | true,a + 1=>nG (fun i=>je pl ops ws n a (listed.setIfInBounds i true)) (r::rs)
          | _,_=>none
def v0 (pl:bi) (ops:Array Oper) (ws:List Nat):Nat→Array Bool→Option PT
  | 0,listed=>je pl ops ws 0 6 listed
  | n + 1,listed=>match mr ops listed (Region.ready .any ops listed) with
    | some i=>match v0 pl ops ws n (listed.setIfInBounds i true) with | some t=>some (.go i t) | none=>none
    | none=>je pl ops ws (n + 1) 6 listed
def tH (pl:bi) (ops:Array Oper):Option PT :=
  match Fo ops with
  | false=>none
  | true=>match pl.cl with
    | []=>je pl ops (bA ops.toList []) ops.size 3 (Array.replicate ops.size false)
    | _::_=>v0 pl ops (bA ops.toList []) ops.size (Array.replicate ops.size false)
def i_ (pl:bi) (ord:List (Nat×PT)):Code→Bool
  | .region id ops true=>match o8 ord id,tH pl ops with
    | some is,some js=>zN is js
    | _,_=>false
  | .seq a b=>i_ pl ord a&&i_ pl ord b
  | .cond _ a b=>i_ pl ord a&&i_ pl ord b
  | .block _ c=>i_ pl ord c
  | .loop c=>i_ pl ord c
  | _=>true
def nH:Code→Nat
  | .region id _ _=>id
  | .seq a _=>nH a
  | .cond _ a _=>nH a
  | .block _ c=>nH c
  | .loop c=>nH c
  | _=>0
def Bn (A:Ek) (id:Nat) (S:St) (K:St→Prop):Prop :=
  match o8 A.wr id with
  | some L=>Cg L S K
  | none=>K S
def Df:Type:=Code→St→(Ex→St→Prop)→Prop
def tJ (C:Ctx) (cd:Df) (A:Ek) (pl:bi):Code→St→(Ex→St→Prop)→Prop
  | .skip,S,K=>K .nrm S
  | .region id ops draw,S,K =>
    match draw with
    | false=>w6 C (Bm A id) pl ops ops.toList S fun S'=>tE (Bm A id) pl id S' fun S''=>Bn A id S'' (K .nrm)
    | true=>match o8 A.ord id with
      | some is=>bf (qR pl ops) (uA C.P (bR ops.toList) S fun S1=>oT C (Bm A id) pl ops is none S1 fun S'=>jM (bR ops.toList) S' (tE (Bm A id) pl id S' fun S''=>Bn A id S'' (K .nrm)))
      | none=>af 440
  | .seq a b,S,K=>tJ C cd A pl a S fun e S'=>match e with
    | .nrm=>match o8 A.cut (nH b) with
      | some (W,L,e1,S1)=>Cg L (wk W S') fun S2=>cd b S2 (fun e' S3=>e'=e1∧S3=S1)∧K e1 S1
      | none=>tJ C cd A pl b S' K
    | .ex i=>K (.ex i) S'
    | .ret=>K .ret S'
  | .cond c x y,S,K=>md c S fun b S'=>match b with
    | true=>tJ C cd A pl x S' K
    | false=>tJ C cd A pl y S' K
  | .block id c,S,K=>tJ C cd A pl c S fun e S'=>match e with
    | .ex i=>match Nat.beq i id with | true=>K .nrm S' | false=>K (.ex i) S'
    | .nrm=>K .nrm S'
    | .ret=>K .ret S'
  | .loop c,S,K=>match o8 A.lps (nH c) with
    | some (W,L,e,S1)=>Cg L (wk W S) fun S2=>(C.loop pl c S2 fun e' S'=>e'=e∧S'=S1)∧K e S1
    | none=>C.loop pl c S K
  | .exit id,S,K=>K (.ex id) S
  | .ret,S,K=>K .ret S
  | _,_,_=>af 119
def sub:Code→List Nat→Code
  | c,[]=>c
  | .seq a _,0::p=>sub a p
  | .seq _ b,_::p=>sub b p
  | .cond _ a _,0::p=>sub a p
  | .cond _ _ b,_::p=>sub b p
  | .block _ c,_::p=>sub c p
  | .loop c,_::p=>sub c p
  | c,_=>c
def fI (P:Program) (f:Nat):Code :=
  match P.funcs[f]? with
  | some fn=>fn.body.getD .skip
  | none=>.skip
def dj (S S':St):Prop:=∀ (G:Gh) (E:Env) (a:Act) (w:World),ai G pn E S w→TR E S.t a→∃ E',ai G pn E' S' w∧TR E' S'.t a
def Er:Ex→Nat
  | .nrm=>0
  | .ret=>1
  | .ex i=>i + 2
def Es (C:Ctx) (cd:Df) (A:Ek) (pl:bi) (we:List (Nat×(Wk×Le))) (c:Code) (S:St) (K:Ex→St→Prop):Prop :=
  tJ C cd A pl c S fun e S'=>match o8 we (Er e) with
    | some (W,L)=>Cg L (wk W S') (K e)
    | none=>K e S'
def F4:List (Nat×AV)→Nat→Nat→List AV
  | _,_,0=>[]
  | xs,i,n + 1=>(match o8 xs i with | some a=>a | none=>.bad)::F4 xs (i + 1) n
def hJ (n:Nat) (ts:List (Nat×AV)) (l:List (Nat×List AV)) (o:List Ob) (b:Nat):St:={ t:=F4 ts 0 n,l:=l,o:=o,b:=b }
theorem dj.refl (S:St):dj S S:=fun _ E _ _ h k=>⟨E,h,k⟩
theorem dj.trans {S S' S'':St} (h:dj S S') (k:dj S' S''):dj S S'':=fun G E a w hM ht=>by
  obtain ⟨E1,h1,h2⟩:=h G E a w hM ht
  exact k G E1 a w h1 h2
theorem bB.refl (a:AV):bB a a:=fun _ _ h=>h
theorem bB.trans {a b c:AV} (h:bB a b) (k:bB b c):bB a c:=fun _ _ hv=>k _ _ (h _ _ hv)
theorem bB.bad (a:AV):bB a .bad:=fun _ _ _=>.bad _ _
theorem bB.nil:bB .nilsl (.sl []):=fun E u h=>by cases h; exact .sln E
theorem bB.esl:bB .esl (.sl []):=fun E u h=>by
  cases h with
  | esln=>exact .sln E
  | esl _ a=>exact .sle E a 0
theorem bm.refl (r:List AV):bm r r:=⟨rfl,fun _ _ _ h k=>by rw [h] at k; cases k; exact .refl _⟩
theorem bm.nil:bm [] []:=.refl _
theorem bm.cons {a b:AV} {r r':List AV} (h:bB a b) (k:bm r r'):bm (a::r) (b::r') :=
  ⟨by simp [k.1],fun i x y h1 h2=>by
    cases i with
    | zero=>simp at h1 h2; subst h1 h2; exact h
    | succ i=>exact k.2 i x y (by simpa using h1) (by simpa using h2)⟩
theorem bm.vrs {r r':List AV} {E:Env} {us:List Value} (h:bm r r') (hv:bI E r us):bI E r' us :=
  ⟨by rw [← h.1]; exact hv.1,fun m c u h1 h2=>by
    have hm:m<r.length:=by rw [h.1]; exact (List.getElem?_eq_some_iff.1 h1).1
    exact h.2 m _ c (List.getElem?_eq_getElem hm) h1 _ _ (hv.2 m _ u (List.getElem?_eq_getElem hm) h2)⟩
theorem bB.agg {r r':List AV} (h:bm r r'):bB (.agg r) (.agg r'):=fun E u hv=>by
  obtain ⟨us,rfl,h1⟩:=hv.aggI
  exact bI.aggV (h.vrs h1)
theorem bB.tup {r r':List AV} (h:bm r r'):bB (.tup r) (.tup r'):=fun E u hv=>by
  obtain ⟨us,rfl,h1⟩:=hv.tupI
  have:=h.vrs h1
  exact .tup us (by simpa using this.1) (fun m c u h1 h2=>this.2 m c u h1 (by simpa using h2))
theorem bB.fptr {r r':List AV} {j:Nat} (h:bm r r'):bB (.fptr r j) (.fptr r' j):=fun E u hv=>by
  cases hv with
  | fptr j us h1 h2 h3 h4 =>
    have:=h.vrs (E:=E.fz) (us:=us) ⟨h1.symm,h2⟩
    exact .fptr j us this.1.symm this.2 h3 h4
theorem kG.refl (r:List (List AV)):kG r r:=⟨rfl,fun _ _ _ h k=>by rw [h] at k; cases k; exact .refl _⟩
theorem kG.nil:kG [] []:=.refl _
theorem kG.cons {a b:List AV} {r r':List (List AV)} (h:bm a b) (k:kG r r'):kG (a::r) (b::r') :=
  ⟨by simp [k.1],fun i x y h1 h2=>by
    cases i with
    | zero=>simp at h1 h2; subst h1 h2; exact h
    | succ i=>exact k.2 i x y (by simpa using h1) (by simpa using h2)⟩
theorem kG.app {a b r r':List (List AV)} (h:kG a b) (k:kG r r'):kG (a++r) (b++r'):=by
  induction a generalizing b with
  | nil =>
    have:b=[]:=List.eq_nil_of_length_eq_zero h.1.symm
    subst this
    exact k
  | cons x a ih =>
    cases b with
    | nil=>exact absurd h.1 (by simp)
    | cons y b=>exact .cons (h.2 0 x y rfl rfl) (ih ⟨by simpa using h.1,fun i p q h1 h2=>h.2 (i + 1) p q (by simpa using h1) (by simpa using h2)⟩)
theorem bm.app {a b r r':List AV} (h:bm a b) (k:bm r r'):bm (a++r) (b++r'):=by
  induction a generalizing b with
  | nil =>
    have:b=[]:=List.eq_nil_of_length_eq_zero h.1.symm
    subst this
    exact k
  | cons x a ih =>
    cases b with
    | nil=>exact absurd h.1 (by simp)
    | cons y b=>exact .cons (h.2 0 x y rfl rfl) (ih ⟨by simpa using h.1,fun i p q h1 h2=>h.2 (i + 1) p q (by simpa using h1) (by simpa using h2)⟩)
theorem kG.flat {r r':List (List AV)} (h:kG r r'):bm r.flatten r'.flatten:=by
  induction r generalizing r' with
  | nil =>
    have:r'=[]:=List.eq_nil_of_length_eq_zero h.1.symm
    subst this
    exact .refl _
  | cons x a ih =>
    cases r' with
    | nil=>exact absurd h.1 (by simp)
    | cons y b =>
      have h1:=h.2 0 x y rfl rfl
      have h2:=ih (r':=b) ⟨by simpa using h.1,fun i p q h1 h2=>h.2 (i + 1) p q (by simpa using h1) (by simpa using h2)⟩
      rw [List.flatten_cons,List.flatten_cons]
      have app:∀ {a b r r':List AV},bm a b→bm r r'→bm (a++r) (b++r'):=by
        intro a b r r' h k
        induction a generalizing b with
        | nil =>
          have:b=[]:=List.eq_nil_of_length_eq_zero h.1.symm
          subst this
          exact k
        | cons x a ih =>
          cases b with
          | nil=>exact absurd h.1 (by simp)
          | cons y b=>exact .cons (h.2 0 x y rfl rfl) (ih ⟨by simpa using h.1,fun i p q h1 h2=>h.2 (i + 1) p q (by simpa using h1) (by simpa using h2)⟩)
      exact app h1 h2
theorem kG.lens {r r':List (List AV)} {sz:Nat} (h:kG r r') (hl:∀ x∈r,x.length=sz):∀ x∈r',x.length=sz:=by
  intro x hx
  obtain ⟨i,hi⟩:=List.getElem?_of_mem hx
  have hlt:i<r.length:=by rw [h.1]; exact (List.getElem?_eq_some_iff.1 hi).1
  rw [← (h.2 i _ x (List.getElem?_eq_getElem hlt) hi).1]
  exact hl _ (List.getElem_mem hlt)
theorem bB.sl {r r':List (List AV)} (h:kG r r'):bB (.sl r) (.sl r'):=fun E u hv=>by
  cases hv with
  | sln =>
    have:r'=[]:=List.eq_nil_of_length_eq_zero h.1.symm
    subst this
    exact .sln E
  | sle _ a cap =>
    have:r'=[]:=List.eq_nil_of_length_eq_zero h.1.symm
    subst this
    exact .sle E a cap
  | sl us h1 h2 h3 h4 h5 h6 h7 =>
    have hf:=h.flat
    have:=hf.vrs (E:=E.fz) (us:=us) ⟨h3.symm,h4⟩
    rw [h.1]
    exact .sl us h1 (h.lens h2) this.1.symm this.2 h5 h6 (by rw [← h.1]; exact h7)
theorem Az {ts:List Nat}:∀ {t:List AV} {i j:Nat} {c:AV},(Da ts i t)[j]?=some c→c=.bad∨t[j]?=some c
  | [],_,_,_,h=>by simp [Da] at h
  | x::xs,i,0,c,h=>by
    simp only [Da,List.getElem?_cons_zero,Option.some.injEq] at h
    split at h
    · exact .inr (by rw [← h]; rfl)
    · exact .inl h.symm
  | x::xs,i,j + 1,c,h=>by
    simp only [Da,List.getElem?_cons_succ] at h
    rw [List.getElem?_cons_succ]
    exact Az h
theorem AA {ts:List Nat}:∀ {t:List AV} {i:Nat},(Da ts i t).length=t.length
  | [],_=>rfl
  | x::xs,i=>by simp [Da,AA]
theorem Co (ts:List Nat) (S:St):dj S { t:=Da ts 0 S.t,l:=S.l,o:=S.o,b:=S.b }:=fun _ E _ _ hM ht =>
  ⟨E,hM.congr rfl rfl rfl,by rw [AA]; exact ht.len,fun n c u h1 h2=>by
    rcases Az h1 with h | h
    · rw [h]; exact .bad _ _
    · exact ht.val n c u h h2,ht.df,ht.gt⟩
theorem w7 (d:Nat) (S:St):dj S (dS d S):=fun G E a w hM ht=>by
  obtain ⟨E1,h1,h2,_⟩:=nY hM ht d rfl
  exact ⟨E1,h1,h2⟩
theorem pU:∀ (ds:List Nat) (S:St),dj S (wW ds S)
  | [],S=>.refl S
  | d::ds,S=>(w7 d S).trans (pU ds _)
theorem Bo (i:Nat) (S:St):dj S (cV i S):=fun _ _ _ _ hM ht =>
  let ⟨h1,h2⟩:=q0 hM ht i
  ⟨_,h1,h2⟩
theorem tK:∀ (ds:List Nat) (S:St),dj S (Cf ds S)
  | [],S=>.refl S
  | d::ds,S=>(Bo d S).trans (tK ds _)
theorem mV:∀ {os:List Ob} {i:Nat} {x:Ob},wX os=true→os[i]?=some x→x=.dead
  | [],i,x,_,h=>by simp at h
  | .dead::os,0,x,_,h=>by simp at h; exact h.symm
  | .dead::os,i + 1,x,h,h1=>mV (os:=os) (i:=i) h (by simpa using h1)
  | .arr _ _ _::os,_,_,h,_=>by cases h
  | .mapo _ _::os,_,_,h,_=>by cases h
  | .own _ _ _ _::os,_,_,h,_=>by cases h
theorem Bp (n:Nat) (S:St):dj S (Eh n S):=fun _ E _ _ hM ht=>by
  unfold Eh
  split
  · rename_i h
    rw [Bool.and_eq_true] at h
    have hb:=Nat.le_of_ble_eq_true h.2
    have hbl:=hM.bl
    refine ⟨E,⟨hM.hp,hM.os,hM.tape,hM.output,hM.size,hM.keep,hM.F0,hM.Flt,hM.Fnew,hM.own,hM.inj,hM.loc,fun id=>?_,fun id hid=>?_,?_,hM.szs,hM.pk,fun id=>?_⟩,ht⟩
    · have h0:=hM.obj id
      show eu E (S.o.take n)[id]? _
      rw [List.getElem?_take]
      split
      · exact h0
      · rename_i hn
        cases hx:S.o[id]? with
        | none=>rw [hx] at h0; exact h0
        | some x =>
          have:x=.dead:=mV h.1 (i:=id - n) (by rw [List.getElem?_drop]; rw [show n + (id - n)=id by omega]; exact hx)
          rw [hx,this] at h0
          revert h0
          cases E.mu (.O id) with
          | none=>exact fun _=>trivial
          | some _=>exact fun h=>h.elim
    · show (S.o.take n)[id]?=some .dead∨_
      have hid':id<S.b:=hid
      rw [List.getElem?_take,if_pos (by omega)]
      exact hM.old id hid
    · show S.b≤(S.o.take n).length
      rw [List.length_take]
      omega
    · have h0:=hM.ow id
      show c_ E id (S.o.take n)[id]?
      rw [List.getElem?_take]
      split
      · exact h0
      · rename_i hn
        cases hx:S.o[id]? with
        | none=>rw [hx] at h0; exact h0
        | some x =>
          have:x=.dead:=mV h.1 (i:=id - n) (by rw [List.getElem?_drop]; rw [show n + (id - n)=id by omega]; exact hx)
          rw [hx,this] at h0
          exact h0
  · exact ⟨E,hM,ht⟩
theorem tN {G:Gh} {E:Env} {S:St} {w:World} (hM:ai G pn E S w):E.mu (.O S.o.length)=none:=by
  have:=hM.obj S.o.length
  rw [List.getElem?_eq_none (Nat.le_refl _)] at this
  revert this
  cases E.mu (.O S.o.length) with
  | none=>exact fun _=>rfl
  | some _=>exact fun h=>h.elim
theorem yy {G:Gh} {E:Env} {S:St} {w:World} (hM:ai G pn E S w) (sz:Nat) (t:List AV):ai G pn ⟨E.F,aB E.mu (.O S.o.length) .virt,E.h⟩ { t:=t,l:=S.l,o:=S.o++[.arr true sz []],b:=S.b } w:=by
  have hbl:=hM.bl
  refine hM.addkey' (key:=.O S.o.length) (mv:=.virt) (fun _ _=>rfl) (fun _ h=>by cases h) (tN hM) (fun _ _ _ _ h=>by cases h) (fun _ _=>rfl) (fun id hid=>?_) rfl ?_ (fun id h=>?_) (fun _ h=>by cases h) (fun id h=>?_) ?_
  · show (S.o++[_])[id]?=_
    by_cases h:id<S.o.length
    · rw [List.getElem?_append_left h]
    · have hne:id≠S.o.length:=fun e=>hid (by rw [e])
      rw [List.getElem?_eq_none (by simp; omega),List.getElem?_eq_none (by omega)]
  · show S.b≤(S.o++[_]).length
    simp
    omega
  · cases h
    exact hbl
  · cases h
    show eu _ (S.o++[_])[S.o.length]? _
    rw [List.getElem?_append_right (Nat.le_refl _),Nat.sub_self]
    rfl
  · exact hM.ow_push rfl rfl
theorem o4:∀ (ps:List (Nat×Nat)) (S:St),dj S (yw ps S)
  | [],S=>.refl S
  | (d,sz)::ps,S=>by
    unfold yw
    split
    · rename_i hd
      refine dj.trans ?_ (o4 ps _)
      intro G E a w hM ht
      refine ⟨_,yy hM sz _,?_⟩
      have hle:LE E ⟨E.F,aB E.mu (.O S.o.length) .virt,E.h⟩:=iX (tN hM)
      refine ⟨by simpa using ht.len,fun n c u h1 h2=>?_,ht.df,ht.gt.mono hle⟩
      have h1':(S.t.set d (.mf S.o.length))[n]?=some c:=h1
      rw [List.getElem?_set] at h1'
      split at h1'
      · rename_i e
        subst e
        split at h1'
        · cases h1'
          have hv:=ht.val d _ u hd h2
          cases hv
          exact .mfn (by show aB _ _ _ _=_; unfold aB; rw [if_pos rfl])
        · cases h1'
      · exact (ht.val n c u h1' h2).mono hle
    · exact o4 ps S
theorem lG:∀ (ps:List (Nat×Nat×Nat)) (S:St),dj S (vX ps S)
  | [],S=>.refl S
  | (d,j,sz)::ps,S=>by
    unfold vX
    split
    · rename_i row hd
      split
      · rename_i hj
        refine dj.trans ?_ (lG ps _)
        intro G E a w hM ht
        have hle:LE E ⟨E.F,aB E.mu (.O S.o.length) .virt,E.h⟩:=iX (tN hM)
        refine ⟨_,?_,ht.mono hle⟩
        have h0:=yy hM sz S.t
        refine ⟨h0.hp,h0.os,h0.tape,h0.output,h0.size,h0.keep,h0.F0,h0.Flt,h0.Fnew,h0.own,h0.inj,fun e=>?_,h0.obj,h0.old,h0.bl,h0.szs,(fun _ _ h=>by cases h),h0.ow⟩
        have h1:=h0.loc e
        show fR pn _ (aF (pf S.l d (row.set j (.mf S.o.length))) e) e
        rw [iG hd]
        split
        · rename_i e'
          subst e'
          have h1':fR pn ⟨E.F,aB E.mu (.O S.o.length) .virt,E.h⟩ (aF S.l d) d:=h1
          rw [hd] at h1'
          rcases h1' with ⟨b,h2,h3,h4,us,ty,h5,h6,h7⟩ | ⟨_,h2,_⟩
          · refine .inl ⟨b,by simpa using h2,by simpa using h3,by simp,us,ty,h5,by simpa using h6,fun m c hc=>?_⟩
            have hf:[row.set j (.mf S.o.length)].flatten=row.set j (.mf S.o.length):=by simp
            have hf0:[row].flatten=row:=by simp
            rw [hf,List.getElem?_set] at hc
            split at hc
            · rename_i e'
              subst e'
              split at hc
              · cases hc
                obtain ⟨u,hu,hv⟩:=h7 j .nilsl (by rw [hf0]; exact hj)
                refine ⟨u,hu,?_⟩
                cases hv
                exact .mfn (by show aB _ _ _ _=_; unfold aB; rw [if_pos rfl])
              · cases hc
            · exact h7 m c (by rw [hf0]; exact hc)
          · cases h2
        · exact h1
      · exact lG ps S
    · exact lG ps S
theorem AB {G:Gh} {E:Env} {S:St} {w:World} {a:Act} (hM:ai G pn E S w) (ht:TR E S.t a) (ids:List Nat):LE (E.fd ids) ⟨FD E ids,iJ ids E.mu,E.h⟩∧ai G pn ⟨FD E ids,iJ ids E.mu,E.h⟩ (dT ids S) w∧TR ⟨FD E ids,iJ ids E.mu,E.h⟩ (dT ids S).t a:=by
  obtain ⟨hS1,ht1⟩:=ky (ids:=ids) hM ht
  obtain ⟨hle2,hS2⟩:=hS1.freeze (F':=FD E ids) (fun b h=>.inl h) (fun b h=>by
    rcases h with h | ⟨id,hid,o',s,n,hm⟩
    · exact .inl h
    · obtain ⟨h1,h2,h3⟩:=hM.own _ _ _ _ _ hm
      refine .inr ⟨h2,h3,fun k o'' s' n' h'=>?_⟩
      obtain ⟨h4,h5⟩:=gA h'
      exact h5 id hid (hM.inj _ _ _ _ _ _ _ _ _ h4 hm))
  exact ⟨⟨fun _ h=>h,fun _ _ _ h=>(by cases h),fun _ _=>rfl,fun _ _ _ _ _ _ h=>(by cases h)⟩,hS2,ht1.mono hle2⟩
theorem Bq {S:St} {d j:Nat} {row:List AV} {x y:AV} (hr:aF S.l d=some row) (hj:row[j]?=some x) (hy:yV S.o 6 x=some y):dj S (Ei (cN S.o 6 x) d j y S):=by
  intro G E a w hM ht
  obtain ⟨hle,hS2,ht2⟩:=AB hM ht (cN S.o 6 x)
  unfold Ei
  split
  · rename_i row' hr'
    refine ⟨_,⟨hS2.hp,hS2.os,hS2.tape,hS2.output,hS2.size,hS2.keep,hS2.F0,hS2.Flt,hS2.Fnew,hS2.own,hS2.inj,fun e=>?_,hS2.obj,hS2.old,hS2.bl,hS2.szs,(fun _ _ h=>by cases h),hS2.ow⟩,ht2⟩
    show fR pn _ (aF (pf (dT (cN S.o 6 x) S).l d (row'.set j y)) e) e
    rw [iG hr']
    split
    · rename_i e'
      subst e'
      have l1:=hM.loc d
      have l2:=hS2.loc d
      rw [hr] at l1
      rw [hr'] at l2
      rcases l1 with ⟨b,h2,h3,h4,us,ty,h5,h6,h7⟩ | ⟨_,h2,_⟩
      · rcases l2 with ⟨b',k2,k3,k4,us',ty',k5,k6,k7⟩ | ⟨_,k2,_⟩
        · have k2':=(gA k2).1
          rw [h2] at k2'
          injection k2' with k2'
          injection k2' with e1 _ _ _
          subst e1
          have k5':E.h[b]?=_:=k5
          rw [h5] at k5'
          cases k5'
          refine .inl ⟨b,by simpa using k2,by simpa using k3,by simp,us,ty,k5,by simpa using k6,fun m c hc=>?_⟩
          have hf:[row'.set j y].flatten=row'.set j y:=by simp
          have hf0:[row'].flatten=row':=by simp
          rw [hf,List.getElem?_set] at hc
          split at hc
          · rename_i e'
            subst e'
            split at hc
            · cases hc
              have hf1:[row].flatten=row:=by simp
              obtain ⟨u,hu,hv⟩:=h7 j x (by rw [hf1]; exact hj)
              exact ⟨u,hu,(fq hM 6 hy hv (ids:=cN S.o 6 x) (fun _ h=>h)).mono hle⟩
            · cases hc
          · exact k7 m c (by rw [hf0]; exact hc)
        · cases k2
      · cases h2
    · exact hS2.loc e
  · exact ⟨_,hS2,ht2⟩
theorem gC:∀ (ds:List Nat) (S:St),dj S (uR ds S)
  | [],S=>.refl S
  | d::ds,S=>by
    unfold uR
    split
    · split
      · rename_i row hr
        split
        · rename_i x hx
          split
          · rename_i y hy
            exact (Bq hr hx hy).trans (gC ds _)
          · exact gC ds S
        · exact gC ds S
      · exact gC ds S
    · split
      · rename_i x hx
        split
        · rename_i y hy
          refine dj.trans ?_ (gC ds _)
          intro G E a w hM ht
          obtain ⟨hle,hS2,ht2⟩:=AB hM ht (cN S.o 6 x)
          refine ⟨_,hS2.congr rfl rfl rfl,by simpa using ht2.len,fun n c u h1 h2=>?_,ht2.df,ht2.gt⟩
          have h1':((dT (cN S.o 6 x) S).t.set d y)[n]?=some c:=h1
          rw [List.getElem?_set] at h1'
          split at h1'
          · rename_i e
            subst e
            split at h1'
            · cases h1'
              exact (fq hM 6 hy (ht.val d _ u hx h2) (ids:=cN S.o 6 x) (fun _ h=>h)).mono hle
            · cases h1'
          · exact ht2.val n c u h1' h2
        · exact gC ds S
      · exact gC ds S
theorem Cp (W:Wk) (S:St):dj S (FC W S):=by
  unfold FC
  exact (Co W.ts S).trans ((pU W.ls _).trans ((tK _ _).trans ((Bp _ _).trans ((o4 _ _).trans (lG _ _)))))
theorem nj (W:Wk) (S:St):dj S (wk W S):=(gC W.fz S).trans (Cp W _)
theorem yz:∀ {xs:List (Nat×AV)} {S:St} {K:St→Prop},Ej xs S K→∃ S',dj S S'∧K S'
  | [],S,K,h=>⟨S,.refl S,h⟩
  | (d,v)::xs,S,K,h=>by
    obtain ⟨a,ha,hl,h⟩:=bK.1 h
    rw [du] at h
    obtain ⟨S',h1,h2⟩:=yz h
    refine ⟨S',dj.trans ?_ h1,h2⟩
    intro G E act w hM ht
    refine ⟨E,hM.congr rfl rfl rfl,by simpa using ht.len,fun n c u h1 h2=>?_,ht.df,ht.gt⟩
    have h1':(S.t.set d v)[n]?=some c:=h1
    rw [List.getElem?_set] at h1'
    split at h1'
    · rename_i e
      subst e
      split at h1'
      · cases h1'
        exact hl _ _ (ht.val d _ u ha h2)
      · cases h1'
    · exact ht.val n c u h1' h2
theorem yA:∀ {xs:List (Nat×List AV)} {S:St} {K:St→Prop},Db xs S K→∃ S',dj S S'∧K S'
  | [],S,K,h=>⟨S,.refl S,h⟩
  | (d,r)::xs,S,K,h=>by
    unfold Db at h
    split at h
    · rename_i row hd
      obtain ⟨hl,h⟩:=h
      rw [gQ] at h
      obtain ⟨S',h1,h2⟩:=yA h
      refine ⟨S',dj.trans ?_ h1,h2⟩
      intro G E act w hM ht
      refine ⟨E,?_,ht⟩
      refine ⟨hM.hp,hM.os,hM.tape,hM.output,hM.size,hM.keep,hM.F0,hM.Flt,hM.Fnew,hM.own,hM.inj,fun e=>?_,hM.obj,hM.old,hM.bl,hM.szs,(fun _ _ h=>by cases h),hM.ow⟩
      have h1:=hM.loc e
      show fR pn _ (aF (pf S.l d r) e) e
      rw [iG hd]
      split
      · rename_i e'
        subst e'
        rw [hd] at h1
        rcases h1 with ⟨b,h2,h3,h4,us,ty,h5,h6,h7⟩ | ⟨_,h2,_⟩
        · refine .inl ⟨b,by rw [← hl.1]; exact h2,by rw [← hl.1]; exact h3,by simp,us,ty,h5,by rw [← hl.1]; exact h6,fun m c hc=>?_⟩
          have hf:[r].flatten=r:=by simp
          have hf0:[row].flatten=row:=by simp
          rw [hf] at hc
          have hm:m<row.length:=by rw [hl.1]; exact (List.getElem?_eq_some_iff.1 hc).1
          obtain ⟨u,hu,hv⟩:=h7 m _ (by rw [hf0]; exact List.getElem?_eq_getElem hm)
          exact ⟨u,hu,hl.2 m _ c (List.getElem?_eq_getElem hm) hc _ _ hv⟩
        · cases h2
      · exact h1
    · exact False.elim h
theorem yB:∀ {xs:List (Nat×List (List AV))} {S:St} {K:St→Prop},Dc xs S K→∃ S',dj S S'∧K S'
  | [],S,K,h=>⟨S,.refl S,h⟩
  | (i,R)::xs,S,K,h=>by
    unfold Dc at h
    split at h
    · rename_i fl sz rows hi
      obtain ⟨hl,h⟩:=h
      rw [az] at h
      obtain ⟨S',h1,h2⟩:=yB h
      refine ⟨S',dj.trans ?_ h1,h2⟩
      intro G E act w hM ht
      refine ⟨E,?_,ht⟩
      refine ⟨hM.hp,hM.os,hM.tape,hM.output,hM.size,hM.keep,hM.F0,hM.Flt,hM.Fnew,hM.own,hM.inj,hM.loc,fun id=>?_,fun id hid=>?_,by show S.b≤(S.o.set _ _).length; rw [List.length_set]; exact hM.bl,hM.szs,hM.pk,fun id=>?_⟩
      · have h1:=hM.obj id
        show eu E (S.o.set i _)[id]? _
        rw [List.getElem?_set]
        split
        · rename_i e
          subst e
          rw [if_pos (List.getElem?_eq_some_iff.1 hi).1]
          rw [hi] at h1
          revert h1
          cases E.mu (.O i) with
          | none=>exact fun h=>h
          | some mv =>
            cases mv with
            | virt =>
              intro h
              have h:rows=[]:=h
              subst h
              exact List.eq_nil_of_length_eq_zero hl.1.symm
            | blk b o s n =>
              rintro ⟨⟨h1,h2⟩,h3,h4,us,ty,h5,h6,h7⟩
              refine ⟨⟨h1,by rw [← hl.1]; exact h2⟩,h3,hl.lens h4,us,ty,h5,by rw [← hl.1]; exact h6,fun m c hc=>?_⟩
              have hf:=hl.flat
              have hm:m<rows.flatten.length:=by rw [hf.1]; exact (List.getElem?_eq_some_iff.1 hc).1
              obtain ⟨u,hu,hv⟩:=h7 m _ (List.getElem?_eq_getElem hm)
              exact ⟨u,hu,hf.2 m _ c (List.getElem?_eq_getElem hm) hc _ _ hv⟩
        · exact h1
      · have h1:=hM.old id hid
        show (S.o.set i _)[id]?=some .dead∨_
        rw [List.getElem?_set]
        split
        · rename_i e
          subst e
          rcases h1 with h1 | h1
          · rw [hi] at h1; cases h1
          · exact .inr h1
        · exact h1
      · have h1:=hM.ow id
        show c_ E id (S.o.set i _)[id]?
        rw [List.getElem?_set]
        split
        · rename_i e
          subst e
          rw [if_pos (List.getElem?_eq_some_iff.1 hi).1]
          rw [hi] at h1
          exact h1
        · exact h1
    · exact False.elim h
theorem kn {L:Le} {S:St} {K:St→Prop} (h:Cg L S K):∃ S',dj S S'∧K S':=by
  obtain ⟨S1,h1,h⟩:=yz h
  obtain ⟨S2,h2,h⟩:=yA h
  obtain ⟨S3,h3,h⟩:=yB h
  exact ⟨S3,h1.trans (h2.trans h3),h⟩
structure tO (C:Ctx):Prop where
  det:fu C
theorem ay.mono2 {α β:Type} {X:(α→β→Prop)→Prop} (h:aw X) {K K':α→β→Prop} (hx:X K) (hk:∀ r s,K r s→K' r s):X K':=by
  obtain ⟨r,s,h1,h2⟩:=h _ hx
  exact h2 _ (hk r s h1)
theorem ay.mono {α:Type} {X:(α→Prop)→Prop} (h:ay X) {K K':α→Prop} (hx:X K) (hk:∀ r,K r→K' r):X K':=by
  obtain ⟨r,h1,h2⟩:=h K hx
  exact h2 _ (hk r h1)
theorem aw.mono {α β:Type} {X:(α→β→Prop)→Prop} (h:aw X) {K K':α→β→Prop} (hx:X K) (hk:∀ a b,K a b→K' a b):X K':=by
  obtain ⟨a,b,h1,h2⟩:=h K hx
  exact h2 _ (hk a b h1)
theorem Br {op:BinOp} {x y:Value} {K:Value→Prop} (h:Ch op x y K):r6 op x y K:=by
  unfold Ch at h
  unfold r6
  split at h <;> first
    | exact au h.1 h.2
    | exact False.elim h
section
variable {C:Ctx} {A:dh} {pl:bi} {o:Oper}
theorem Bs {op:BinOp} {t:TypeId} {x y:AV} {k:AV→Prop} (h:Ci C A o op t x y k):yY C.P op t x y k:=by
  unfold Ci at h
  split at h
  · rename_i a b
    show vb C.P op t a b k
    unfold vb
    split at h
    · rename_i hn
      rw [hn]
      dsimp only
      split at h
      · exact h
      · rename_i a b hne
        split
        · exact (hne _ _ rfl rfl).elim
        · exact Br h
    · rename_i c hc
      rw [hc]
      exact h
  · rename_i as bs
    show (match rv as,rv bs with
    | some xs,some ys =>
      match qO C.P op t xs ys with
      | some (.bool b)=>k (.v (.bool b))
      | _=>af 226
    | _,_=>af 227)
    split at h
    · rename_i xs ys h1 h2
      try rw [h1,h2]
      try dsimp only
      split at h
      · rw [h.1]
        exact h.2
      · exact False.elim h
    · exact False.elim h
  · exact False.elim h
theorem yC {t:TypeId} {x ix:AV} {k:AV→Prop} (h:wY C A o t x ix k):nQ C.P t x ix k:=by
  unfold wY at h
  unfold nQ
  refine ay.mono aO h (fun i h'=>?_)
  clear h
  split at h'
  · rename_i s hu
    rw [hu]
    dsimp only
    split at h'
    · rw [h'.1]
      dsimp only
      have h2:=h'.2.2
      rw [h'.2.1] at h2
      exact h2
    · exact False.elim h'
  · rename_i len e cs hu
    rw [hu]
    dsimp only
    have h:=h'
    split at h
    · rename_i inf hi
      rw [hi]
      exact au h.1 h.2
    · exact False.elim h
  · exact False.elim h'
theorem Cq {vs:List AV} {k:AV→Prop} (h:El C A pl o vs k):pop C pl o vs k:=by
  unfold El at h
  split at h
  · exact h
  · split at h
    · rename_i ho
      unfold pop
      rw [ho]
      exact Bs h
    · rename_i ho
      unfold pop
      rw [ho]
      exact yC h
    · exact False.elim h
theorem nk {len cap:Nat} {lo hi mx:Option Int} {k:Nat→Nat→Nat→Prop} (h:vY len cap lo hi mx k):qe len cap lo hi mx k:=by
  unfold vY at h
  unfold qe
  split at h <;> first
    | exact h
    | exact au h.1 h.2
    | exact False.elim h
theorem gD {t:TypeId} {x:AV} {lo hi mx:Option Int} {S:St} {k:AV→Prop} (h:ki C t x lo hi mx S k):iz C.P t x lo hi mx S k:=by
  unfold ki at h
  rw [Bool.and_comm (ig mx) (ig hi)] at h
  unfold iz
  split at h
  · rename_i hu
    rw [hu]
    dsimp only
    split at h
    · exact nk h
    · exact False.elim h
  · rename_i e hu
    rw [hu]
    dsimp only
    split at h
    · rename_i i hi
      rw [hi]
      dsimp only
      obtain ⟨h0,h⟩:=ac h
      refine au h0 ?_
      split at h
      · exact au h.1 (nk h.2)
      · split at h
        · rename_i ho
          dsimp only
          rw [ho]
          obtain ⟨h1,h⟩:=ac h
          exact au h1 (nk h)
        · exact False.elim h
      · split at h
        · rename_i ho
          dsimp only
          rw [ho]
          obtain ⟨h1,h⟩:=ac h
          exact au h1 (nk h)
        · exact False.elim h
      · exact False.elim h
    · exact False.elim h
  · exact False.elim h
theorem rH {row:List AV} {t:TypeId} {x ix:AV} {S:St} {k:AV→Prop} (h:mU C row t x ix S k):gf C.P t x ix S k:=by
  unfold mU at h
  unfold gf
  refine ay.mono aO h (fun i h=>?_)
  split at h
  · rename_i e hu
    rw [hu]
    dsimp only
    split at h
    · rename_i inf hi
      rw [hi]
      dsimp only
      split at h
      · have h1:=h.1
        unfold DC at h1
        dsimp only
        rw [h1]
        exact h.2
      · split at h
        · rename_i ho
          dsimp only
          rw [ho]
          dsimp only
          have h1:=h.1
          unfold DC at h1
          rw [h1]
          exact h.2
        · rename_i ho
          dsimp only
          rw [ho]
          obtain ⟨h1,h2,h3⟩:=ac h
          refine au ?_ h3
          rw [Bool.and_eq_true]
          exact ⟨h2,h1⟩
        · exact False.elim h
      · split at h
        · rename_i ho
          dsimp only
          rw [ho]
          dsimp only
          refine au h.1 ?_
          rw [h.2.1]
          exact h.2.2
        · exact False.elim h
      · exact False.elim h
    · exact False.elim h
  · rename_i len e hu
    rw [hu]
    dsimp only
    split at h
    · rename_i inf hi
      rw [hi]
      exact au h.1 h.2
    · exact False.elim h
  · exact False.elim h
theorem rh (hC:tO C) {fid:Nat} {as:List AV} {k:AV→Prop} (h:rQ C A o fid as k):C.pcall fid as k:=by
  unfold rQ at h
  split at h
  · exact ay.mono (hC.det.pcall _ _) h.1 (fun _ e=>by rw [e]; exact h.2)
  · exact h
theorem zS {P:Program} {op:BinOp} {t:TypeId} {x y:AV} {S:St} {k:AV→Prop} (h:zO P op t x y S k):sk P op t x y S k:=by
  unfold zO at h
  split at h
  · rename_i id
    split at h
    · rename_i rows hob
      obtain ⟨h1,h⟩:=h
      have:sc S (.mf id)=true:=by
        unfold sc
        dsimp only
        rw [hob]
        cases rows with
        | nil=>cases h1
        | cons _ _=>rfl
      unfold sk
      rw [this]
      exact h
    · exact False.elim h
  · exact False.elim h
theorem lH {size:Nat} {S:St} {x:AV} {k:Bool→List (List AV)→Prop} (h:qE size S x k):iT size S x k:=by
  unfold qE at h
  unfold iT
  split at h <;> first
    | exact au h.1 h.2
    | exact h
    | exact False.elim h
theorem yD {src dst:TypeId} {x:AV} {S:St} {s:ByteArray} {k:AV→Prop} (h:wZ C.P src dst x S s k):eB C.P src dst x S k:=by
  unfold wZ at h
  unfold eB
  split at h
  · rename_i hu hd
    rw [hu,hd]
    dsimp only
    split at h
    · rename_i he
      rw [he]
      dsimp only
      obtain ⟨h1,h⟩:=ac h
      refine au h1 (aw.mono cY (lH h) (fun fl rows h=>?_))
      rw [h.1]
      show k (.v (.string ⟨s.data.toList.toArray⟩))
      have:(⟨s.data.toList.toArray⟩:ByteArray)=s:=by cases s; simp
      rw [this]
      exact h.2
    · exact False.elim h
  · exact False.elim h
theorem Cr (hC:tO C) {vs:List AV} {M:St} {k:AV→Prop} (h:Em C A o vs M k):nn C o vs M k:=by
  unfold Em at h
  split at h
  · rename_i ho
    split at h
    · split at h
      · split at h
        · rename_i hob
          unfold nn
          rw [ho]
          dsimp only
          unfold BF
          dsimp only
          unfold uv
          dsimp only
          rw [hob]
          dsimp only
          rw [h.1]
          exact h.2
        · exact False.elim h
      · exact False.elim h
    · exact h
  · rename_i ho
    split at h
    · exact h
    · unfold nn
      rw [ho]
      split at h
      · exact gD h
      · exact ay.mono aO h (fun _ h=>gD h)
      · exact ay.mono aO h (fun _ h=>gD h)
      · exact ay.mono aO h (fun _ h=>ay.mono aO h (fun _ h=>gD h))
      · exact ay.mono aO h (fun _ h=>ay.mono aO h (fun _ h=>gD h))
      · exact ay.mono aO h (fun _ h=>ay.mono aO h (fun _ h=>ay.mono aO h (fun _ h=>gD h)))
      · exact False.elim h
  · rename_i ho
    split at h
    · unfold nn
      rw [ho]
      exact rH h
    · exact h
  · rename_i ho
    split at h
    · split at h
      · rename_i hu
        split at h
        · rename_i hob
          unfold nn
          rw [ho]
          dsimp only
          unfold m6
          rw [hu]
          dsimp only
          rw [hob]
          exact h.1 _ h.2
        · exact False.elim h
      · exact False.elim h
    · exact h
  · rename_i ho
    split at h
    · exact h
    · unfold nn
      rw [ho]
      exact zS h
  · rename_i ho
    split at h
    · unfold nn
      rw [ho]
      exact yD h
    · exact h
  · rename_i c ho
    split at h
    · rename_i hcal
      split at h
      · unfold nn
        rw [ho]
        dsimp only
        rw [hcal]
        dsimp only
        obtain ⟨h1,h⟩:=ac h
        exact au h1 (ay.mono (cZ _ _) h (fun bs hb=>rh hC hb))
      · exact False.elim h
    · exact h
  · exact h
theorem yE {S:St} {row:List AV} {a:AV} {cs:List AV} {K:St→Prop} (h:w5 S row a cs K):ku S a cs K:=by
  unfold w5 at h
  split at h
  · unfold ku
    split at h
    · rename_i ho
      dsimp only
      rw [ho]
      dsimp only
      rw [h.1]
      exact h.2
    · exact False.elim h
  · exact False.elim h
theorem yF {vs:List AV} {M:St} {k:AV→St→Prop} (h:Dd C A o vs M k):ve C o vs M k:=by
  unfold Dd at h
  split at h
  · exact h
  · split at h
    · rename_i ho
      split at h
      · unfold ve
        rw [ho]
        refine ay.mono bG h (fun cs h=>?_)
        split at h
        · rename_i hi
          rw [hi]
          obtain ⟨h1,h⟩:=ac h
          exact au h1 (yE h)
        · exact False.elim h
      · exact h
    · exact h
theorem w8 {ts:List TypeId} {base x:AV} {S:St} {k:St→AV→Prop} (h:tA C.P ts base x S k):j5 C.P ts base x S k:=by
  unfold tA at h
  unfold j5
  split at h
  · split at h
    · rename_i e hu
      dsimp only
      rw [hu]
      dsimp only
      split at h
      · rename_i i hi
        rw [hi]
        dsimp only
        obtain ⟨h1,h⟩:=ac h
        refine au h1 ?_
        refine aw.mono cY (lH h) (fun fl src h=>?_)
        refine au h.1 ?_
        replace h:=h.2
        split at h
        · exact au h.1 h.2
        · exact au h.1 h.2
        · split at h
          · rename_i ho
            dsimp only
            rw [ho]
            obtain ⟨h1,h⟩:=ac h
            refine au ?_ h.2
            simp only [Bool.and_eq_true] at h1 ⊢
            exact ⟨⟨h1.1,h.1⟩,h1.2⟩
          · exact False.elim h
        · split at h
          · rename_i ho
            dsimp only
            rw [ho]
            obtain ⟨h1,h2,h3,h⟩:=ac h
            refine au h1 ?_
            rw [h2]
            exact au h3 h
          · exact False.elim h
        · exact False.elim h
      · exact False.elim h
    · exact False.elim h
  · exact False.elim h
theorem uT {ts:List TypeId} {base x:AV} {k:AV→Prop} (h:qF C.P ts base x k):jI C.P ts base x k:=by
  unfold qF at h
  unfold jI
  split at h
  · split at h
    · rename_i e hu
      dsimp only
      rw [hu]
      dsimp only
      split at h
      · rename_i i hi
        rw [hi]
        dsimp only
        obtain ⟨h1,h⟩:=ac h
        refine au h1 ?_
        refine aw.mono cY (lH h) (fun fl src h=>?_)
        obtain ⟨h2,h3,h4,h⟩:=ac h
        refine au ?_ h
        rw [h2,h3,h4]
        rfl
      · exact False.elim h
    · exact False.elim h
  · exact False.elim h
theorem Cs {vs:List AV} {k:AV→Prop} (h:En C o vs k):D4 C o vs k:=by
  unfold En at h
  unfold D4
  split at h
  · rename_i c x y ho
    rw [ho]
    dsimp only
    split at h
    · rename_i hc
      rw [hc]
      exact uT h
    · exact False.elim h
  · exact False.elim h
theorem uU {ts:List TypeId} {base:AV} {n:Int} {S:St} {k:St→AV→Prop} (h:qG C.P ts base n S k):jJ C.P ts base n S k:=by
  unfold qG at h
  unfold jJ
  split at h
  · split at h
    · rename_i hu hv
      dsimp only
      rw [hu,hv]
      dsimp only
      split at h
      · rename_i hi
        rw [hi]
        exact au h.1 h.2
      · exact False.elim h
    · exact False.elim h
  · exact False.elim h
theorem lV {t:TypeId} {l c:AV} {S:St} {k:St→AV→Prop} (h:kj C.P t l c S k):bE C.P t l c S k:=by
  unfold kj at h
  unfold bE
  split at h
  · rename_i hu
    rw [hu]
    dsimp only
    split at h
    · rename_i hi
      rw [hi]
      dsimp only
      exact ay.mono aO h (fun _ h=>ay.mono aO h (fun _ h=>au h.1 h.2))
    · exact False.elim h
  · exact False.elim h
theorem zT (hC:tO C) {f:AV} {args:List AV} {S:St} {k:St→AV→Prop} (h:zQ C A o f args S k):vd C f args S k:=by
  unfold zQ at h
  unfold vd
  split at h
  · dsimp only
    split at h
    · rename_i hp
      rw [hp]
      exact ay.mono (cZ _ _) h (fun bs hb=>rh hC hb)
    · rename_i hp
      rw [hp]
      obtain ⟨h1,h⟩:=ac h
      refine au h1 ?_
      split at h
      · exact aw.mono (hC.det.scall _ _ _) h.1 (fun r o' ⟨e1,e2⟩=>by subst e1 e2; exact h.2)
      · exact h
  · exact False.elim h
theorem lW {R:List (AV×AV)} {t:TypeId} {m key x:AV} {S:St} {K:St→Prop} (h:km C.P R t m key x S K):dV C.P t m key x S K:=by
  unfold km at h
  unfold dV
  split at h
  · rename_i hu
    rw [hu]
    dsimp only
    split at h
    · split at h
      · rename_i fl es ho
        dsimp only
        rw [ho]
        dsimp only
        obtain ⟨h1,h2,h3⟩:=ac h
        refine au h1 ?_
        have:=h2 (fun es'=>aQ (S.o.set _ (.mapo (fl&&cM 4 x) es')) fun o=>K { t:=S.t,l:=S.l,o:=o,b:=S.b }) h3
        exact this
      · exact False.elim h
    · exact False.elim h
  · exact False.elim h
theorem zU {ts:List TypeId} {x y:AV} {M:St} {k:AV→St→Prop} (h:zP C.P ts x y M k):qP C.P ts x y M k:=by
  unfold zP at h
  unfold qP
  split at h
  · split at h
    · rename_i e hu
      dsimp only
      rw [hu]
      dsimp only
      split at h
      · rename_i i hi
        rw [hi]
        dsimp only
        obtain ⟨h1,h⟩:=ac h
        refine au h1 ?_
        refine aw.mono cY (lH h) (fun fl src h=>?_)
        obtain ⟨h2,h⟩:=h
        obtain ⟨h3,h⟩:=ac h
        refine au (by rw [h2,h3]; rfl) ?_
        split at h
        · split at h
          · rename_i ho
            dsimp only
            rw [ho]
            exact h
          · exact False.elim h
        · split at h
          · rename_i ho
            dsimp only
            rw [ho]
            obtain ⟨h1,h2,h⟩:=ac h
            exact au (by rw [h1,h2]; rfl) h
          · exact False.elim h
        · exact False.elim h
      · exact False.elim h
    · exact False.elim h
  · exact False.elim h
theorem yG (hC:tO C) {S:St} {K:St→Prop} (h:De C A pl o S K):uw C pl o S K:=by
  unfold De at h
  split at h
  · rename_i ho
    split at h
    · unfold uw
      rw [ho]
      refine ay.mono bL h (fun m h=>?_)
      refine ay.mono bL h (fun k h=>?_)
      refine ay.mono bL h (fun x h=>?_)
      exact lW h
    · exact h
  · rename_i ho
    split at h
    · unfold uw
      rw [ho]
      refine ay.mono bL h (fun m h=>?_)
      refine ay.mono bL h (fun k h=>?_)
      refine ay.mono bL h (fun x h=>?_)
      exact lW h
    · exact h
  · rename_i ho
    split at h
    · unfold uw
      rw [ho]
      refine ay.mono bL h (fun l h=>?_)
      refine ay.mono bL h (fun c h=>?_)
      exact lV h
    · exact h
  · rename_i c ho
    split at h
    · rename_i hcal
      split at h
      · unfold uw
        rw [ho]
        dsimp only
        rw [hcal]
        dsimp only
        refine ay.mono aN h (fun as h=>?_)
        split at h
        · exact uU h
        · rename_i x y hne
          split
          · rename_i e
            cases e
            exact (hne _ _ rfl).elim
          · rename_i e
            cases e
            exact w8 h
          · rename_i h3
            exact (h3 _ _ rfl).elim
        · exact False.elim h
      · exact h
    · rename_i hcal
      unfold uw
      rw [ho]
      dsimp only
      rw [hcal]
      dsimp only
      refine ay.mono aN h (fun as h=>?_)
      split at h
      · exact zU h
      · exact False.elim h
    · rename_i f hcal
      unfold uw
      rw [ho]
      dsimp only
      rw [hcal]
      dsimp only
      refine ay.mono bL h (fun l h=>?_)
      refine ay.mono aN h (fun c h=>?_)
      exact zT hC h
    · exact h
  · exact h
theorem j1 {K:St→Prop} {S:St} (h:l8 A o K S):K S:=by
  have h2:∀ {key:Nat} {S:St} {K:St→Prop},Cj A key S K→K S:=by
    intro key S K h
    unfold Cj at h
    split at h
    · exact h
    · split at h
      · rename_i ho
        obtain ⟨h1,h⟩:=h
        subst h1
        rw [az] at h
        have e:∀ {α:Type} {l:List α} {i:Nat} {x:α},l[i]?=some x→l.set i x=l:=by
          intro α l i x hx
          refine List.ext_getElem? (fun m=>?_)
          rw [List.getElem?_set]
          split
          · rename_i e
            subst e
            rw [if_pos (List.getElem?_eq_some_iff.1 hx).1,hx]
          · rfl
        rw [e ho] at h
        exact h
      · exact False.elim h
  unfold l8 at h
  unfold DD at h
  split at h
  · exact h2 h
  · split at h
    · exact h2 h
    · rename_i v hv
      obtain ⟨a,ha,e,h⟩:=bK.1 h
      subst e
      rw [du,mQ ha] at h
      exact h2 h
theorem v1 {S:St} {K:St→Prop} (h:Ck C A pl o S K):AQ C pl o S K:=ay.mono aN h (fun _ h=>Cq h)
theorem v2 (hC:tO C) {S:St} {K:St→Prop} (h:Cl C A o S K):AR C o S K:=ay.mono aN h (fun _ h=>Cr hC h)
theorem Bt {S:St} {K:St→Prop} (h:DF C A o S K):AS C o S K:=ay.mono aN h (fun _ h=>yF h)
theorem nI {row:Option (List (List AV))} {M:St} {id i:Nat} {k:AV→St→Prop} (h:nh row M id i k):ew M id i k:=by
  unfold nh at h
  unfold ew
  split at h
  · rename_i hob
    rw [hob]
    dsimp only
    split at h
    · obtain ⟨h1,h⟩:=h
      rw [h1]
      exact h
    · obtain ⟨h1,h⟩:=h
      rw [h1]
      exact h
  · exact h.elim
theorem uV {P:Program} {a:uS} {t:TypeId} {same:Bool} {M:St} {id i:Nat} {k:AV→St→Prop} (h:qH P a t same M id i k):gO P t same M id i k:=by
  unfold qH at h
  unfold gO
  split at h
  · split at h
    · rename_i hob
      rw [hob]
      exact au h.1 h.2
    · exact h.elim
  · exact nI h
theorem tU {P:Program} {t:TypeId} {M:St} {id i:Nat} {v:AV} {K:St→Prop} (h:o3 P t M id i v K):fj P t M id i v K:=by
  unfold o3 at h
  unfold fj
  split at h
  · rename_i hi hob
    rw [hi,hob]
    obtain ⟨h1,h2,h3⟩:=ac h
    refine au ?_ h3
    simp only [Bool.and_eq_true] at h1 h2 ⊢
    exact ⟨⟨⟨h1.1,h2.1⟩,h1.2⟩,h2.2⟩
  · exact h.elim
theorem uW {P:Program} {j:Nat} {a:uS} {t:TypeId} {l c:AV} {M:St} {k:AV→St→Prop} (h:qI P j a t l c M k):fP P j t l c M k:=by
  unfold qI at h
  unfold fP
  split at h
  · rename_i hu
    rw [hu]
    dsimp only
    split at h
    · rename_i hi he
      rw [hi,he]
      dsimp only
      split at h
      · rename_i hi2
        rw [hi2]
        dsimp only
        refine ln h (fun n h=>?_)
        refine ln h (fun m h=>?_)
        obtain ⟨h1,h⟩:=h
        obtain ⟨h2,h⟩:=ac h
        refine au ?_ ?_
        · simp only [Bool.and_eq_true] at h1 h2 ⊢
          exact ⟨⟨h1,h2.1⟩,h2.2⟩
        · refine pF h (fun z h=>?_)
          split at h
          · obtain ⟨h3,h⟩:=h
            dsimp only
            rw [h3]
            exact h
          · exact h.elim
      · exact h.elim
    · exact h.elim
  · exact h.elim
theorem uX {P:Program} {a:uS} {t:TypeId} {m key:AV} {ok:Bool} {M:St} {k:AV→St→Prop} (h:qJ P a t m key ok M k):gP P t m key ok M k:=by
  unfold qJ at h
  unfold gP
  split at h
  · rename_i hu
    rw [hu]
    dsimp only
    split at h
    · dsimp only
      split at h
      · rename_i hob
        rw [hob]
        dsimp only
        split at h
        · obtain ⟨h1,h2⟩:=h
          exact h1 (fun r=>match r with
            | some i=>ew M _ i fun a M'=>ml ok a true fun r=>k r M'
            | none=>i7 P _ ok fun r=>k r M) (nI h2)
        · obtain ⟨h1,h2⟩:=h
          exact h1 (fun r=>match r with
            | some i=>ew M _ i fun a M'=>ml ok a true fun r=>k r M'
            | none=>i7 P _ ok fun r=>k r M) h2
      · exact h.elim
    · exact h.elim
  · exact h.elim
theorem pV {P:Program} {a:uS} {t:TypeId} {m key x:AV} {M:St} {K:St→Prop} (h:pS P a t m key x M K):iN P t m key x M K:=by
  unfold pS at h
  unfold iN
  split at h
  · rename_i hu
    rw [hu]
    dsimp only
    split at h
    · rename_i id
      dsimp only
      split at h
      · rename_i ks sz cells hole hob
        rw [hob]
        dsimp only
        obtain ⟨h1,h2,h3⟩:=ac h
        refine au h1 ?_
        have h4:=h2 (E5 M id sz cells hole x K) h3
        refine ay.mono2 cC h4 (fun kv r h5=>?_)
        obtain ⟨h6,h7⟩:=ac h5
        refine au h6 ?_
        cases r with
        | none=>exact h7
        | some i =>
          obtain ⟨h8,h9,h10⟩:=ac h7
          refine au ?_ h10
          rw [Bool.and_eq_true]
          exact ⟨h8,h9⟩
      · exact h.elim
    · exact h.elim
  · exact h.elim
theorem ri {M:St} {x:AV} {X Y:Nat→Nat→Prop} (h:iA M x X) (hk:∀ id i,X id i→Y id i):iA M x Y:=by
  unfold iA at h ⊢
  split at h
  · split at h
    · exact hk _ _ h
    · exact h.elim
  · exact h.elim
theorem v3 {P:Program} {vs:List AV} {M:St} {k:AV→St→Prop} (h:Ay P A pl o vs M k):j3 P pl o vs M k:=by
  unfold Ay at h
  split at h
  · exact h
  · split at h
    · rename_i ho
      unfold j3
      rw [ho]
      exact ri h (fun _ _ h=>uV h)
    · rename_i ho
      unfold j3
      rw [ho]
      exact ri h (fun _ _ h=>tU h)
    · rename_i ho
      unfold j3
      rw [ho]
      exact uW h
    · rename_i ho
      unfold j3
      rw [ho]
      exact uX h
    · rename_i ho
      unfold j3
      rw [ho]
      exact pV h
    · rename_i ho
      unfold j3
      rw [ho]
      exact pV h
    · exact h.elim
theorem nJ {S:St} {id:Nat} {K:St→Prop} (h:ni A S id K):gN S id K:=by
  unfold ni at h
  split at h
  · exact h
  · unfold gN
    split at h
    · rename_i hob
      rw [hob]
      dsimp only
      split at h
      · rename_i hk
        rw [hk]
        obtain ⟨h1,h2,h3,h4⟩:=ac h
        refine au ?_ ?_
        · rw [Bool.and_eq_true]
          exact ⟨h1,h2⟩
        · rw [h3]
          exact h4
      · exact h.elim
    · rename_i hob
      rw [hob]
      dsimp only
      obtain ⟨h2,h3,h4⟩:=h
      refine au h2 ?_
      rw [h3]
      exact h4
    · exact h.elim
theorem pW:∀ {ids:List Nat} {S:St} {K:St→Prop},tD A ids S K→lf ids S K
  | [],_,_,h=>h
  | _::_,_,_,h=>ay.mono lz (nJ h) (fun _ h=>pW h)
theorem pX {S:St} {id:Nat} {K:St→Prop} (h:pT A S id K):jj S id K:=by
  unfold pT at h
  split at h
  · exact h
  · unfold jj
    split at h
    · rename_i hob
      rw [hob]
      dsimp only
      rw [h.1]
      exact h.2
    · exact h.elim
theorem nK:∀ {ids:List Nat} {S:St} {K:St→Prop},qK A ids S K→jL ids S K
  | [],_,_,h=>h
  | _::_,_,_,h=>ay.mono mN (pX h) (fun _ h=>nK h)
theorem tV {id:Nat} {S:St} {K:St→Prop} (h:tE A pl id S K):jc pl id S K:=by
  unfold tE at h
  unfold jc
  split at h
  · rename_i hc
    rw [hc]
    exact h
  · rename_i hc
    rw [hc]
    dsimp only
    refine ay.mono (i0 _ _) (pW h) (fun S1 h=>?_)
    split at h
    · rename_i hc
      rw [hc]
      exact h
    · rename_i hc
      rw [hc]
      exact nK h
theorem zV (hC:tO C) {vs:List AV} {M:St} {k:AV→St→Prop} (h:zR C A o vs M k):j8 C o vs M k:=by
  unfold zR at h
  split at h
  · rename_i t X Y l c ho
    split at h
    · unfold j8
      rw [ho]
      exact lV h
    · exact h
  · rename_i c fid first cap as ho
    unfold j8
    rw [ho]
    dsimp only
    split at h
    · rename_i x hcal
      rw [hcal]
      obtain ⟨h1,h⟩:=ac h
      refine au h1 ?_
      split at h
      · obtain ⟨h2,h3⟩:=h
        obtain ⟨r0,o0,⟨e1,e2⟩,h4⟩:=hC.det.scall _ _ _ _ h2
        subst e1 e2
        exact h4 _ h3
      · exact h
    · exact h.elim
  · rename_i hne hne2
    have h':=yF h
    unfold j8
    split
    · rename_i t X Y l c ho
      exact absurd rfl (hne t X Y l c ho)
    · rename_i c fid first cap as ho
      exact absurd rfl (hne2 c fid first cap as ho)
    · exact h'
theorem Bu (hC:tO C) {vs:List AV} {M:St} {k:AV→St→Prop} (h:Cm C A pl o vs M k):lg C pl o vs M k:=by
  unfold Cm at h
  unfold lg
  split at h
  · rename_i hw
    rw [hw]
    exact v3 h
  · rename_i hw
    rw [hw]
    exact zV hC h
theorem zW (hC:tO C) {S:St} {K:St→Prop} (h:Cn C A pl o S K):nt C pl o S K:=ay.mono aN h (fun _ h=>Bu hC h)
theorem Bv {S:St} {K:St→Prop} (h:DG C A pl o S K):wi C pl o S K:=ay.mono aN h (fun _ h=>v3 h)
theorem Bw {S:St} {K:St→Prop} (h:DI C o S K):AT C o S K:=ay.mono aN h (fun _ h=>Cs h)
theorem Ct (hC:tO C) {S:St} {K:St→Prop} (h:Eo C A pl o S K):wj C pl o S K:=by
  refine ay.mono (yd hC.det) (K:=l8 A o K) ?_ (fun _ h=>j1 h)
  unfold Eo at h
  unfold wj
  split at h
  · rename_i hc
    rw [hc]
    exact v1 h
  · rename_i hc
    rw [hc]
    exact v2 hC h
  · rename_i hc
    rw [hc]
    exact Bt h
  · rename_i h0 h1 h2
    have:=yG hC h
    split
    · exact absurd (by assumption) h0
    · exact absurd (by assumption) h1
    · exact absurd (by assumption) h2
    · exact this
theorem rR (hC:tO C) {S:St} {K:St→Prop} (h:DJ C A pl o S K):BP C pl o S K:=by
  unfold DJ at h
  unfold BP
  split at h
  · rename_i hw
    rw [hw]
    exact ay.mono yb (Bv h) (fun _ h=>j1 h)
  · rename_i hw
    rw [hw]
    exact Ct hC h
theorem tY (hC:tO C) {S:St} {K:St→Prop} (h:yx C A pl o S K):uu C pl o S K:=by
  unfold yx at h
  split at h
  · rename_i hc
    refine ay.mono (gd hC.det) (K:=l8 A o K) ?_ (fun _ h=>j1 h)
    unfold uu
    rw [hc]
    exact v1 h
  · rename_i hc
    refine ay.mono (gd hC.det) (K:=l8 A o K) ?_ (fun _ h=>j1 h)
    unfold uu
    rw [hc]
    exact v2 hC h
  · rename_i hc
    refine ay.mono (gd hC.det) (K:=l8 A o K) ?_ (fun _ h=>j1 h)
    unfold uu
    rw [hc]
    exact zW hC h
  · rename_i hc
    unfold uu
    rw [hc]
    exact h
  · rename_i hc
    refine ay.mono (gd hC.det) (K:=l8 A o K) ?_ (fun _ h=>j1 h)
    unfold uu
    rw [hc]
    exact Bw h
  · rename_i h0 h1 h2 h4 h5
    refine ay.mono (gd hC.det) (K:=l8 A o K) ?_ (fun _ h=>j1 h)
    unfold uu
    split
    · exact absurd (by assumption) h0
    · exact absurd (by assumption) h1
    · exact absurd (by assumption) h2
    · exact absurd (by assumption) h4
    · exact absurd (by assumption) h5
    · split at h
      · exact False.elim h
      · rename_i hb
        rw [hb]
        exact yG hC h
theorem Dh (hC:tO C) {all:Array Oper} {S:St} {K:St→Prop} (h:FE C A pl all o S K):ag C pl all o S K:=by
  unfold FE at h
  unfold ag
  split at h
  · rename_i hg
    rw [hg]
    obtain ⟨h1,h⟩:=ac h
    exact au h1 (tY hC h)
  · rename_i j want hg
    rw [hg]
    dsimp only
    split at h
    · exact False.elim h
    · rename_i d hd
      rw [hd]
      dsimp only
      refine aw.mono cT h (fun b S1 h=>?_)
      have key:∀ {S:St},bf (iB pl all o S) (yx C A pl o S K)→nS C pl all o S K:=by
        intro S h
        obtain ⟨h1,h⟩:=ac h
        exact au h1 (tY hC h)
      unfold gsel at h ⊢
      split at h
      · exact key h
      · exact key h
      · exact h
theorem AC (hC:tO C) {ops:Array Oper} {i:Nat} {S:St} {K:St→Prop} (h:ER C A pl ops i S K):vg C pl ops i S K:=by
  unfold ER at h
  unfold vg
  split at h
  · exact False.elim h
  · rename_i o ho
    rw [ho]
    exact Dh hC h
theorem yH {S2 S1:St} {X:Prop} (h:S2=S1∧X):qQ S2 S1 X:=by
  unfold qQ
  split
  · exact h.2
  · exact h
theorem w9 (hC:tO C) {ops:Array Oper} {ws:List Nat}:∀ {n a:Nat} {listed:Array Bool} {t:PT} {S:St} {K:St→Prop},je pl ops ws n a listed=some t→oT C A pl ops t none S K→iV C pl ops ws n listed S K
  | 0,a,listed,t,S,K,hp,h=>by
    unfold je at hp
    unfold iV
    split at hp
    · cases hp
      rename_i hr
      rw [hr]
      exact h
    · cases hp
  | n + 1,a,listed,t,S,K,hp,h=>by
    unfold je at hp
    unfold iV
    split at hp
    · cases hp
      rename_i hr
      rw [hr]
      exact h
    · rename_i r rs hr
      rw [hr]
      dsimp only
      have step:∀ {k b:Nat} {u:PT} {S:St} {K:St→Prop},je pl ops ws n b (listed.setIfInBounds k true)=some u→(ER C A pl ops k S fun S'=>oT C A pl ops u none S' K)→vg C pl ops k S fun S'=>iV C pl ops ws n (listed.setIfInBounds k true) S' K :=
        fun hj h=>ay.mono (eG hC.det) (AC hC h) (fun _ h=>w9 hC hj h)
      have alts:∀ {b:Nat} {is:List Nat} {u:PT} {S S1:St} {K:St→Prop} {X:Prop},nG (fun i=>je pl ops ws n b (listed.setIfInBounds i true)) is=some u→oT C A pl ops u (some (S1,X)) S K →
          za (fun i K'=>vg C pl ops i S fun S'=>iV C pl ops ws n (listed.setIfInBounds i true) S' K') is S1 X:=by
        intro b is
        induction is with
        | nil =>
          intro u S S1 K X hu h
          unfold nG at hu
          cases hu
          exact h
        | cons i is ih =>
          intro u S S1 K X hu h
          unfold nG at hu
          split at hu
          · rename_i v hv
            split at hu
            · rename_i w hw
              cases hu
              refine ay.mono (ay.bind (eG hC.det) (fun S'=>ez hC.det _ _ _)) (step hv h) (fun S2 h=>?_)
              exact yH ⟨h.1,ih hw h.2⟩
            · cases hu
          · cases hu
      split at hp
      · rename_i k hk
        rw [hk]
        dsimp only
        split at hp
        · cases hp
          rename_i u hj
          exact step hj h
        · cases hp
      · rename_i hk
        rw [hk]
        dsimp only
        split at hp
        · split at hp
          · cases hp
            rename_i u hj
            refine ay.mono (ay.bind (eG hC.det) (fun S'=>ez hC.det _ _ _)) (step hj h) (fun _ h=>?_)
            exact h
          · cases hp
        · split at hp
          · rename_i b _ _
            unfold nG at hp
            split at hp
            · rename_i v hv
              split at hp
              · rename_i w hw
                cases hp
                refine ay.mono (ay.bind (eG hC.det) (fun S'=>ez hC.det _ _ _)) (step hv h) (fun S1 h=>?_)
                exact alts hw h
              · cases hp
            · cases hp
          · cases hp
theorem Cu (hC:tO C) {ops:Array Oper} {ws:List Nat}:∀ {n:Nat} {listed:Array Bool} {t:PT} {S:St} {K:St→Prop},v0 pl ops ws n listed=some t→oT C A pl ops t none S K→rx C pl ops ws n listed S K
  | 0,listed,t,S,K,hp,h=>w9 hC (n:=0) hp h
  | n + 1,listed,t,S,K,hp,h=>by
    unfold v0 at hp
    unfold rx
    split at hp
    · rename_i i hi
      rw [hi]
      dsimp only
      split at hp
      · cases hp
        rename_i u hj
        exact ay.mono (eG hC.det) (AC hC h) (fun _ h=>Cu hC hj h)
      · cases hp
    · rename_i hi
      rw [hi]
      exact w9 hC hp h
theorem Cv (hC:tO C) {ops:Array Oper} {t:PT} {S:St} {K:St→Prop} (hp:tH pl ops=some t) (h:oT C A pl ops t none S K):uz C pl ops S K:=by
  unfold tH at hp
  unfold uz
  split at hp
  · cases hp
  · rename_i hn
    refine au hn ?_
    split at hp
    · rename_i hc
      rw [hc]
      exact w9 hC hp h
    · rename_i hc
      rw [hc]
      exact Cu hC hp h
theorem pY:∀ {x y:PT},zN x y=true→x=y
  | .done,.done,_=>rfl
  | .go i t,.go j u,h=>by
    unfold zN at h
    rw [Bool.and_eq_true] at h
    rw [Nat.eq_of_beq_eq_true h.1,pY h.2]
  | .alt i t r,.alt j u s,h=>by
    unfold zN at h
    rw [Bool.and_eq_true,Bool.and_eq_true] at h
    rw [Nat.eq_of_beq_eq_true h.1,pY h.2.1,pY h.2.2]
  | .done,.go _ _,h=>by cases h
  | .done,.alt _ _ _,h=>by cases h
  | .go _ _,.done,h=>by cases h
  | .go _ _,.alt _ _ _,h=>by cases h
  | .alt _ _ _,.done,h=>by cases h
  | .alt _ _ _,.go _ _,h=>by cases h
end
open Go.RowKit (Below)
def dq (P:Program) (c:Code) (S:St) (K:Ex→St→Prop):Prop :=
  ∃ e S',(∀ (r:Option Nat) (G:Gh) (E:Env) (a:Act) (w:World) (Q:Exit→Act→World→Prop),ai G pn E S w→TR E S.t a→B2 G (fun e' S''=>e'=e∧S''=S') Q→c.wpIn (rd r) 0 P Q a w)∧K e S'
theorem dq.mono {P:Program} {c:Code} {S:St} {K K':Ex→St→Prop} (h:dq P c S K) (hk:∀ e S',K e S'→K' e S'):dq P c S K' :=
  let ⟨e,S',h1,h2⟩:=h
  ⟨e,S',h1,hk _ _ h2⟩
theorem yI (cfg:m7):tO (gF cfg):=⟨mS cfg⟩
theorem rj {P:Program} {op:BinOp} {t e:TypeId} {rows:List (List AV)} {E:Env} {u:Value} (hop:Ep op=true) (hu:P.underlying t=some (.slice e)) (hx:VR E (.sl rows) u) (w:World) (X Y:Operand) :
    ∃ b,(do eqGuard op t X Y u (.slice none 0 0); binOp op t u (.slice none 0 0):Sem Value).run P w=.ok (.bool b) w∧((b=vZ op∧rows=[])∨b=!(vZ op)):=by
  have h0:∃ b,(∀ d:Nat,(Op.equalIn (d + 1) t u (.slice none 0 0)).run P w=.ok b w)∧((b=true∧rows=[])∨b=false):=by
    cases hx with
    | sln=>exact ⟨true,fun d=>by unfold Op.equalIn; rw [Sem.run_bind,run_underlying hu]; rfl,.inl ⟨rfl,rfl⟩⟩
    | sle _ a cap=>exact ⟨false,fun d=>by unfold Op.equalIn; rw [Sem.run_bind,run_underlying hu]; rfl,.inr rfl⟩
    | sl us h1 h2 h3 h4 h5 h6 h7=>exact ⟨false,fun d=>by unfold Op.equalIn; rw [Sem.run_bind,run_underlying hu]; rfl,.inr rfl⟩
  obtain ⟨b,hb,hr⟩:=h0
  have hn:BS u=true:=by cases hx <;> rfl
  have he:(Op.equal t u (.slice none 0 0)).run P w=.ok b w:=ql hb
  rw [iE hn]
  cases op with
  | eql =>
    refine ⟨b,?_,hr⟩
    have:binOp .eql t u (.slice none 0 0)=(do pure (.bool (← Op.equal t u (.slice none 0 0)))):=by cases hx <;> rfl
    simp [this,he]
  | neq =>
    refine ⟨!b,?_,?_⟩
    · have:binOp .neq t u (.slice none 0 0)=(do pure (.bool (!(← Op.equal t u (.slice none 0 0))))):=by cases hx <;> rfl
      simp [this,he]
    · rcases hr with ⟨rfl,hr⟩ | rfl
      · exact .inl ⟨rfl,hr⟩
      · exact .inr rfl
  | _=>cases hop
section
variable {G:Gh} {C:Ctx} {A:dh} {pl:bi}
theorem lI (hO:tO C) (hC:dx C) {rr:Option Nat} {all:Array Oper} {Q:Exit→Act→World→Prop}:∀ {ops:List Oper} {E:Env} {S:St} {w:World} {a:Act} {K:St→Prop},ai G pn E S w→TR E S.t a→w6 C A pl all ops S K →
    (∀ S' E' a' w',K S'→ai G pn E' S' w'→TR E' S'.t a'→Q .normal a' w')→wpListIn (rd rr) 0 C.P all Q ops a w
  | [],E,S,w,a,K,hM,ht,h,hQ=>hQ _ _ _ _ h hM ht
  | o::rest,E,S,w,a,K,hM,ht,h,hQ=>by
    have step:∀ {S1:St},ai G pn E S1 w→TR E S1.t a→Region.wanted o (yielded all a.tmps)=true→(DJ C A pl o S1 fun S'=>w6 C A pl all rest S' K)→wpListIn (rd rr) 0 C.P all Q (o::rest) a w:=by
      intro S1 hM1 ht1 hw h
      unfold wpListIn
      rw [if_pos hw]
      refine vD (zp (rR hO h)) (qt hC hM1 ht1 (rR hO h) _ _ (fun S' E' a' w' hk hS htr=>?_))
      exact lI hO hC hS htr hk hQ
    unfold w6 at h
    split at h
    · rename_i hg
      have hw:Region.wanted o (yielded all a.tmps)=true:=by unfold Region.wanted; rw [hg]
      split at h
      · unfold wpListIn
        rw [if_pos hw]
        unfold DK at h
        split at h
        · rename_i op t x yt ho
          split at h
          · rename_i e hu
            obtain ⟨c,h,hc⟩:=cw h ht
            split at h
            · rename_i rows
              obtain ⟨hop,h1,h2⟩:=ac h
              obtain ⟨b,hrun,hbr⟩:=rj hop hu hc w x (.const (.slice none 0 0))
              have hex:(execOp a.eval o).run C.P w=.ok (.value (.bool b)) w:=by
                have:(execOp a.eval o)=(do pure (.value (← (do eqGuard op t x (.const (.slice none 0 0)) (a.eval x) (.slice none 0 0); binOp op t (a.eval x) (.slice none 0 0):Sem Value)))):=by
                  unfold execOp
                  rw [ho]
                  simp [Act.eval]
                rw [this,Sem.run_bind,hrun]
                rfl
              refine vD (fun c hc=>by rw [ho] at hc; cases hc) (cR hex ?_)
              have h3:bc o.dst (.v (.bool b)) S fun S'=>w6 C A pl all rest S' K:=by
                rcases hbr with ⟨rfl,hr⟩ | rfl
                · exact h1 hr
                · exact h2
              rw [aD] at h3
              exact lI hO hC (hM.congr bY bZ cb) (ht.put (.v _ _ rfl)) h3 hQ
            · exact False.elim h
          · exact False.elim h
        · exact False.elim h
      · exact step hM ht hw h
    · rename_i j want hg
      split at h
      · exact False.elim h
      · rename_i d hd
        obtain ⟨b,S1,h,hb,hM1,ht1⟩:=jl hM ht h
        rcases kg hg (lq hd hb) h with ⟨hw,h⟩ | ⟨hw,h⟩
        · exact step hM1 ht1 hw h
        · rw [aD] at h
          unfold wpListIn
          rw [if_neg (by rw [hw]; exact fun h=>by cases h)]
          exact ⟨fun _ _=>trivial,lI hO hC (hM1.congr bY bZ cb) (ht1.put (pG _)) h hQ⟩
end
theorem yJ {A:Ek} {id:Nat} {S:St} {K:St→Prop} (h:Bn A id S K):∃ S',dj S S'∧K S':=by
  unfold Bn at h
  split at h
  · exact kn h
  · exact ⟨S,.refl S,h⟩
theorem yK {cfg:m7} (hmix:cfg.P.follows .mixedOrders=true) {A:Ek} {pl:bi}:∀ (c:Code) {S:St} {K:Ex→St→Prop},i_ pl A.ord c=true→tJ (gF cfg) (dq cfg.P) A pl c S K →
    ∀ (r:Option Nat) (G:Gh) (E:Env) (a:Act) (w:World) (Q:Exit→Act→World→Prop),ai G pn E S w→TR E S.t a→B2 G K Q→c.wpIn (rd r) 0 cfg.P Q a w:=by
  have hC:=yI cfg
  intro c
  induction c with
  | skip=>exact fun _ h r G E a w Q hM ht hQ=>wpIn_skip (hQ .nrm _ E _ _ h hM ht)
  | region id ops draw =>
    intro S K hB h r G E a w Q hM ht hQ
    cases draw with
    | false =>
      refine wpIn_region_list (lI hC (jC cfg) hM ht h (fun S' E' a' w' hk hS htr=>?_))
      obtain ⟨S3,E3,hk,hS,htr⟩:=j_ hS htr (tV hk)
      obtain ⟨S2,hw,hk⟩:=yJ hk
      obtain ⟨E2,hM2,ht2⟩:=hw G E3 a' w' hS htr
      exact hQ .nrm _ _ _ _ hk hM2 ht2
    | true =>
      refine kU hmix pl id ops S (fun e S'=>e=.nrm∧Bn A id S' (K .nrm)) ?_ r G E a w Q hM ht (fun e S' E' a' w' hk hS htr=>?_)
      · unfold i_ at hB
        have h':(match o8 A.ord id with
        | some is=>bf (qR pl ops) (uA (gF cfg).P (bR ops.toList) S fun S1=>oT (gF cfg) (Bm A id) pl ops is none S1 fun S'=>jM (bR ops.toList) S' (tE (Bm A id) pl id S' fun S''=>Bn A id S'' (K .nrm)))
        | none=>af 440):=h
        split at hB
        · rename_i is js h1 h2
          rw [h1] at h'
          dsimp only at h'
          obtain ⟨h3,h'⟩:=ac h'
          refine au h3 ?_
          refine ay.mono ta h' (fun S1 h=>?_)
          rw [pY hB] at h
          refine ay.mono (tc hC.det) (Cv hC h2 h) (fun S' h=>?_)
          obtain ⟨h4,h5⟩:=kS h
          exact h5 _ (ay.mono nf (tV h4) (fun S'' h=>⟨rfl,h⟩))
        · cases hB
      · obtain ⟨rfl,hk⟩:=hk
        obtain ⟨S2,hw,hk⟩:=yJ hk
        obtain ⟨E2,hM2,ht2⟩:=hw G E' a' w' hS htr
        exact hQ .nrm _ _ _ _ hk hM2 ht2
  | seq x y ihx ihy =>
    intro S K hB h r G E a w Q hM ht hQ
    unfold i_ at hB
    rw [Bool.and_eq_true] at hB
    refine wpIn_seq (ihx hB.1 h r G E a w _ hM ht (fun e S' E' a' w' hk hS htr=>?_))
    cases e with
    | nrm =>
      dsimp only at hk
      split at hk
      · obtain ⟨S2,h1,⟨e2,S3,h2,h3,h4⟩,h5⟩:=kn hk
        subst h3 h4
        obtain ⟨E2,hM2,ht2⟩:=((nj _ _).trans h1) G E' a' w' hS htr
        refine h2 r G E2 a' w' Q hM2 ht2 (fun e' S'' E'' a'' w'' he hS' ht'=>?_)
        obtain ⟨rfl,rfl⟩:=he
        exact hQ _ _ _ _ _ h5 hS' ht'
      · exact ihy hB.2 hk r G E' a' w' Q hS htr hQ
    | ex i=>exact hQ (.ex i) _ _ _ _ hk hS htr
    | ret=>exact hQ .ret _ _ _ _ hk hS htr
  | cond c x y ihx ihy =>
    intro S K hB h r G E a w Q hM ht hQ
    unfold i_ at hB
    rw [Bool.and_eq_true] at hB
    obtain ⟨b,S1,h1,h2,h3,h4⟩:=mG hM ht h
    cases b with
    | true=>exact wpIn_cond_true h2 (ihx hB.1 h1 r G E a w Q h3 h4 hQ)
    | false=>exact wpIn_cond_false h2 (ihy hB.2 h1 r G E a w Q h3 h4 hQ)
  | block id c ih =>
    intro S K hB h r G E a w Q hM ht hQ
    refine wpIn_block (ih hB h r G E a w _ hM ht (fun e S' E' a' w' hk hS htr=>?_))
    cases e with
    | nrm=>exact hQ .nrm _ _ _ _ hk hS htr
    | ret=>exact hQ .ret _ _ _ _ hk hS htr
    | ex i =>
      show Exit.inBlock id Q (.exit i) a' w'
      unfold Exit.inBlock
      dsimp only at hk
      split at hk
      · rename_i hb
        have:=Nat.eq_of_beq_eq_true hb
        subst this
        simp only [if_pos]
        exact hQ .nrm _ _ _ _ hk hS htr
      · rename_i hb
        have hne:¬ i=id:=fun e=>by subst e; simp at hb
        simp only [if_neg hne]
        exact hQ (.ex i) _ _ _ _ hk hS htr
  | loop c ih =>
    intro S K hB h r G E a w Q hM ht hQ
    have h':(match o8 A.lps (nH c) with
    | some (W,L,e,S1)=>Cg L (wk W S) fun S2=>((gF cfg).loop pl c S2 fun e' S'=>e'=e∧S'=S1)∧K e S1
    | none=>(gF cfg).loop pl c S K):=h
    split at h'
    · obtain ⟨S2,h1,h2,h3⟩:=kn h'
      obtain ⟨E2,hM2,ht2⟩:=((nj _ _).trans h1) G E a w hM ht
      refine jD cfg pl c S2 _ h2 r G E2 a w Q hM2 ht2 (fun e' S'' E'' a'' w'' he hS' ht'=>?_)
      obtain ⟨rfl,rfl⟩:=he
      exact hQ _ _ _ _ _ h3 hS' ht'
    · exact jD cfg pl c S K h' r G E a w Q hM ht hQ
  | exit id=>exact fun _ h r G E a w Q hM ht hQ=>wpIn_exit (hQ (.ex id) _ E _ _ h hM ht)
  | ret=>exact fun _ h r G E a w Q hM ht hQ=>wpIn_ret (hQ .ret _ E _ _ h hM ht)
  | _=>exact fun _ h=>False.elim h
theorem dq.of {cfg:m7} (hmix:cfg.P.follows .mixedOrders=true) {pl:bi} {c:Code} {S S1:St} {e:Ex} {K:Ex→St→Prop} {A:Ek} {we:List (Nat×(Wk×Le))} (hB:i_ pl A.ord c=true)
    (h:Es (gF cfg) (dq cfg.P) A pl we c S (fun e' S'=>e'=e∧S'=S1)) (hk:K e S1):dq cfg.P c S K:=by
  refine ⟨e,S1,fun r G E a w Q hM ht hQ=>?_,hk⟩
  refine yK hmix c hB h r G E a w Q hM ht (fun e' S' E' a' w' hk hS htr=>?_)
  dsimp only at hk
  split at hk
  · obtain ⟨S2,h1,rfl,rfl⟩:=kn hk
    obtain ⟨E2,hM2,ht2⟩:=((nj _ _).trans h1) G E' a' w' hS htr
    exact hQ _ _ _ _ _ ⟨rfl,rfl⟩ hM2 ht2
  · obtain ⟨rfl,rfl⟩:=hk
    exact hQ _ _ _ _ _ ⟨rfl,rfl⟩ hS htr
theorem ik.round {cfg:m7} {pl:bi} {c:Code} {S:St} {K:Ex→St→Prop}
    (h:dq cfg.P c S fun e S'=>match e with
      | .nrm=>ik cfg.P pl c S' K
      | .ex i=>K (.ex i) S'
      | .ret=>K .ret S'):ik cfg.P pl c S K:=by
  obtain ⟨e1,S1,h2,h1⟩:=h
  have run:∀ (e:Ex) (S3:St) (n:Nat),(∀ (r:Option Nat) (G:Gh) (E:Env) (a:Act) (w:World) (Q:Exit→Act→World→Prop),ai G pn E S1 w→TR E S1.t a→B2 G (fun e' S''=>e'=e∧S''=S3) Q→Exit.then (Code.roundsIn (rd r) 0 cfg.P c Q n) Q (C4 e1) a w) →
      ∀ (r:Option Nat) (G:Gh) (E:Env) (a:Act) (w:World) (Q:Exit→Act→World→Prop),ai G pn E S w→TR E S.t a→B2 G (fun e' S''=>e'=e∧S''=S3) Q→Code.roundsIn (rd r) 0 cfg.P c Q (n + 1) a w:=by
    intro e S3 n hn r G E a w Q hM ht hQ
    refine h2 r G E a w _ hM ht (fun e' S' E' a' w' hk hS htr=>?_)
    obtain ⟨rfl,rfl⟩:=hk
    exact hn r G E' a' w' Q hS htr hQ
  cases e1 with
  | nrm =>
    obtain ⟨n,e,S',hl,hk⟩:=h1
    exact ⟨n + 1,e,S',run e S' n (fun r G E a w Q hM ht hQ=>hl r G E a w Q hM ht hQ),hk⟩
  | ex i=>exact ⟨1,.ex i,S1,run _ _ 0 (fun r G E a w Q hM ht hQ=>hQ _ _ _ _ _ ⟨rfl,rfl⟩ hM ht),h1⟩
  | ret=>exact ⟨1,.ret,S1,run _ _ 0 (fun r G E a w Q hM ht hQ=>hQ _ _ _ _ _ ⟨rfl,rfl⟩ hM ht),h1⟩
def rk {σ τ:Type} (Sf:σ→St) (out:τ→Ex×St) (r:σ⊕τ) (e:Ex) (S':St):Prop :=
  match r with
  | .inl s'=>e=.nrm∧S'=Sf s'
  | .inr t=>e≠.nrm∧e=(out t).1∧S'=(out t).2
theorem GG {σ τ:Type} {Sf:σ→St} {out:τ→Ex×St} {s:σ}:rk Sf out (.inl s) .nrm (Sf s):=⟨rfl,rfl⟩
def pk {τ:Type} (out:τ→Ex×St) (t:τ) (e:Ex) (S':St):Prop:=e=(out t).1∧S'=(out t).2
theorem ik.iter {cfg:m7} {pl:bi} {c:Code} {σ τ:Type} {step:σ→Option (σ⊕τ)} (Sf:σ→St) (out:τ→Ex×St)
    (hs:∀ s r,step s=some r→dq cfg.P c (Sf s) (rk Sf out r)):∀ (n:Nat) (s:σ) (t:τ),A.iter step n s=some t→ik cfg.P pl c (Sf s) fun e S'=>e=(out t).1∧S'=(out t).2
  | 0,s,t,h=>by cases h
  | n + 1,s,t,h=>by
    unfold A.iter at h
    split at h
    · cases h
    · rename_i s' hs'
      refine ik.round ((hs s _ hs').mono fun e S' h1=>?_)
      obtain ⟨rfl,rfl⟩:=h1
      exact ik.iter Sf out hs n s' t h
    · rename_i t' ht'
      cases h
      refine ik.round ((hs s _ ht').mono fun e S' h1=>?_)
      obtain ⟨h0,h1,h2⟩:=h1
      cases e with
      | nrm=>exact absurd rfl h0
      | ex i=>exact ⟨h1,h2⟩
      | ret=>exact ⟨h1,h2⟩
theorem dz.le {P:Program} {f:Nat} {as as':List AV} {K:AV→Prop} (h:dz P f as' K) (hl:bm as as'):dz P f as K:=by
  obtain ⟨r,⟨h1,h2⟩,h3⟩:=h
  exact ⟨r,⟨h1,fun F w us hF hg hv=>h2 F w us hF hg (hl.vrs hv)⟩,h3⟩
theorem dz.to {P:Program} {f:Nat} {as:List AV} {r:AV} (h:dz P f as fun x=>bB x r):dz P f as fun x=>x=r:=by
  obtain ⟨x,⟨h1,h2⟩,h3⟩:=h
  refine ⟨r,⟨h1,fun F w us hF hg hv=>(h2 F w us hF hg hv).mono ?_⟩,rfl⟩
  rintro e w' ⟨v,F',h4,h5,h6⟩
  exact ⟨v,F',h4,h3 _ _ h5,h6⟩
def Et (k:IntKind) (x:Int):AV:=.v (.int k x)
def E6 (x:Bool):AV:=.v (.bool x)
def eh {α:Type} (f:α→List AV) (x:α):AV:=.agg (f x)
def ak (k:IntKind) (x:Int):List AV:=[.v (.int k x)]
def DL (x:Bool):List AV:=[.v (.bool x)]
def F5 {α:Type} (f:α→List AV) (l:List α):List AV:=[.sl (l.map f)]
theorem d_ {k:IntKind} {a b:Int} (h:(a==b)=true):AV.v (.int k a)=AV.v (.int k b):=by rw [eq_of_beq h]
theorem ES {i:Nat}:Ex.ex i≠Ex.nrm:=fun h=>by cases h
theorem Fq:Ex.ret≠Ex.nrm:=fun h=>by cases h
theorem Di {α:Type} (f:α→List AV) (l:List α):AV.v (.int .i64 (((l.map f).length:Nat):Int))=AV.v (.int .i64 (l.length:Int)):=by rw [List.length_map]
theorem Cw {α:Type} (f:α→List AV) {l:List α} {i:Int} {x:α} (h:i4 l i=some x):DC (l.map f) i=some (f x):=by
  unfold i4 at h
  unfold DC
  split
  · rename_i h0
    rw [if_pos h0] at h
    rw [List.getElem?_map,h]
    rfl
  · rename_i h0
    rw [if_neg h0] at h
    cases h
theorem Cx {α:Type} (f:α→List AV) (l:List α) {sz:Nat} (hf:∀ x,Nat.beq (f x).length sz=true):mg sz (l.map f)=true:=by
  cases l with
  | nil=>rfl
  | cons x l=>exact hf x
theorem zX {α:Type} (f:α→List AV) (l:List α) (hf:∀ x,(f x).all kr=true):aA (l.map f)=true:=by
  unfold aA
  rw [List.all_eq_true]
  intro r hr
  obtain ⟨x,_,rfl⟩:=List.mem_map.1 hr
  exact hf x
theorem aI {α:Type} (f:α→List AV) (l m:List α):l.map f++m.map f=(l++m).map f:=List.map_append.symm
theorem Dj {α:Type} (f:α→List AV) {l:List α} (h:l.map f=[]):bB .nilsl (.sl (l.map f)):=by rw [h]; exact bB.nil
theorem AD {α:Type} {f:α→List AV} {l:List α} {k m:Nat} (h:Nat.ble (l.length * k) m=true):Nat.ble ((l.map f).length * k) m=true:=by rw [List.length_map]; exact h
theorem ax {α:Type} {f:α→List AV} {l:List α} {k m n:Nat} (h:Nat.ble ((l.length + n) * k) m=true):Nat.ble (((l.map f).length + n) * k) m=true:=by rw [List.length_map]; exact h
theorem rS (l:List Int) (s:ByteArray):(l.map (ak .u8))++(s.data.toList.map fun b=>[AV.v (.int .u8 (b.toNat:Int))])=(l++aR s).map (ak .u8):=by
  rw [List.map_append]
  unfold aR
  rw [List.map_map]
  rfl
theorem rT {f:Int→List AV} {l:List Int} {s:ByteArray} {k m:Nat} (h:Nat.ble ((l.length + (aR s).length) * k) m=true):Nat.ble (((l.map f).length + (s.data.toList.map fun b=>[AV.v (.int .u8 (b.toNat:Int))]).length) * k) m=true:=by
  unfold aR at h
  rw [List.length_map] at h
  rw [List.length_map,List.length_map]
  exact h
theorem Cy (s:ByteArray):(s.data.toList.map fun b=>[AV.v (.int .u8 (b.toNat:Int))])=(aR s).map (ak .u8):=by
  unfold aR
  rw [List.map_map]
  rfl
theorem Cz {s:ByteArray} {k m:Nat} (h:Nat.ble ((aR s).length * k) m=true):Nat.ble ((s.data.toList.map fun b=>[AV.v (.int .u8 (b.toNat:Int))]).length * k) m=true:=by
  unfold aR at h
  rw [List.length_map] at h
  rw [List.length_map]
  exact h
theorem aT:∀ l:List Int,bytesOf (l.map (ak .u8))=some (aV l).data.toList
  | []=>rfl
  | n::l=>by
    have:=aT l
    show (match bytesOf (l.map (ak .u8)) with | some bs=>some (UInt8.ofNat n.toNat::bs) | none=>none)=_
    rw [this]
    rfl
section
variable {α:Type} (f:α→List AV)
end
theorem pZ {α:Type} {P:Program} (c:Prop) [Decidable c] (x y:Sem α):aC P (if c then x else y)=if c then aC P x else aC P y:=by
  split <;> rfl
def Eu (f:Nat→Option Bool):List Nat→Option Bool
  | []=>some true
  | i::is=>match f i with
    | some e=>match Eu f is with
      | some s=>some (e&&s)
      | none=>none
    | none=>none
def Dk (P:Program):Nat→TypeId→Value→Value→Option Bool
  | 0,_,_,_=>none
  | n + 1,t,x,y =>
    match P.underlying t,x,y with
    | some .bool,.bool a,.bool b=>some (a==b)
    | some (.int _),.int k a,.int k' b=>if k=k' then some (a==b) else none
    | some .string,.string a,.string b=>some (a.toList==b.toList)
    | some (.struct fs),.agg xs,.agg ys=>match P.stoodInHeld t with
      | true=>none
      | false => fs.toList.foldr (fun f (r : Option Bool × Bool) => match f.name == "_", aC P (part f.type xs f.offset), aC P (part f.type ys f.offset) with
          | false,some a,some b=>match Dk P n f.type a b,r with
            | some e,(_,false)=>(some e,true)
            | some e,(some s,true)=>(some (e&&s),true)
            | _,_=>(none,true)
          | _,_,_=>(none,true)) (some true,false) |>.1
    | some (.array len e),.agg xs,.agg ys=>match aC P (sizeOf e) with
      | some m=>Eu (fun i=>match aC P (part e xs (i * m)),aC P (part e ys (i * m)) with
        | some a,some b=>Dk P n e a b
        | _,_=>none) (List.range' 0 len)
      | none=>none
    | _,_,_=>none
theorem fV {P:Program} {t:TypeId} {d:TypeDesc} (h:P.underlying t=some d):aC P (underlying t)=some d:=by
  unfold underlying
  simp [aS,program,aC,h]
  rfl
theorem By {P:Program} {t:TypeId} {fs:Array Field} {xs ys:Array Value} {d:Nat} (ht:P.underlying t=some (.struct fs)) (hp:P.stoodInHeld t=false) :
    aC P (Op.equalIn (d + 1) t (.agg xs) (.agg ys))=aC P (Op.eqFields d xs ys fs.toList):=by
  simp only [Op.equalIn,aS,fV ht,Option.bind_some]
  have hprog:aC P program=some P:=rfl
  simp only [aS,hprog,Option.bind_some,hp,Bool.false_eq_true,if_false]
  rw [← Array.forIn_toList]
  generalize fs.toList=l
  clear ht
  induction l with
  | nil=>rfl
  | cons f l ih =>
    simp only [List.forIn_cons,Op.eqFields,aS,pZ]
    split
    · try simp only [aS]
      generalize aC P (part f.type xs f.offset)=r1
      cases r1 with
      | none=>rfl
      | some a =>
        simp only [Option.bind_some]
        generalize aC P (part f.type ys f.offset)=r2
        cases r2 with
        | none=>rfl
        | some b =>
          simp only [Option.bind_some]
          generalize aC P (Op.equalIn d f.type a b)=r3
          cases r3 with
          | none=>rfl
          | some r =>
            cases r
            · rfl
            · simp only [Option.bind_some]
              exact ih
    · exact ih
def rU (d:Nat) (e:TypeId) (m:Nat) (xs ys:Array Value):List Nat→Sem Bool
  | []=>pure true
  | i::is=>do
    if !(← Op.equalIn d e (← part e xs (i * m)) (← part e ys (i * m))) then return false
    rU d e m xs ys is
theorem CB {P:Program} {t e:TypeId} {len m:Nat} {xs ys:Array Value} {d:Nat} (ht:P.underlying t=some (.array len e)) (hm:aC P (sizeOf e)=some m) :
    aC P (Op.equalIn (d + 1) t (.agg xs) (.agg ys))=aC P (rU d e m xs ys (List.range' 0 len)):=by
  simp only [Op.equalIn,aS,fV ht,Option.bind_some,hm]
  simp only [Std.Legacy.Range.forIn_eq_forIn_range',Std.Legacy.Range.size,Nat.sub_zero,Nat.add_one_sub_one,Nat.div_one]
  generalize List.range' 0 len=l
  clear ht
  induction l with
  | nil=>rfl
  | cons i l ih =>
    simp only [List.forIn_cons,rU,aS,pZ]
    generalize aC P (part e xs (i * m))=r1
    cases r1 with
    | none=>rfl
    | some a =>
      simp only [Option.bind_some]
      generalize aC P (part e ys (i * m))=r2
      cases r2 with
      | none=>rfl
      | some b =>
        simp only [Option.bind_some]
        generalize aC P (Op.equalIn d e a b)=r3
        cases r3 with
        | none=>rfl
        | some r =>
          cases r
          · rfl
          · simp only [Option.bind_some]
            exact ih
theorem qL {P:Program}:∀ (n d:Nat) {t:TypeId} {x y:Value} {b:Bool},n≤d→Dk P n t x y=some b→aC P (Op.equalIn d t x y)=some b
  | 0,_,_,_,_,_,_,h=>by cases h
  | n + 1,0,_,_,_,_,hd,_=>by omega
  | n + 1,d + 1,t,x,y,b,hd,h=>by
    unfold Dk at h
    split at h
    · rename_i hu
      cases h
      simp only [Op.equalIn,aS,fV hu,Option.bind_some]
      rfl
    · rename_i hu
      split at h
      · rename_i hk
        cases h
        simp only [Op.equalIn,aS,fV hu,Option.bind_some]
        rw [if_pos hk]
        rfl
      · cases h
    · rename_i hu
      cases h
      simp only [Op.equalIn,aS,fV hu,Option.bind_some,← beq_toListBytes]
      rfl
    · rename_i fs xs ys hu
      split at h
      · cases h
      · rename_i hp
        rw [By hu hp]
        have key : ∀ (l : List Field) (r : Option Bool) (m : Bool), l.foldr (fun f (r : Option Bool × Bool) => match f.name == "_", aC P (part f.type xs f.offset), aC P (part f.type ys f.offset) with
          | false,some a,some b=>match Dk P n f.type a b,r with
            | some e,(_,false)=>(some e,true)
            | some e,(some s,true)=>(some (e&&s),true)
            | _,_=>(none,true)
          | _,_,_=>(none,true)) (some true,false)=(r,m)→(m=false→l=[])∧∀ b,r=some b→aC P (Op.eqFields d xs ys l)=some b:=by
          intro l
          induction l with
          | nil =>
            intro r m h
            cases h
            exact ⟨fun _=>rfl,fun b hb=>by cases hb; rfl⟩
          | cons f l ih =>
            intro r m h
            rw [List.foldr_cons] at h
            generalize hq:(l.foldr _ (some true,false):Option Bool×Bool)=q at h
            obtain ⟨r',m'⟩:=q
            obtain ⟨ih1,ih2⟩:=ih r' m' hq
            split at h
            · rename_i a b hn ha hb
              have hn' : f.name ≠ "_" := by simpa using hn
              have step:∀ e,Dk P n f.type a b=some e→aC P (Op.eqFields d xs ys (f::l))=match e with | true=>aC P (Op.eqFields d xs ys l) | false=>some false:=by
                intro e he
                simp only [Op.eqFields]
                rw [if_pos hn']
                simp only [aS,ha,hb,Option.bind_some,qL n d (by omega) he]
                cases e <;> rfl
              cases hv:Dk P n f.type a b with
              | none =>
                rw [hv] at h
                cases h
                exact ⟨fun h=>(by cases h),fun b' hb'=>(by cases hb')⟩
              | some e =>
                rw [hv] at h
                cases m' with
                | false =>
                  cases h
                  refine ⟨fun h=>(by cases h),fun b' hb'=>?_⟩
                  cases hb'
                  rw [step e hv,ih1 rfl]
                  cases e <;> rfl
                | true =>
                  cases r' with
                  | none =>
                    cases h
                    exact ⟨fun h=>(by cases h),fun b' hb'=>(by cases hb')⟩
                  | some s =>
                    cases h
                    refine ⟨fun h=>(by cases h),fun b' hb'=>?_⟩
                    cases hb'
                    rw [step e hv,ih2 s rfl]
                    cases e <;> rfl
            · cases h
              exact ⟨fun h=>(by cases h),fun b' hb'=>(by cases hb')⟩
        generalize hq:(fs.toList.foldr _ (some true,false):Option Bool×Bool)=q at h
        obtain ⟨r,m⟩:=q
        exact (key _ r m hq).2 b h
    · rename_i len e xs ys hu
      split at h
      · rename_i m hm
        rw [CB hu hm]
        generalize List.range' 0 len=l at h ⊢
        induction l generalizing b with
        | nil =>
          cases h
          rfl
        | cons i l ih =>
          unfold Eu at h
          split at h
          · rename_i c hc
            split at hc
            · rename_i u v h1 h2
              split at h
              · rename_i s hs
                cases h
                simp only [rU,aS,h1,h2,Option.bind_some,qL n d (by omega) hc]
                cases c
                · rfl
                · exact ih _ hs
              · cases h
            · cases hc
          · cases h
      · cases h
    · cases h
theorem Bz {P:Program} {t:TypeId} {xs ys:List Value} {b:Bool} (hg:P.eqGuardType P.depth t=false) (h:Dk P 16 t (.agg xs.toArray) (.agg ys.toArray)=some b):qO P .eql t xs ys=some (.bool b):=by
  unfold qO
  have h1:aC P (eqGuard .eql t (.tmp 0) (.tmp 0) (.agg xs.toArray) (.agg ys.toArray))=some ():=by
    simp [eqGuard,aS,program,aC,hg]
    rfl
  have h2:aC P (binOp .eql t (.agg xs.toArray) (.agg ys.toArray))=some (.bool b):=by
    have:=qL (P:=P) 16 10000 (by omega) h
    simp only [binOp,Op.equal,Op.maxDepth]
    rw [aS,this]
    rfl
  rw [aS,h1]
  exact h2
structure F6 (P:Program) (kt:TypeId) {κ:Type} (kf:κ→AV) (kv:κ→Value) (beq:κ→κ→Bool):Prop where
  tok:∀ k,yW (kf k)=some (kv k)
  eqv:∀ a b,Dk P 16 kt (kv a) (kv b)=some (beq a b)
  chk:∀ e k,aC P (Instr.checkKey e 10000 kt (kv k))=some ()
  sam:∀ a b,beq a b=true→Instr.sameBits 10000 (kv b) (kv a)=true
section
variable {P:Program} {kt:TypeId} {κ:Type} {kf:κ→AV} {kv:κ→Value} {beq:κ→κ→Bool}
end
def ma (H:Type) (P:Program) (t:TypeId) {α:Type} (f:α→List AV) (wf:α→Prop):Prop:=∀ (n:Nat) (d:DataW H),cU P n t d=true→∃ x,bm (gh P n t d) (f x)∧wf x
def lJ (H:Type) (P:Program) (ts:List TypeId) {α:Type} (f:α→List AV) (wf:α→Prop):Prop:=∀ (n:Nat) (ds:List (DataW H)),ds.length=ts.length→((ts.zip ds).all fun x=>cU P n x.1 x.2)=true→∃ x,bm ((ts.zip ds).flatMap fun x=>gh P n x.1 x.2) (f x)∧wf x
section
variable {H:Type} {P:Program} {t:TypeId}
theorem ma.int {k:IntKind} (hu:P.underlying t=some (.int k)):ma H P t (ak k) (xn k):=by
  intro n d h
  cases n with
  | zero=>cases h
  | succ n =>
    unfold cU at h
    rw [hu] at h
    cases d with
    | lit l =>
      cases l with
      | int k' m =>
        have h:(decide (k'=k)&&(Lit.int k m).wf)=true:=h
        rw [Bool.and_eq_true] at h
        obtain ⟨h1,h2⟩:=h
        have h1:=of_decide_eq_true h1
        subst h1
        have h2:(decide (k'.min≤m)&&decide (m≤k'.max))=true:=h2
        rw [Bool.and_eq_true] at h2
        refine ⟨m,?_,of_decide_eq_true h2.1,of_decide_eq_true h2.2⟩
        unfold gh
        rw [hu]
        exact bm.refl _
      | _=>cases h
    | _=>cases h
theorem ma.bool (hu:P.underlying t=some .bool):ma H P t DL (fun _=>True):=by
  intro n d h
  cases n with
  | zero=>cases h
  | succ n =>
    unfold cU at h
    rw [hu] at h
    cases d with
    | lit l =>
      cases l with
      | bool b =>
        refine ⟨b,?_,trivial⟩
        unfold gh
        rw [hu]
        exact bm.refl _
      | _=>cases h
    | _=>cases h
theorem ma.slice {e:TypeId} (hu:P.underlying t=some (.slice e)) {α:Type} {f:α→List AV} {wf:α→Prop} (he:ma H P e f wf):ma H P t (F5 f) (fun l=>l.length≤maxLen∧∀ x∈l,wf x):=by
  intro n d h
  cases n with
  | zero=>cases h
  | succ n =>
    unfold cU at h
    rw [hu] at h
    cases d with
    | nil =>
      refine ⟨[],?_,by simp [maxLen],fun x hx=>by cases hx⟩
      unfold gh
      rw [hu]
      exact bm.cons bB.nil bm.nil
    | slice xs sp =>
      have h:(decide (xs.length≤maxLen)&&xs.all (cU P n e))=true:=h
      rw [Bool.and_eq_true] at h
      obtain ⟨h1,h2⟩:=h
      have key:∀ xs:List (DataW H),xs.all (cU P n e)=true→∃ l:List α,kG (xs.map (gh P n e)) (l.map f)∧l.length=xs.length∧∀ x∈l,wf x:=by
        intro xs
        induction xs with
        | nil=>exact fun _=>⟨[],kG.nil,rfl,fun x hx=>by cases hx⟩
        | cons x xs ih =>
          intro h
          rw [List.all_cons,Bool.and_eq_true] at h
          obtain ⟨y,hy1,hy2⟩:=he n x h.1
          obtain ⟨l,hl1,hl2,hl3⟩:=ih h.2
          refine ⟨y::l,kG.cons hy1 hl1,by simp [hl2],fun z hz=>?_⟩
          rcases List.mem_cons.1 hz with rfl | hz
          · exact hy2
          · exact hl3 z hz
      obtain ⟨l,hl1,hl2,hl3⟩:=key xs h2
      refine ⟨l,?_,by rw [hl2]; exact of_decide_eq_true h1,hl3⟩
      unfold gh
      rw [hu]
      exact bm.cons (bB.sl hl1) bm.nil
    | _=>cases h
theorem lJ.nil:lJ H P [] (fun _:Unit=>[]) (fun _=>True):=fun _ _ _ _=>⟨(),bm.nil,trivial⟩
theorem lJ.cons {ts:List TypeId} {α β:Type} {f:α→List AV} {wf:α→Prop} {g:β→List AV} {wg:β→Prop} (h:ma H P t f wf) (hs:lJ H P ts g wg):lJ H P (t::ts) (fun x:α×β=>f x.1++g x.2) (fun x=>wf x.1∧wg x.2):=by
  intro n ds hl ha
  cases ds with
  | nil=>simp at hl
  | cons d ds =>
    rw [List.zip_cons_cons,List.all_cons,Bool.and_eq_true] at ha
    obtain ⟨x,h1,h2⟩:=h n d ha.1
    obtain ⟨y,h3,h4⟩:=hs n ds (by simpa using hl) ha.2
    refine ⟨(x,y),?_,h2,h4⟩
    rw [List.zip_cons_cons,List.flatMap_cons]
    exact h1.app h3
theorem ma.struct {fs:Array Field} (hu:P.underlying t=some (.struct fs)) {α:Type} {g:α→List AV} {wg:α→Prop} (h:lJ H P (fs.toList.map (·.type)) g wg):ma H P t g wg:=by
  intro n d hd
  cases n with
  | zero=>cases hd
  | succ n =>
    unfold cU at hd
    rw [hu] at hd
    cases d with
    | agg ds =>
    have hd:(Nat.beq ds.length fs.size&&(fs.toList.zip ds).all fun x=>cU P n x.1.type x.2)=true:=hd
    rw [Bool.and_eq_true] at hd
    obtain ⟨h1,h2⟩:=hd
    have hlen:=Nat.eq_of_beq_eq_true h1
    obtain ⟨x,h3,h4⟩:=h n ds (by simpa using hlen) (by
      rw [List.zip_map_left,List.all_map]
      exact h2)
    refine ⟨x,?_,h4⟩
    unfold gh
    rw [hu]
    dsimp only
    rw [List.zip_map_left,List.flatMap_map] at h3
    exact h3
    | _=>cases hd
theorem ma.conv {α β:Type} {f:α→List AV} {wf:α→Prop} {g:β→List AV} {wg:β→Prop} (h:ma H P t f wf) (φ:α→β) (hf:∀ x,f x=g (φ x)) (hw:∀ x,wf x→wg (φ x)):ma H P t g wg:=fun n d hd=>by
  obtain ⟨x,h1,h2⟩:=h n d hd
  exact ⟨φ x,by rw [← hf]; exact h1,hw x h2⟩
theorem ma.argS {fs:Array Field} (hu:P.underlying t=some (.struct fs)) {α:Type} {f:α→List AV} {wf:α→Prop} (h:ma H P t f wf) {n:Nat} {d:DataW H} (hd:cU P n t d=true):∃ x,bB (nF P n t d) (.agg (f x))∧wf x:=by
  obtain ⟨x,h1,h2⟩:=h n d hd
  refine ⟨x,?_,h2⟩
  unfold nF
  rw [hu]
  exact bB.agg h1
theorem ma.arg1 (hs:j0 P t=false) {α:Type} {f:α→List AV} {wf:α→Prop} {g:α→AV} (h:ma H P t f wf) (hg:∀ x,f x=[g x]) {n:Nat} {d:DataW H} (hd:cU P n t d=true):∃ x,bB (nF P n t d) (g x)∧wf x:=by
  obtain ⟨x,h1,h2⟩:=h n d hd
  refine ⟨x,?_,h2⟩
  rw [hg] at h1
  unfold j0 at hs
  unfold nF
  split
  · rename_i fs hu
    rw [hu] at hs
    cases hs
  · generalize gh P n t d=r at h1
    cases r with
    | nil=>exact absurd h1.1 (by simp)
    | cons a r=>exact h1.2 0 a _ rfl rfl
end
end A
end Go.Proofs.YtnmmknnnggcijaaDoor
