/- The evaluator with answers; contracts out of it. Nothing is claimed here of the program. -/
import Derived.Test.YtomahedcdcnnhaaDoorK6
import Derived.Test.YtomahedcdcnnhaaDoorM0
import Derived.Laws.StructEq
namespace Go.Proofs.YtomahedcdcnnhaaDoor
namespace A
open Go
def fnd {α:Type}:List (Nat×α)→Nat→Option α
 | [],_=>none
 | (d,x)::xs,e=>match Nat.beq d e with | true=>some x | false=>fnd xs e
structure Wk where
 ts:List Nat
 ls:List Nat
 no:Nat
 pr:List (Nat×Nat)
 pl:List (Nat×Nat×Nat)
 fz:List Nat
def wkT (ts:List Nat):Nat→List AV→List AV
 | _,[]=>[]
 | i,x::xs=>(match hasN ts i with | true=>x | false=>.bad)::wkT ts (i + 1) xs
def dropAll:List Nat→St→St
 | [],S=>S
 | d::ds,S=>dropAll ds (dropped d S)
def fromTo:Nat→Nat→List Nat
 | _,0=>[]
 | i,n + 1=>i::fromTo (i + 1) n
def goneR:List Nat→St→St
 | [],S=>S
 | i::is,S=>goneR is (gone i S)
def allDead:List Ob→Bool
 | []=>true
 | .dead::os=>allDead os
 | _=>false
def cutO (n:Nat) (S:St):St :=
 match allDead (S.o.drop n)&&Nat.ble S.b n with
 | true=>{ t:=S.t,l:=S.l,o:=S.o.take n,b:=S.b }
 | false=>S
def promT:List (Nat×Nat)→St→St
 | [],S=>S
 | (d,sz)::ps,S=>match S.t[d]? with
  | some .nilsl=>promT ps { t:=S.t.set d (.mf S.o.length),l:=S.l,o:=S.o++[.arr true sz []],b:=S.b }
  | _=>promT ps S
def promL:List (Nat×Nat×Nat)→St→St
 | [],S=>S
 | (d,j,sz)::ps,S=>match lookL S.l d with
  | some row=>match row[j]? with
   | some .nilsl=>promL ps { t:=S.t,l:=setL S.l d (row.set j (.mf S.o.length)),o:=S.o++[.arr true sz []],b:=S.b }
   | _=>promL ps S
  | none=>promL ps S
def frzT:List Nat→St→St
 | [],S=>S
 | d::ds,S=>match S.t[d]? with
  | some a=>match dfz S.o 6 a with
   | some b=>frzT ds { t:=(goneAll (dids S.o 6 a) S).t.set d b,l:=(goneAll (dids S.o 6 a) S).l,o:=(goneAll (dids S.o 6 a) S).o,b:=(goneAll (dids S.o 6 a) S).b }
   | none=>frzT ds S
  | none=>frzT ds S
def wkS (W:Wk) (S:St):St :=
 promL W.pl (promT W.pr (cutO W.no (goneR (fromTo W.no (S.o.length - W.no)) (dropAll W.ls { t:=wkT W.ts 0 S.t,l:=S.l,o:=S.o,b:=S.b }))))
def wk (W:Wk) (S:St):St:=wkS W (frzT W.fz S)
def LeA (a b:AV):Prop:=∀ E u,VR E a u→VR E b u
def LeR (r r':List AV):Prop:=r.length=r'.length∧∀ (i:Nat) (a b:AV),r[i]?=some a→r'[i]?=some b→LeA a b
def LeRs (r r':List (List AV)):Prop:=r.length=r'.length∧∀ (i:Nat) (a b:List AV),r[i]?=some a→r'[i]?=some b→LeR a b
structure Le where
 ts:List (Nat×AV)
 ls:List (Nat×List AV)
 os:List (Nat×List (List AV))
def wleT:List (Nat×AV)→St→(St→Prop)→Prop
 | [],S,K=>K S
 | (d,v)::xs,S,K=>nthK S.t d fun a=>LeA a v∧setK S.t d v fun t=>wleT xs { t:=t,l:=S.l,o:=S.o,b:=S.b } K
def wleL:List (Nat×List AV)→St→(St→Prop)→Prop
 | [],S,K=>K S
 | (d,r)::xs,S,K=>match lookL S.l d with
  | some row=>LeR row r∧forceLoc (setL S.l d r) fun l=>wleL xs { t:=S.t,l:=l,o:=S.o,b:=S.b } K
  | none=>Fail 450
def wleO:List (Nat×List (List AV))→St→(St→Prop)→Prop
 | [],S,K=>K S
 | (i,R)::xs,S,K=>match S.o[i]? with
  | some (.arr fl sz rows)=>LeRs rows R∧forceO (S.o.set i (.arr fl sz R)) fun o=>wleO xs { t:=S.t,l:=S.l,o:=o,b:=S.b } K
  | _=>Fail 451
def wle (L:Le) (S:St) (K:St→Prop):Prop:=wleT L.ts S fun S=>wleL L.ls S fun S=>wleO L.os S K
structure OAns where
 at_:Option Nat
 row:Option (List (List AV))
 ks:List AV
 cs:List (Option (List (List AV)))
structure RAns where
 dem:List Nat
 chk:List Nat
 row:List (Nat×List AV)
 val:List (Nat×AV)
 call:List (Nat×AV)
 sto:List (Nat×(AV×List Ob))
 obr:List (Nat×(Nat×List (List AV)))
 mpr:List (Nat×List (AV×AV))
 own:List (Nat×OAns)
inductive PT where
 | done
 | go (i:Nat) (t:PT)
 | alt (i:Nat) (t r:PT)
def ptS:List Nat→PT
 | []=>.done
 | i::is=>.go i (ptS is)
def ptL:PT→List Nat
 | .done=>[0]
 | .go i t=>1::i::ptL t
 | .alt i t r=>2::i::(ptL t++ptL r)
def ptEq:PT→PT→Bool
 | .done,.done=>true
 | .go i t,.go j u=>Nat.beq i j&&ptEq t u
 | .alt i t r,.alt j u s=>Nat.beq i j&&(ptEq t u&&ptEq r s)
 | _,_=>false
structure Ans where
 ord:List (Nat×PT)
 reg:List (Nat×RAns)
 wr:List (Nat×Le)
 lps:List (Nat×(Wk×Le×Ex×St))
 cut:List (Nat×(Wk×Le×Ex×St))
def rans (A:Ans) (id:Nat):RAns :=
 match fnd A.reg id with
 | some R=>R
 | none=>⟨[],[],[],[],[],[],[],[],[]⟩
def keyOf (o:Oper):Nat :=
 match o.dst with
 | some d=>d
 | none=>match o.op with
  | .store _ (.tmp t) _=>t + 1000000
  | .mapUpdate _ (.tmp t) _ _=>t + 1000000
  | .insert _ (.tmp t) _ _=>t + 1000000
  | _=>0
def at? (rows:List (List AV)) (i:Int):Option (List AV):=if 0≤i then rows[i.toNat]? else none
def obinC (op:BinOp) (x y:Value) (K:Value→Prop):Prop :=
 match op,x,y with
 | .quo,.int k a,.int k' b=>(decide (k=k')&&!(b==0))=true∧K (.int k (k.wrap (a.tdiv b)))
 | .rem,.int k a,.int k' b=>(decide (k=k')&&!(b==0))=true∧K (.int k (a.tmod b))
 | .shl,.int k a,.int _ b=>decide (0≤b)=true∧K (.int k (k.wrap (a * 2 ^ (min b.toNat k.bits))))
 | .shr,.int k a,.int _ b=>decide (0≤b)=true∧K (.int k (a.fdiv (2 ^ (min b.toNat k.bits))))
 | .add,.string a,.string b=>decide (((a.size + b.size:Nat):Int)≤9223372036854775807)=true∧K (.string (a++b))
 | _,_,_=>Fail 20
def obinK (C:Ctx) (A:RAns) (o:Oper) (op:BinOp) (t:TypeId) (x y:AV) (k:AV→Prop):Prop :=
 match x,y with
 | .v a,.v b=>match aBin op a b with
  | none=>match a,b with
   | .bool x,.bool y=>boolK C.P op t x y k
   | a,b=>obinC op a b fun c=>k (.v c)
  | some c=>k (.v c)
 | .agg as,.agg bs=>match toVs as,toVs bs with
  | some xs,some ys=>match fnd A.val (keyOf o) with
   | some (.v (.bool b))=>aggEq C.P op t xs ys=some (.bool b)∧k (.v (.bool b))
   | _=>Fail 400
  | _,_=>Fail 401
 | _,_=>Fail 402
def oindexK (C:Ctx) (A:RAns) (o:Oper) (t:TypeId) (x ix:AV) (k:AV→Prop):Prop :=
 intOf ix fun i =>
 match C.P.underlying t,x with
 | some .string,.v (.string s)=>match fnd A.val (keyOf o) with
  | some (.v (.int .u8 n))=>(if 0≤i then s[i.toNat]? else none)=some (UInt8.ofNat n.toNat)∧(n=((UInt8.ofNat n.toNat).toNat:Int)∧k (.v (.int .u8 n)))
  | _=>Fail 403
 | some (.array len e),.agg cs=>match C.P.info? e with
  | some inf=>(decide (0≤i)&&decide (i<len))=true∧partK C.P e cs (i.toNat * inf.size) k
  | none=>Fail 404
 | _,_=>Fail 405
def opop (C:Ctx) (A:RAns) (pl:Pol) (o:Oper) (vs:List AV) (k:AV→Prop):Prop :=
 match hasN A.chk (keyOf o) with
 | false=>pop C pl o vs k
 | true=>match o.op,vs with
  | .binOp op t _ _ _,[a,b]=>obinK C A o op t a b k
  | .index t _ _,[a,i]=>oindexK C A o t a i k
  | _,_=>Fail 406
def ocutK (len cap:Nat) (lo hi mx:Option Int) (k:Nat→Nat→Nat→Prop):Prop :=
 match lo,hi,mx with
 | none,none,none=>k 0 len cap
 | some l,none,none=>(decide (0≤l)&&decide (l≤len))=true∧k l.toNat len cap
 | none,some h,none=>(decide (0≤h)&&decide (h≤cap))=true∧k 0 h.toNat cap
 | some l,some h,none=>(decide (0≤l)&&decide (l≤h)&&decide (h≤cap))=true∧k l.toNat h.toNat cap
 | none,some h,some m=>(decide (0≤h)&&decide (h≤m)&&decide (m≤cap))=true∧k 0 h.toNat m.toNat
 | some l,some h,some m=>(decide (0≤l)&&decide (l≤h)&&decide (h≤m)&&decide (m≤cap))=true∧k l.toNat h.toNat m.toNat
 | _,_,_=>Fail 63
def osliceK (C:Ctx) (t:TypeId) (x:AV) (lo hi mx:Option Int) (S:St) (k:AV→Prop):Prop :=
 match C.P.underlying t with
 | some .string =>
  match x,mx with
  | .v (.string s),none=>ocutK s.size s.size lo hi none fun l h _=>k (.v (.string (s.extract l h)))
  | _,_=>Fail 64
 | some (.slice e) =>
  match C.P.info? e with
  | some i=>Chk (Nat.blt 0 i.size) (
   match x with
   | .sl rows=>szOk i.size rows=true∧ocutK rows.length rows.length lo hi mx fun l h _ =>
    match lo,hi,zero? mx&&zero? hi with
    | _,_,true=>k .esl
    | none,none,_=>k (.sl rows)
    | _,none,_=>k (.sl (rows.drop l))
    | none,_,_=>k (.sl (rows.take h))
    | _,_,_=>k (.sl ((rows.drop l).take (h - l)))
   | .mf id=>match S.o[id]? with
    | some (.arr _ sz rows)=>Chk (Nat.beq sz i.size) (ocutK rows.length rows.length lo hi mx fun l h m =>
     match lo,hi,zero? mx&&zero? hi with
     | _,_,true=>k .esl
     | none,none,_=>k (.mf id)
     | _,none,_=>k (.msl id l (rows.length - l) 0)
     | _,_,_=>k (.msl id l (h - l) (m - h)))
    | _=>Fail 65
   | .msl id off len ext=>match S.o[id]? with
    | some (.arr _ sz _)=>Chk (Nat.beq sz i.size) (ocutK len (len + ext) lo hi mx fun l h m =>
     match zero? mx&&zero? hi with
     | true=>k .esl
     | false=>k (.msl id (l + off) (h - l) (m - h)))
    | _=>Fail 66
   | _=>Fail 67)
  | none=>Fail 68
 | _=>Fail 69
def oindexAddrK (C:Ctx) (row:List AV) (t:TypeId) (x ix:AV) (S:St) (k:AV→Prop):Prop :=
 intOf ix fun i =>
 match C.P.underlying t with
 | some (.slice e) =>
  match C.P.info? e with
  | some inf =>
   match x with
   | .sl rows=>at? rows i=some row∧Chk (Nat.beq row.length inf.size&&Nat.blt 0 inf.size) (k (.fptr row 0))
   | .mf id=>match S.o[id]? with
    | some (.arr _ _ rows)=>at? rows i=some row∧Chk (Nat.beq row.length inf.size&&Nat.blt 0 inf.size) (k (.ptr (.O id) i.toNat 0))
    | some (.own none _ cells _)=>Chk (Nat.beq inf.size 1) ((decide (0≤i)&&Nat.blt i.toNat cells.length)=true∧k (.ptr (.O id) i.toNat 0))
    | _=>Fail 72
   | .msl id off len _=>match S.o[id]? with
    | some (.arr _ _ rows)=>(decide (0≤i)&&decide (i<len))=true∧(rows[i.toNat + off]?=some row∧Chk (Nat.beq row.length inf.size&&Nat.blt 0 inf.size) (k (.ptr (.O id) (i.toNat + off) 0)))
    | _=>Fail 74
   | _=>Fail 75
  | none=>Fail 76
 | some (.array len e) =>
  match C.P.info? e with
  | some inf=>(decide (0≤i)&&decide (i<len))=true∧(
   match x with
   | .ptr key a j=>k (.ptr key a (i.toNat * inf.size + j))
   | .fptr row j=>k (.fptr row (i.toNat * inf.size + j))
   | _=>Fail 77)
  | none=>Fail 78
 | _=>Fail 79
def opcallK (C:Ctx) (A:RAns) (o:Oper) (fid:Nat) (as:List AV) (k:AV→Prop):Prop :=
 match fnd A.call (keyOf o) with
 | some r=>(C.pcall fid as fun x=>x=r)∧k r
 | none=>C.pcall fid as k
def orop (C:Ctx) (A:RAns) (o:Oper) (vs:List AV) (M:St) (k:AV→Prop):Prop :=
 match o.op,vs with
 | .load t _,[p]=>match fnd A.row (keyOf o) with
  | some row=>match p with
   | .ptr (.O id) i j=>match M.o[id]? with
    | some (.arr _ _ rows)=>rows[i]?=some row∧partK C.P t row j k
    | _=>Fail 410
   | _=>Fail 411
  | none=>rop C o vs M k
 | .slice t _ lo hi mx,a::rest=>match hasN A.chk (keyOf o) with
  | false=>rop C o vs M k
  | true=>match lo,hi,mx,rest with
   | none,none,none,[]=>osliceK C t a none none none M k
   | some _,none,none,[x]=>intOf x fun x=>osliceK C t a (some x) none none M k
   | none,some _,none,[y]=>intOf y fun y=>osliceK C t a none (some y) none M k
   | some _,some _,none,[x,y]=>intOf x fun x=>intOf y fun y=>osliceK C t a (some x) (some y) none M k
   | none,some _,some _,[y,z]=>intOf y fun y=>intOf z fun z=>osliceK C t a none (some y) (some z) M k
   | some _,some _,some _,[x,y,z]=>intOf x fun x=>intOf y fun y=>intOf z fun z=>osliceK C t a (some x) (some y) (some z) M k
   | _,_,_,_=>Fail 202
 | .indexAddr t _ _,[a,i]=>match fnd A.row (keyOf o) with
  | some row=>oindexAddrK C row t a i M k
  | none=>rop C o vs M k
 | .lookup t _ _ ok,[m,key]=>match fnd A.call (keyOf o) with
  | some a=>match C.P.underlying t,m with
   | some (.map kt e),.mp id=>match M.o[id]? with
    | some (.mapo _ es)=>(∀ k':AV→Prop,k' a→findK C.P kt key es fun _ r=>foundOk C.P e ok es r k')∧k a
    | _=>Fail 412
   | _,_=>Fail 413
  | none=>rop C o vs M k
 | .call c,vs=>match c.callee with
  | .value _=>match vs with
   | .fn fid first cap::as=>Chk (C.pure fid) (dfzsK M.o (first++as++cap) fun bs=>opcallK C A o fid bs fun r=>Chk (scal 4 r||((first++as++cap).flatMap (dids M.o 6)).isEmpty) (k r))
   | _=>Fail 205
  | _=>rop C o vs M k
 | _,_=>rop C o vs M k
def ostoreK (S:St) (row:List AV) (a:AV) (cs:List AV) (K:St→Prop):Prop :=
 match a with
 | .ptr (.O id) i j =>
  match S.o[id]? with
  | some (.arr fl sz rows)=>rows[i]?=some row∧Chk (Nat.ble (j + cs.length) row.length&&cs.all (noL 4)) (forceL (splice row j cs) fun row'=>forceO (S.o.set id (.arr (fl&&cs.all (rfree 4)) sz (rows.set i row'))) fun o=>K { t:=S.t,l:=S.l,o:=o,b:=S.b })
  | _=>Fail 18
 | _=>Fail 19
def owop (C:Ctx) (A:RAns) (o:Oper) (vs:List AV) (M:St) (k:AV→St→Prop):Prop :=
 match fnd A.row (keyOf o) with
 | none=>wop C o vs M k
 | some row=>match o.op,vs with
  | .store t _ _,[p,y]=>match p with
   | .ptr (.O _) _ _=>cellsK y fun cs=>match C.P.info? t with
    | some i=>Chk (Nat.beq cs.length i.size) (ostoreK M row p cs fun M'=>k .bad M')
    | none=>Fail 208
   | _=>wop C o vs M k
  | _,_=>wop C o vs M k
def orowsK (size:Nat) (S:St) (x:AV) (k:Bool→List (List AV)→Prop):Prop :=
 match x with
 | .nilsl | .esl=>k true []
 | .sl rows=>szOk size rows=true∧k true rows
 | .mf id=>match S.o[id]? with | some (.arr fl sz rows)=>Chk (Nat.beq sz size) (k fl rows) | _=>Fail 45
 | .msl id off len _=>match S.o[id]? with | some (.arr fl sz rows)=>Chk (Nat.beq sz size) (k fl ((rows.drop off).take len)) | _=>Fail 46
 | .v (.string s)=>Chk (Nat.beq size 1) (k true (s.data.toList.map fun b=>[.v (.int .u8 b.toNat)]))
 | _=>Fail 47
def oappendK (P:Program) (ts:List TypeId) (base x:AV) (S:St) (k:St→AV→Prop):Prop :=
 match ts with
 | [t0,t1] =>
  match P.underlying t0 with
  | some (.slice e) =>
   match P.info? e with
   | some i=>Chk (Nat.blt 0 i.size&&Nat.blt 0 i.bytes&&zOk i&&(match P.underlying t1 with | some (.slice _) | some .string=>true | _=>false)) (orowsK i.size S x fun fl src=>okRows src=true∧(
     match base with
     | .nilsl | .esl=>Nat.ble (src.length * i.bytes) 140737488355328=true∧(forceO (S.o++[.arr fl i.size src]) fun o=>k { t:=S.t,l:=S.l,o:=o,b:=S.b } (.mf S.o.length))
     | .mf id=>match S.o[id]? with
      | some (.arr fl' sz rows)=>Chk (Nat.beq sz i.size&&(fl||!fl')) (Nat.ble ((rows.length + src.length) * i.bytes) 140737488355328=true∧growK S id (.arr (fl'&&fl) sz (rows++src)) fun S' id'=>k S' (.mf id'))
      | _=>Fail 48
     | .msl id off len ext=>match S.o[id]? with
      | some (.arr fl' sz rows)=>Chk (Nat.beq sz i.size&&(fl||!fl')) (Nat.ble src.length ext=true∧(Nat.ble (off + len + ext) rows.length=true ∧
        forceO (S.o.set id (.arr (fl'&&fl) sz (rows.take (off + len)++(src++rows.drop (off + len + src.length))))) fun o=>k { t:=S.t,l:=S.l,o:=o,b:=S.b } (.msl id off (len + src.length) (ext - src.length))))
      | _=>Fail 49
     | _=>Fail 50))
   | none=>Fail 51
  | _=>Fail 52
 | _=>Fail 53
def oappendFK (P:Program) (ts:List TypeId) (base x:AV) (k:AV→Prop):Prop :=
 match ts with
 | [t0,t1] =>
  match P.underlying t0 with
  | some (.slice e) =>
   match P.info? e with
   | some i=>Chk (Nat.blt 0 i.size&&Nat.blt 0 i.bytes&&zOk i&&(match P.underlying t1 with | some (.slice _) | some .string=>true | _=>false)) (orowsK i.size emp x fun fl src=>Chk fl (okRows src=true∧(Nat.ble (src.length * i.bytes) 140737488355328=true∧(
     match base with
     | .nilsl | .esl=>k (.sl src)
     | _=>Fail 254))))
   | none=>Fail 255
  | _=>Fail 256
 | _=>Fail 257
def ofop (C:Ctx) (o:Oper) (vs:List AV) (k:AV→Prop):Prop :=
 match o.op,vs with
 | .call c,[x,y]=>match c.callee with
  | .builtin .append=>oappendFK C.P c.argTypes.toList x y k
  | _=>Fail 258
 | _,_=>Fail 259
def oappendZK (P:Program) (ts:List TypeId) (base:AV) (n:Int) (S:St) (k:St→AV→Prop):Prop :=
 match ts with
 | [t0,t1] =>
  match P.underlying t0,P.underlying t1 with
  | some (.slice e),some (.int _) =>
   match P.info? e with
   | some i=>(Nat.blt 0 i.size&&Nat.blt 0 i.bytes&&decide (0<n)&&decide (n * i.bytes≤140737488355328)&&decide (n≤140737488355328))=true∧(zeroRow P e fun z=>Chk (z.all (rfree 2)) (
     match base with
     | .nilsl | .esl=>forceO (S.o++[.arr true i.size (List.replicate n.toNat z)]) fun o=>k { t:=S.t,l:=S.l,o:=o,b:=S.b } (.mf S.o.length)
     | _=>Fail 250))
   | none=>Fail 251
  | _,_=>Fail 252
 | _=>Fail 253
def omakeSliceK (P:Program) (t:TypeId) (l c:AV) (S:St) (k:St→AV→Prop):Prop :=
 match P.underlying t with
 | some (.slice e) =>
  match P.info? e with
  | some i=>intOf l fun l=>intOf c fun c=>(decide (0≤l)&&decide (l≤c)&&decide (i.bytes * c≤140737488355328)&&decide (c≤140737488355328)&&Nat.blt 0 i.size)=true ∧
    (zeroRow P e fun z=>Chk (z.all (rfree 2)) (forceO (S.o++[.arr true i.size (List.replicate l.toNat z)]) fun o=>k { t:=S.t,l:=S.l,o:=o,b:=S.b } (.mf S.o.length)))
  | none=>Fail 61
 | _=>Fail 62
def ocopyK (P:Program) (ts:List TypeId) (x y:AV) (M:St) (k:AV→St→Prop):Prop :=
 match ts with
 | t::_ =>
  match P.underlying t with
  | some (.slice e) =>
   match P.info? e with
   | some i=>Chk (Nat.blt 0 i.size) (orowsK i.size M y fun fl src=>okRows src=true∧Chk (!(isV y)) (
     match x with
     | .mf id=>match M.o[id]? with
      | some (.arr fl' sz rows)=>Chk (Nat.beq sz i.size) (forceO (M.o.set id (.arr (fl'&&fl) sz (src.take rows.length++rows.drop src.length))) fun o=>k (.v (.int .i64 ((min src.length rows.length:Nat):Int))) { t:=M.t,l:=M.l,o:=o,b:=M.b })
      | _=>Fail 243
     | .msl id off len _=>match M.o[id]? with
      | some (.arr fl' sz rows)=>Chk (Nat.beq sz i.size) (Nat.ble (off + len) rows.length=true∧(forceO (M.o.set id (.arr (fl'&&fl) sz (rows.take off++(src.take len++rows.drop (off + min src.length len))))) fun o=>k (.v (.int .i64 ((min src.length len:Nat):Int))) { t:=M.t,l:=M.l,o:=o,b:=M.b }))
      | _=>Fail 244
     | _=>Fail 245))
   | none=>Fail 246
  | _=>Fail 247
 | []=>Fail 248
def ocallK (C:Ctx) (A:RAns) (o:Oper) (f:AV) (args:List AV) (S:St) (k:St→AV→Prop):Prop :=
 match f with
 | .fn fid first cap =>
  match C.pure fid with
  | true=>dfzsK S.o (first++args++cap) fun as=>opcallK C A o fid as fun r =>
    match scal 4 r with
    | true=>k S r
    | false=>killIds ((first++args++cap).flatMap (dids S.o 6)) S fun S'=>k S' r
  | false=>Chk ((first++args++cap).all (noL 4)) (match fnd A.sto (keyOf o) with
   | some (r,o')=>(C.scall fid (first++args++cap) S.o fun r' o''=>r'=r∧o''=o')∧killTL (deadNow S.o o' 0) S.t S.l fun t l=>k { t:=t,l:=l,o:=o',b:=S.b } r
   | none=>C.scall fid (first++args++cap) S.o fun r o'=>killTL (deadNow S.o o' 0) S.t S.l fun t l=>k { t:=t,l:=l,o:=o',b:=S.b } r)
 | _=>Fail 97
def omapUpdateK (P:Program) (R:List (AV×AV)) (t:TypeId) (m key x:AV) (S:St) (K:St→Prop):Prop :=
 match P.underlying t with
 | some (.map kt _) =>
  match m with
  | .mp id=>match S.o[id]? with
   | some (.mapo fl es)=>Chk (noL 4 x) ((∀ K':List (AV×AV)→Prop,K' R→findK P kt key es fun kv r=>Chk (ckOk P kt kv) (
     match r with
     | some i=>Chk (Instr.sameBits 10000 ((es[i]?.bind fun e=>toK e.1).getD (.bool false)) kv) (K' (es.set i (key,x)))
     | none=>K' (es++[(key,x)])))∧forceO (S.o.set id (.mapo (fl&&rfree 4 x) R)) fun o=>K { t:=S.t,l:=S.l,o:=o,b:=S.b })
   | _=>Fail 106
  | _=>Fail 107
 | _=>Fail 108
def oxop (C:Ctx) (A:RAns) (pl:Pol) (o:Oper) (S:St) (K:St→Prop):Prop :=
 match o.op with
 | .mapUpdate t m key x=>match fnd A.mpr (keyOf o) with
  | some R=>getK S m fun m=>getK S key fun key=>getK S x fun x=>omapUpdateK C.P R t m key x S fun S'=>putK o.dst .bad S' K
  | none=>xop C pl o S K
 | .insert t m key x=>match fnd A.mpr (keyOf o) with
  | some R=>getK S m fun m=>getK S key fun key=>getK S x fun x=>omapUpdateK C.P R t m key x S fun S'=>putK o.dst .bad S' K
  | none=>xop C pl o S K
 | .makeSlice t l c=>match hasN A.chk (keyOf o) with
  | true=>getK S l fun l=>getK S c fun c=>omakeSliceK C.P t l c S fun S' a=>putK o.dst a S' K
  | false=>xop C pl o S K
 | .call c=>match c.callee with
  | .builtin .append=>match hasN A.chk (keyOf o) with
   | true=>getsK S c.args.toList fun as=>match as with
    | [x,.v (.int _ n)]=>oappendZK C.P c.argTypes.toList x n S fun S' r=>putK o.dst r S' K
    | [x,y]=>oappendK C.P c.argTypes.toList x y S fun S' r=>putK o.dst r S' K
    | _=>Fail 210
   | false=>xop C pl o S K
  | .builtin .copy=>getsK S c.args.toList fun as=>match as with
    | [x,y]=>ocopyK C.P c.argTypes.toList x y S fun r S'=>putK o.dst r S' K
    | _=>Fail 249
  | .value f=>getK S f fun fv=>getsK S c.args.toList fun as=>ocallK C A o fv as S fun S' r=>putK o.dst r S' K
  | _=>xop C pl o S K
 | _=>xop C pl o S K
def ovalK (A:RAns) (dst:Option Tmp) (S:St) (K:St→Prop):Prop :=
 match dst with
 | none=>K S
 | some d=>match fnd A.val d with
  | none=>K S
  | some v=>nthK S.t d fun a=>a=v∧setK S.t d v fun t=>K { t:=t,l:=S.l,o:=S.o,b:=S.b }
def oobrK (A:RAns) (key:Nat) (S:St) (K:St→Prop):Prop :=
 match fnd A.obr key with
 | none=>K S
 | some (id,R)=>match S.o[id]? with
  | some (.arr fl sz rows)=>rows=R∧forceO (S.o.set id (.arr fl sz R)) fun o=>K { t:=S.t,l:=S.l,o:=o,b:=S.b }
  | _=>Fail 430
def opop1 (C:Ctx) (A:RAns) (pl:Pol) (o:Oper) (S:St) (K:St→Prop):Prop :=
 getsK S o.op.operands.toList fun vs=>opop C A pl o vs fun r=>putK o.dst r S K
def orop1 (C:Ctx) (A:RAns) (o:Oper) (S:St) (K:St→Prop):Prop :=
 getsK S o.op.operands.toList fun vs=>orop C A o vs (memOf S) fun r=>putK o.dst r S K
def owop1 (C:Ctx) (A:RAns) (o:Oper) (S:St) (K:St→Prop):Prop :=
 getsK S o.op.operands.toList fun vs=>owop C A o vs (memOf S) fun r M=>putK o.dst r (withM S M) K
def oownTakeK (row:Option (List (List AV))) (M:St) (id i:Nat) (k:AV→St→Prop):Prop :=
 match M.o[id]? with
 | some (.own ks sz cells none)=>match row with
  | none=>cells[i]?=some none∧k .nilsl M
  | some rows=>cells[i]?=some (some rows)∧forceO (M.o.set id (.own ks sz cells (some (i,.mf M.o.length)))++[.arr true sz rows]) fun o=>k (.mf M.o.length) { t:=M.t,l:=M.l,o:=o,b:=M.b }
 | _=>Fail 323
def oownLoadK (P:Program) (a:OAns) (t:TypeId) (same:Bool) (M:St) (id i:Nat) (k:AV→St→Prop):Prop :=
 match same with
 | true=>match M.o[id]? with
  | some (.own none _ cells (some (j,a)))=>(Nat.beq i j&&Nat.blt j cells.length)=true∧partK P t [a] 0 fun r=>k r M
  | _=>Fail 324
 | false=>oownTakeK a.row M id i fun a M'=>partK P t [a] 0 fun r=>k r M'
def oownStoreK (P:Program) (t:TypeId) (M:St) (id i:Nat) (v:AV) (K:St→Prop):Prop :=
 match P.info? t,M.o[id]? with
 | some inf,some (.own none sz cells hole)=>Chk (slOnly v&&Nat.beq inf.size 1) ((Nat.blt i cells.length&&holeIs hole i)=true∧(forceO (M.o.set id (.own none sz cells (some (i,v)))) fun o=>K { t:=M.t,l:=M.l,o:=o,b:=M.b }))
 | _,_=>Fail 325
def omakeOwnK (P:Program) (a:OAns) (t:TypeId) (l c:AV) (M:St) (k:AV→St→Prop):Prop :=
 match P.underlying t with
 | some (.slice e) =>
  match P.info? e,P.underlying e with
  | some i,some (.slice e2)=>match P.info? e2 with
   | some i2=>intOf l fun l=>intOf c fun c=>(decide (0≤l)&&decide (l≤c)&&decide (i.bytes * c≤140737488355328)&&decide (c≤140737488355328)&&Nat.blt 0 i.size)=true∧Chk (Nat.beq i.size 1&&Nat.blt 0 i2.size)
     (zeroRow P e fun z=>match z with
      | [.nilsl]=>List.replicate l.toNat none=a.cs∧forceO (M.o++[.own none i2.size a.cs none]) fun o=>k (.mf M.o.length) { t:=M.t,l:=M.l,o:=o,b:=M.b }
      | _=>Fail 325)
   | none=>Fail 326
  | _,_=>Fail 61
 | _=>Fail 62
def oownLookK (P:Program) (a:OAns) (t:TypeId) (m key:AV) (ok:Bool) (M:St) (k:AV→St→Prop):Prop :=
 match P.underlying t with
 | some (.map kt e)=>match m with
  | .mp id=>match M.o[id]? with
   | some (.own (some ks) _ _ none)=>match a.at_ with
    | some i=>(∀ K':Option Nat→Prop,K' (some i)→findK P kt key (keyEs ks) fun _ r=>K' r)∧oownTakeK a.row M id i fun a M'=>retOk ok a true fun r=>k r M'
    | none=>(∀ K':Option Nat→Prop,K' none→findK P kt key (keyEs ks) fun _ r=>K' r)∧zeroOk P e ok fun r=>k r M
   | _=>Fail 333
  | _=>Fail 334
 | _=>Fail 335
def updK (M:St) (id sz:Nat) (cells:List (Option (List (List AV)))) (hole:Option (Nat×AV)) (x:AV) (K:St→Prop) (r:Option Nat) (ks:List AV):Prop :=
 match r with
 | some i=>holeIs hole i=true∧(forceO (M.o.set id (.own (some ks) sz cells (some (i,x)))) fun o=>K { t:=M.t,l:=M.l,o:=o,b:=M.b })
 | none=>match hole with
  | none=>forceO (M.o.set id (.own (some ks) sz (cells++[none]) (some (cells.length,x)))) fun o=>K { t:=M.t,l:=M.l,o:=o,b:=M.b }
  | some _=>Fail 339
def oownUpdK (P:Program) (a:OAns) (t:TypeId) (m key x:AV) (M:St) (K:St→Prop):Prop :=
 match P.underlying t with
 | some (.map kt _)=>match m with
  | .mp id=>match M.o[id]? with
   | some (.own (some ks) sz cells hole)=>Chk (slOnly x) ((∀ K':Option Nat→List AV→Prop,K' a.at_ a.ks→findK P kt key (keyEs ks) fun kv r=>Chk (ckOk P kt kv) (match r with
     | some i=>Chk (Instr.sameBits 10000 ((ks[i]?.bind toK).getD (.bool false)) kv) (K' (some i) (ks.set i key))
     | none=>K' none (ks++[key])))∧updK M id sz cells hole x K a.at_ a.ks)
   | _=>Fail 340
  | _=>Fail 341
 | _=>Fail 342
def oownD (P:Program) (A:RAns) (pl:Pol) (o:Oper) (vs:List AV) (M:St) (k:AV→St→Prop):Prop :=
 match fnd A.own (keyOf o) with
 | none=>ownD P pl o vs M k
 | some a=>match o.op,vs with
  | .load t _,[p]=>ownAtK M p fun id i=>oownLoadK P a t (ownSame pl o) M id i k
  | .store t _ _,[p,v]=>ownAtK M p fun id i=>oownStoreK P t M id i v fun M'=>k .bad M'
  | .makeSlice t _ _,[l,c]=>omakeOwnK P a t l c M k
  | .lookup t _ _ ok,[m,key]=>oownLookK P a t m key ok M k
  | .mapUpdate t _ _ _,[m,key,x]=>oownUpdK P a t m key x M fun M'=>k .bad M'
  | .insert t _ _ _,[m,key,x]=>oownUpdK P a t m key x M fun M'=>k .bad M'
  | _,_=>Fail 343
def oputBackK (A:RAns) (S:St) (id:Nat) (K:St→Prop):Prop :=
 match fnd A.own (id + 2000000) with
 | none=>putBackK S id K
 | some a=>match S.o[id]? with
  | some (.own ks sz cells (some (j,.mf k)))=>match S.o[k]? with
   | some (.arr true sz' rows)=>Chk (Nat.beq sz' sz) (Nat.blt j cells.length=true∧(cells.set j (some rows)=a.cs∧killIds [k] S fun S1=>forceO (S1.o.set id (.own ks sz a.cs none)) fun o=>K { t:=S1.t,l:=S1.l,o:=o,b:=S1.b }))
   | _=>Fail 320
  | some (.own ks sz cells (some (j,.nilsl)))=>Nat.blt j cells.length=true∧(cells.set j none=a.cs∧(forceO (S.o.set id (.own ks sz a.cs none)) fun o=>K { t:=S.t,l:=S.l,o:=o,b:=S.b }))
  | _=>Fail 321
def oclosesK (A:RAns):List Nat→St→(St→Prop)→Prop
 | [],S,K=>K S
 | id::ids,S,K=>oputBackK A S id fun S'=>oclosesK A ids S' K
def ofreezeK (A:RAns) (S:St) (id:Nat) (K:St→Prop):Prop :=
 match fnd A.mpr (id + 2000000) with
 | none=>freezeK S id K
 | some R=>match S.o[id]? with
  | some (.own (some ks) _ cells none)=>zipKV ks cells=R∧(forceO (S.o.set id (.mapo true R)) fun o=>K { t:=S.t,l:=S.l,o:=o,b:=S.b })
  | _=>Fail 344
def ofreezesK (A:RAns):List Nat→St→(St→Prop)→Prop
 | [],S,K=>K S
 | id::ids,S,K=>ofreezeK A S id fun S'=>ofreezesK A ids S' K
def opostR (A:RAns) (pl:Pol) (id:Nat) (S:St) (K:St→Prop):Prop :=
 match hasN pl.cl id with
 | false=>K S
 | true=>oclosesK A (upTo S.o.length) S fun S1=>match hasN pl.fr id with
  | false=>K S1
  | true=>ofreezesK A (upTo S1.o.length) S1 K
def owopD0 (C:Ctx) (A:RAns) (o:Oper) (vs:List AV) (M:St) (k:AV→St→Prop):Prop :=
 match o.op,vs with
 | .makeSlice t _ _,[l,c]=>match hasN A.chk (keyOf o) with
  | true=>omakeSliceK C.P t l c M fun M' r=>k r M'
  | false=>wopD0 C o vs M k
 | .call c,.fn fid first cap::as=>match c.callee with
  | .value _=>Chk (!(C.pure fid)&&(first++as++cap).all (noL 4)) (match fnd A.sto (keyOf o) with
   | some (r,o')=>(C.scall fid (first++as++cap) M.o fun r' o''=>r'=r∧o''=o')∧Chk (deadNow M.o o' 0).isEmpty (k r { t:=M.t,l:=M.l,o:=o',b:=M.b })
   | none=>C.scall fid (first++as++cap) M.o fun r o'=>Chk (deadNow M.o o' 0).isEmpty (k r { t:=M.t,l:=M.l,o:=o',b:=M.b }))
  | _=>Fail 310
 | _,_=>owop C A o vs M k
def owopD (C:Ctx) (A:RAns) (pl:Pol) (o:Oper) (vs:List AV) (M:St) (k:AV→St→Prop):Prop :=
 match ownOp pl o with
 | true=>oownD C.P A pl o vs M k
 | false=>owopD0 C A o vs M k
def oown1 (C:Ctx) (A:RAns) (pl:Pol) (o:Oper) (S:St) (K:St→Prop):Prop :=
 getsK S o.op.operands.toList fun vs=>oownD C.P A pl o vs (memOf S) fun r M=>putK o.dst r (withM S M) K
def owop1D (C:Ctx) (A:RAns) (pl:Pol) (o:Oper) (S:St) (K:St→Prop):Prop :=
 getsK S o.op.operands.toList fun vs=>owopD C A pl o vs (memOf S) fun r M=>putK o.dst r (withM S M) K
def ofop1 (C:Ctx) (o:Oper) (S:St) (K:St→Prop):Prop :=
 getsK S o.op.operands.toList fun vs=>ofop C o vs fun r=>putK o.dst r S K
def oaft (A:RAns) (o:Oper) (K:St→Prop) (S:St):Prop:=ovalK A o.dst S fun S'=>oobrK A (keyOf o) S' K
def oop0 (C:Ctx) (A:RAns) (pl:Pol) (o:Oper) (S:St) (K:St→Prop):Prop :=
 match cls o with
 | 0=>opop1 C A pl o S (oaft A o K)
 | 1=>orop1 C A o S (oaft A o K)
 | 2=>owop1 C A o S (oaft A o K)
 | _=>oxop C A pl o S (oaft A o K)
def oop (C:Ctx) (A:RAns) (pl:Pol) (o:Oper) (S:St) (K:St→Prop):Prop :=
 match ownOp pl o with
 | true=>oown1 C A pl o S (oaft A o K)
 | false=>oop0 C A pl o S K
def odop (C:Ctx) (A:RAns) (pl:Pol) (o:Oper) (S:St) (K:St→Prop):Prop :=
 match clsD pl o with
 | 0=>opop1 C A pl o S (oaft A o K)
 | 1=>orop1 C A o S (oaft A o K)
 | 2=>owop1D C A pl o S (oaft A o K)
 | 4=>match o.dst with
  | some d=>putK o.dst (.ptr (.L d) 0 0) S K
  | none=>Fail 217
 | 5=>ofop1 C o S (oaft A o K)
 | _=>match isBox pl o with
  | true=>Fail 219
  | false=>oxop C A pl o S (oaft A o K)
def eqOp (op:BinOp):Bool :=
 match op with
 | .eql | .neq=>true
 | _=>false
def isEql (op:BinOp):Bool :=
 match op with
 | .eql=>true
 | _=>false
def odemK (P:Program) (o:Oper) (S:St) (K:St→Prop):Prop :=
 match o.op with
 | .binOp op t x (.const (.slice none 0 0)) _=>match P.underlying t with
  | some (.slice _)=>getK S x fun a=>match a with
   | .sl rows=>Chk (eqOp op) ((rows=[]→putK o.dst (.v (.bool (isEql op))) S K)∧putK o.dst (.v (.bool (!(isEql op)))) S K)
   | _=>Fail 460
  | _=>Fail 461
 | _=>Fail 462
def oops (C:Ctx) (A:RAns) (pl:Pol) (all:Array Oper):List Oper→St→(St→Prop)→Prop
 | [],S,K=>K S
 | o::rest,S,K =>
  match o.guard with
  | none=>match hasN A.dem (keyOf o) with
   | true=>odemK C.P o S fun S'=>oops C A pl all rest S' K
   | false=>oop C A pl o S fun S'=>oops C A pl all rest S' K
  | some (j,want) =>
   match dstOf all j with
   | none=>Fail 218
   | some d=>guardAt d S fun b S1=>gsel b want (oop C A pl o S1 fun S'=>oops C A pl all rest S' K) (putK o.dst (.tup []) S1 fun S'=>oops C A pl all rest S' K)
def oag (C:Ctx) (A:RAns) (pl:Pol) (all:Array Oper) (o:Oper) (S:St) (K:St→Prop):Prop :=
 match o.guard with
 | none=>Chk (keyChk pl all o S) (odop C A pl o S K)
 | some (j,want) =>
  match dstOf all j with
  | none=>Fail 218
  | some d=>guardAt d S fun b S1=>gsel b want (Chk (keyChk pl all o S1) (odop C A pl o S1 K)) (putK o.dst (.tup []) S1 K)
def ogo (C:Ctx) (A:RAns) (pl:Pol) (ops:Array Oper) (i:Nat) (S:St) (K:St→Prop):Prop :=
 match ops[i]? with
 | none=>Fail 303
 | some o=>oag C A pl ops o S K
def oT (C:Ctx) (A:RAns) (pl:Pol) (ops:Array Oper):PT→Option (St×Prop)→St→(St→Prop)→Prop
 | .done,m,S,K=>match m with
  | none=>K S
  | some (_,X)=>X
 | .go i t,m,S,K=>match m with
  | none=>ogo C A pl ops i S fun S'=>oT C A pl ops t none S' K
  | some (_,_)=>Fail 305
 | .alt i t r,m,S,K=>match m with
  | none=>ogo C A pl ops i S fun S'=>oT C A pl ops t none S' fun S1=>oT C A pl ops r (some (S1,K S1)) S K
  | some (S1,X)=>ogo C A pl ops i S fun S'=>oT C A pl ops t none S' fun S2=>S2=S1∧oT C A pl ops r (some (S1,X)) S K
def planL (f:Nat→Option PT):List Nat→Option PT
 | []=>some .done
 | i::is=>match f i with
  | some t=>match planL f is with
   | some r=>some (.alt i t r)
   | none=>none
  | none=>none
def few:List Nat→Bool
 | [_,_] | [_,_,_] | [_,_,_,_]=>true
 | _=>false
def planF (pl:Pol) (ops:Array Oper) (ws:List Nat):Nat→Nat→Array Bool→Option PT
 | 0,_,listed=>match Region.ready .any ops listed with
  | []=>some .done
  | _::_=>none
 | n + 1,a,listed =>
  match Region.ready .any ops listed with
  | []=>some .done
  | r::rs=>match pickFree pl ops ws listed (r::rs) with
   | some k=>match planF pl ops ws n a (listed.setIfInBounds k true) with | some t=>some (.go k t) | none=>none
   | none=>match rs with
    | []=>match planF pl ops ws n a (listed.setIfInBounds r true) with | some t=>some (.go r t) | none=>none
    | _::_=>match few (r::rs),a with
     | true,a + 1=>planL (fun i=>planF pl ops ws n a (listed.setIfInBounds i true)) (r::rs)
     | _,_=>none
def planP (pl:Pol) (ops:Array Oper) (ws:List Nat):Nat→Array Bool→Option PT
 | 0,listed=>planF pl ops ws 0 6 listed
 | n + 1,listed=>match pickPure ops listed (Region.ready .any ops listed) with
  | some i=>match planP pl ops ws n (listed.setIfInBounds i true) with | some t=>some (.go i t) | none=>none
  | none=>planF pl ops ws (n + 1) 6 listed
def planOf (pl:Pol) (ops:Array Oper):Option PT :=
 match ndB ops with
 | false=>none
 | true=>match pl.cl with
  | []=>planF pl ops (waitSets ops.toList []) ops.size 3 (Array.replicate ops.size false)
  | _::_=>planP pl ops (waitSets ops.toList []) ops.size (Array.replicate ops.size false)
def planN (pl:Pol) (ops:Array Oper):Option (List Nat) :=
 match planOf pl ops with
 | some t=>some (ptL t)
 | none=>none
def ordB (pl:Pol) (ord:List (Nat×PT)):Code→Bool
 | .region id ops true=>match fnd ord id,planOf pl ops with
  | some is,some js=>ptEq is js
  | _,_=>false
 | .seq a b=>ordB pl ord a&&ordB pl ord b
 | .cond _ a b=>ordB pl ord a&&ordB pl ord b
 | .block _ c=>ordB pl ord c
 | .loop c=>ordB pl ord c
 | _=>true
def regOf:Code→Nat
 | .region id _ _=>id
 | .seq a _=>regOf a
 | .cond _ a _=>regOf a
 | .block _ c=>regOf c
 | .loop c=>regOf c
 | _=>0
def aftR (A:Ans) (id:Nat) (S:St) (K:St→Prop):Prop :=
 match fnd A.wr id with
 | some L=>wle L S K
 | none=>K S
def CutP:Type:=Code→St→(Ex→St→Prop)→Prop
def ocode (C:Ctx) (cd:CutP) (A:Ans) (pl:Pol):Code→St→(Ex→St→Prop)→Prop
 | .skip,S,K=>K .nrm S
 | .region id ops draw,S,K =>
  match draw with
  | false=>oops C (rans A id) pl ops ops.toList S fun S'=>opostR (rans A id) pl id S' fun S''=>aftR A id S'' (K .nrm)
  | true=>match fnd A.ord id with
   | some is=>Chk (drawB pl ops) (preK C.P (allocs ops.toList) S fun S1=>oT C (rans A id) pl ops is none S1 fun S'=>postK (allocs ops.toList) S' (opostR (rans A id) pl id S' fun S''=>aftR A id S'' (K .nrm)))
   | none=>Fail 440
 | .seq a b,S,K=>ocode C cd A pl a S fun e S'=>match e with
  | .nrm=>match fnd A.cut (regOf b) with
   | some (W,L,e1,S1)=>wle L (wk W S') fun S2=>cd b S2 (fun e' S3=>e'=e1∧S3=S1)∧K e1 S1
   | none=>ocode C cd A pl b S' K
  | .ex i=>K (.ex i) S'
  | .ret=>K .ret S'
 | .cond c x y,S,K=>boolOf c S fun b S'=>match b with
  | true=>ocode C cd A pl x S' K
  | false=>ocode C cd A pl y S' K
 | .block id c,S,K=>ocode C cd A pl c S fun e S'=>match e with
  | .ex i=>match Nat.beq i id with | true=>K .nrm S' | false=>K (.ex i) S'
  | .nrm=>K .nrm S'
  | .ret=>K .ret S'
 | .loop c,S,K=>match fnd A.lps (regOf c) with
  | some (W,L,e,S1)=>wle L (wk W S) fun S2=>(C.loop pl c S2 fun e' S'=>e'=e∧S'=S1)∧K e S1
  | none=>C.loop pl c S K
 | .exit id,S,K=>K (.ex id) S
 | .ret,S,K=>K .ret S
 | _,_,_=>Fail 119
def sub:Code→List Nat→Code
 | c,[]=>c
 | .seq a _,0::p=>sub a p
 | .seq _ b,_::p=>sub b p
 | .cond _ a _,0::p=>sub a p
 | .cond _ _ b,_::p=>sub b p
 | .block _ c,_::p=>sub c p
 | .loop c,_::p=>sub c p
 | c,_=>c
def bodyOf (P:Program) (f:Nat):Code :=
 match P.funcs[f]? with
 | some fn=>fn.body.getD .skip
 | none=>.skip
def obody (C:Ctx) (cd:CutP) (A:Ans) (f:Nat) (args:List AV) (o:List Ob) (K:AV→St→Prop):Prop :=
 match C.P.funcs[f]? with
 | some fn=>match fn.body with
  | some c=>ocode C cd A (C.pol f) c { t:=args++bads (fn.ntmps - args.length),l:=[],o:=o,b:=o.length } fun e S =>
    match e with
    | .ex _=>Fail 120
    | _=>resK C.P S fn.results.toList fun rs=>tupK rs fun r=>K r S
  | none=>Fail 121
 | none=>Fail 122
def opure (C:Ctx) (cd:CutP) (A:Ans) (f:Nat) (args:List AV) (K:AV→Prop):Prop :=
 obody C cd A f args [] fun r S=>dfzK S.o r K
def ostore (C:Ctx) (cd:CutP) (A:Ans) (f:Nat) (args:List AV) (o:List Ob) (K:AV→List Ob→Prop):Prop :=
 obody C cd A f args o fun r S=>Chk (noL 4 r&&Nat.beq S.b o.length) (K r S.o)
def WeakS (S S':St):Prop:=∀ (G:Gh) (E:Env) (a:Act) (w:World),SimM G pn E S w→TR E S.t a→∃ E',SimM G pn E' S' w∧TR E' S'.t a
def exCode:Ex→Nat
 | .nrm=>0
 | .ret=>1
 | .ex i=>i + 2
def oround (C:Ctx) (cd:CutP) (A:Ans) (pl:Pol) (we:List (Nat×(Wk×Le))) (c:Code) (S:St) (K:Ex→St→Prop):Prop :=
 ocode C cd A pl c S fun e S'=>match fnd we (exCode e) with
  | some (W,L)=>wle L (wk W S') (K e)
  | none=>K e S'
def putAll:List (Nat×AV)→List AV→List AV
 | [],t=>t
 | (d,a)::xs,t=>putAll xs (t.set d a)
def mkT:List (Nat×AV)→Nat→Nat→List AV
 | _,_,0=>[]
 | xs,i,n + 1=>(match fnd xs i with | some a=>a | none=>.bad)::mkT xs (i + 1) n
def mkS (n:Nat) (ts:List (Nat×AV)) (l:List (Nat×List AV)) (o:List Ob) (b:Nat):St:={ t:=mkT ts 0 n,l:=l,o:=o,b:=b }
theorem WeakS.refl (S:St):WeakS S S:=fun _ E _ _ h k=>⟨E,h,k⟩
theorem WeakS.trans {S S' S'':St} (h:WeakS S S') (k:WeakS S' S''):WeakS S S'':=fun G E a w hM ht=>by
 obtain ⟨E1,h1,h2⟩:=h G E a w hM ht
 exact k G E1 a w h1 h2
theorem LeA.refl (a:AV):LeA a a:=fun _ _ h=>h
theorem LeA.ofEq {a b:AV} (h:a=b):LeA a b:=by rw [h]; exact .refl _
theorem LeA.trans {a b c:AV} (h:LeA a b) (k:LeA b c):LeA a c:=fun _ _ hv=>k _ _ (h _ _ hv)
theorem LeA.bad (a:AV):LeA a .bad:=fun _ _ _=>.bad _ _
theorem LeA.nil:LeA .nilsl (.sl []):=fun E u h=>by cases h; exact .sln E
theorem LeA.esl:LeA .esl (.sl []):=fun E u h=>by
 cases h with
 | esln=>exact .sln E
 | esl _ a=>exact .sle E a 0
theorem LeR.refl (r:List AV):LeR r r:=⟨rfl,fun _ _ _ h k=>by rw [h] at k; cases k; exact .refl _⟩
theorem LeR.nil:LeR [] []:=.refl _
theorem LeR.cons {a b:AV} {r r':List AV} (h:LeA a b) (k:LeR r r'):LeR (a::r) (b::r') :=
 ⟨by simp [k.1],fun i x y h1 h2=>by
  cases i with
  | zero=>simp at h1 h2; subst h1 h2; exact h
  | succ i=>exact k.2 i x y (by simpa using h1) (by simpa using h2)⟩
theorem LeR.vrs {r r':List AV} {E:Env} {us:List Value} (h:LeR r r') (hv:VRs E r us):VRs E r' us :=
 ⟨by rw [← h.1]; exact hv.1,fun m c u h1 h2=>by
  have hm:m<r.length:=by rw [h.1]; exact (List.getElem?_eq_some_iff.1 h1).1
  exact h.2 m _ c (List.getElem?_eq_getElem hm) h1 _ _ (hv.2 m _ u (List.getElem?_eq_getElem hm) h2)⟩
theorem LeA.agg {r r':List AV} (h:LeR r r'):LeA (.agg r) (.agg r'):=fun E u hv=>by
 obtain ⟨us,rfl,h1⟩:=hv.aggI
 exact VRs.aggV (h.vrs h1)
theorem LeA.tup {r r':List AV} (h:LeR r r'):LeA (.tup r) (.tup r'):=fun E u hv=>by
 obtain ⟨us,rfl,h1⟩:=hv.tupI
 have:=h.vrs h1
 exact .tup us (by simpa using this.1) (fun m c u h1 h2=>this.2 m c u h1 (by simpa using h2))
theorem LeA.fptr {r r':List AV} {j:Nat} (h:LeR r r'):LeA (.fptr r j) (.fptr r' j):=fun E u hv=>by
 cases hv with
 | fptr j us h1 h2 h3 h4 =>
  have:=h.vrs (E:=E.fz) (us:=us) ⟨h1.symm,h2⟩
  exact .fptr j us this.1.symm this.2 h3 h4
theorem LeRs.refl (r:List (List AV)):LeRs r r:=⟨rfl,fun _ _ _ h k=>by rw [h] at k; cases k; exact .refl _⟩
theorem LeRs.nil:LeRs [] []:=.refl _
theorem LeRs.cons {a b:List AV} {r r':List (List AV)} (h:LeR a b) (k:LeRs r r'):LeRs (a::r) (b::r') :=
 ⟨by simp [k.1],fun i x y h1 h2=>by
  cases i with
  | zero=>simp at h1 h2; subst h1 h2; exact h
  | succ i=>exact k.2 i x y (by simpa using h1) (by simpa using h2)⟩
theorem LeRs.app {a b r r':List (List AV)} (h:LeRs a b) (k:LeRs r r'):LeRs (a++r) (b++r'):=by
 induction a generalizing b with
 | nil =>
  have:b=[]:=List.eq_nil_of_length_eq_zero h.1.symm
  subst this
  exact k
 | cons x a ih =>
  cases b with
  | nil=>exact absurd h.1 (by simp)
  | cons y b=>exact .cons (h.2 0 x y rfl rfl) (ih ⟨by simpa using h.1,fun i p q h1 h2=>h.2 (i + 1) p q (by simpa using h1) (by simpa using h2)⟩)
theorem LeR.app {a b r r':List AV} (h:LeR a b) (k:LeR r r'):LeR (a++r) (b++r'):=by
 induction a generalizing b with
 | nil =>
  have:b=[]:=List.eq_nil_of_length_eq_zero h.1.symm
  subst this
  exact k
 | cons x a ih =>
  cases b with
  | nil=>exact absurd h.1 (by simp)
  | cons y b=>exact .cons (h.2 0 x y rfl rfl) (ih ⟨by simpa using h.1,fun i p q h1 h2=>h.2 (i + 1) p q (by simpa using h1) (by simpa using h2)⟩)
theorem LeRs.flat {r r':List (List AV)} (h:LeRs r r'):LeR r.flatten r'.flatten:=by
 induction r generalizing r' with
 | nil =>
  have:r'=[]:=List.eq_nil_of_length_eq_zero h.1.symm
  subst this
  exact .refl _
 | cons x a ih =>
  cases r' with
  | nil=>exact absurd h.1 (by simp)
  | cons y b =>
   have h1:=h.2 0 x y rfl rfl
   have h2:=ih (r':=b) ⟨by simpa using h.1,fun i p q h1 h2=>h.2 (i + 1) p q (by simpa using h1) (by simpa using h2)⟩
   rw [List.flatten_cons,List.flatten_cons]
   have app:∀ {a b r r':List AV},LeR a b→LeR r r'→LeR (a++r) (b++r'):=by
    intro a b r r' h k
    induction a generalizing b with
    | nil =>
     have:b=[]:=List.eq_nil_of_length_eq_zero h.1.symm
     subst this
     exact k
    | cons x a ih =>
     cases b with
     | nil=>exact absurd h.1 (by simp)
     | cons y b=>exact .cons (h.2 0 x y rfl rfl) (ih ⟨by simpa using h.1,fun i p q h1 h2=>h.2 (i + 1) p q (by simpa using h1) (by simpa using h2)⟩)
   exact app h1 h2
theorem LeRs.lens {r r':List (List AV)} {sz:Nat} (h:LeRs r r') (hl:∀ x∈r,x.length=sz):∀ x∈r',x.length=sz:=by
 intro x hx
 obtain ⟨i,hi⟩:=List.getElem?_of_mem hx
 have hlt:i<r.length:=by rw [h.1]; exact (List.getElem?_eq_some_iff.1 hi).1
 rw [← (h.2 i _ x (List.getElem?_eq_getElem hlt) hi).1]
 exact hl _ (List.getElem_mem hlt)
theorem LeA.sl {r r':List (List AV)} (h:LeRs r r'):LeA (.sl r) (.sl r'):=fun E u hv=>by
 cases hv with
 | sln =>
  have:r'=[]:=List.eq_nil_of_length_eq_zero h.1.symm
  subst this
  exact .sln E
 | sle _ a cap =>
  have:r'=[]:=List.eq_nil_of_length_eq_zero h.1.symm
  subst this
  exact .sle E a cap
 | sl us h1 h2 h3 h4 h5 h6 h7 =>
  have hf:=h.flat
  have:=hf.vrs (E:=E.fz) (us:=us) ⟨h3.symm,h4⟩
  rw [h.1]
  exact .sl us h1 (h.lens h2) this.1.symm this.2 h5 h6 (by rw [← h.1]; exact h7)
theorem wkT_get {ts:List Nat}:∀ {t:List AV} {i j:Nat} {c:AV},(wkT ts i t)[j]?=some c→c=.bad∨t[j]?=some c
 | [],_,_,_,h=>by simp [wkT] at h
 | x::xs,i,0,c,h=>by
  simp only [wkT,List.getElem?_cons_zero,Option.some.injEq] at h
  split at h
  ·exact .inr (by rw [← h]; rfl)
  ·exact .inl h.symm
 | x::xs,i,j + 1,c,h=>by
  simp only [wkT,List.getElem?_cons_succ] at h
  rw [List.getElem?_cons_succ]
  exact wkT_get h
theorem wkT_len {ts:List Nat}:∀ {t:List AV} {i:Nat},(wkT ts i t).length=t.length
 | [],_=>rfl
 | x::xs,i=>by simp [wkT,wkT_len]
theorem wkT_weak (ts:List Nat) (S:St):WeakS S { t:=wkT ts 0 S.t,l:=S.l,o:=S.o,b:=S.b }:=fun _ E _ _ hM ht =>
 ⟨E,hM.congr rfl rfl rfl,by rw [wkT_len]; exact ht.len,fun n c u h1 h2=>by
  rcases wkT_get h1 with h | h
  ·rw [h]; exact .bad _ _
  ·exact ht.val n c u h h2,ht.df,ht.gt⟩
theorem dropped_weak (d:Nat) (S:St):WeakS S (dropped d S):=fun G E a w hM ht=>by
 obtain ⟨E1,h1,h2,_⟩:=drop_sound hM ht d rfl
 exact ⟨E1,h1,h2⟩
theorem dropAll_weak:∀ (ds:List Nat) (S:St),WeakS S (dropAll ds S)
 | [],S=>.refl S
 | d::ds,S=>(dropped_weak d S).trans (dropAll_weak ds _)
theorem gone_weak (i:Nat) (S:St):WeakS S (gone i S):=fun _ _ _ _ hM ht =>
 let ⟨h1,h2⟩:=gone_sound' hM ht i
 ⟨_,h1,h2⟩
theorem goneR_weak:∀ (ds:List Nat) (S:St),WeakS S (goneR ds S)
 | [],S=>.refl S
 | d::ds,S=>(gone_weak d S).trans (goneR_weak ds _)
theorem allDead_get:∀ {os:List Ob} {i:Nat} {x:Ob},allDead os=true→os[i]?=some x→x=.dead
 | [],i,x,_,h=>by simp at h
 | .dead::os,0,x,_,h=>by simp at h; exact h.symm
 | .dead::os,i + 1,x,h,h1=>allDead_get (os:=os) (i:=i) h (by simpa using h1)
 | .arr _ _ _::os,_,_,h,_=>by cases h
 | .mapo _ _::os,_,_,h,_=>by cases h
 | .own _ _ _ _::os,_,_,h,_=>by cases h
theorem cutO_weak (n:Nat) (S:St):WeakS S (cutO n S):=fun _ E _ _ hM ht=>by
 unfold cutO
 split
 ·rename_i h
  rw [Bool.and_eq_true] at h
  have hb:=Nat.le_of_ble_eq_true h.2
  have hbl:=hM.bl
  refine ⟨E,⟨hM.hp,hM.os,hM.tape,hM.output,hM.size,hM.keep,hM.F0,hM.Flt,hM.Fnew,hM.own,hM.inj,hM.loc,fun id=>?_,fun id hid=>?_,?_,hM.szs,hM.pk,fun id=>?_⟩,ht⟩
  ·have h0:=hM.obj id
   show ObR E (S.o.take n)[id]? _
   rw [List.getElem?_take]
   split
   ·exact h0
   ·rename_i hn
    cases hx:S.o[id]? with
    | none=>rw [hx] at h0; exact h0
    | some x =>
     have:x=.dead:=allDead_get h.1 (i:=id - n) (by rw [List.getElem?_drop]; rw [show n + (id - n)=id by omega]; exact hx)
     rw [hx,this] at h0
     revert h0
     cases E.mu (.O id) with
     | none=>exact fun _=>trivial
     | some _=>exact fun h=>h.elim
  ·show (S.o.take n)[id]?=some .dead∨_
   have hid':id<S.b:=hid
   rw [List.getElem?_take,if_pos (by omega)]
   exact hM.old id hid
  ·show S.b≤(S.o.take n).length
   rw [List.length_take]
   omega
  ·have h0:=hM.ow id
   show OwnR E id (S.o.take n)[id]?
   rw [List.getElem?_take]
   split
   ·exact h0
   ·rename_i hn
    cases hx:S.o[id]? with
    | none=>rw [hx] at h0; exact h0
    | some x =>
     have:x=.dead:=allDead_get h.1 (i:=id - n) (by rw [List.getElem?_drop]; rw [show n + (id - n)=id by omega]; exact hx)
     rw [hx,this] at h0
     exact h0
 ·exact ⟨E,hM,ht⟩
theorem prom_key {G:Gh} {E:Env} {S:St} {w:World} (hM:SimM G pn E S w):E.mu (.O S.o.length)=none:=by
 have:=hM.obj S.o.length
 rw [List.getElem?_eq_none (Nat.le_refl _)] at this
 revert this
 cases E.mu (.O S.o.length) with
 | none=>exact fun _=>rfl
 | some _=>exact fun h=>h.elim
theorem prom_sim {G:Gh} {E:Env} {S:St} {w:World} (hM:SimM G pn E S w) (sz:Nat) (t:List AV):SimM G pn ⟨E.F,addMu E.mu (.O S.o.length) .virt,E.h⟩ { t:=t,l:=S.l,o:=S.o++[.arr true sz []],b:=S.b } w:=by
 have hbl:=hM.bl
 refine hM.addkey' (key:=.O S.o.length) (mv:=.virt) (fun _ _=>rfl) (fun _ h=>by cases h) (prom_key hM) (fun _ _ _ _ h=>by cases h) (fun _ _=>rfl) (fun id hid=>?_) rfl ?_ (fun id h=>?_) (fun _ h=>by cases h) (fun id h=>?_) ?_
 ·show (S.o++[_])[id]?=_
  by_cases h:id<S.o.length
  ·rw [List.getElem?_append_left h]
  ·have hne:id≠S.o.length:=fun e=>hid (by rw [e])
   rw [List.getElem?_eq_none (by simp; omega),List.getElem?_eq_none (by omega)]
 ·show S.b≤(S.o++[_]).length
  simp
  omega
 ·cases h
  exact hbl
 ·cases h
  show ObR _ (S.o++[_])[S.o.length]? _
  rw [List.getElem?_append_right (Nat.le_refl _),Nat.sub_self]
  rfl
 ·exact hM.ow_push rfl rfl
theorem promT_weak:∀ (ps:List (Nat×Nat)) (S:St),WeakS S (promT ps S)
 | [],S=>.refl S
 | (d,sz)::ps,S=>by
  unfold promT
  split
  ·rename_i hd
   refine WeakS.trans ?_ (promT_weak ps _)
   intro G E a w hM ht
   refine ⟨_,prom_sim hM sz _,?_⟩
   have hle:LE E ⟨E.F,addMu E.mu (.O S.o.length) .virt,E.h⟩:=addMu_le (prom_key hM)
   refine ⟨by simpa using ht.len,fun n c u h1 h2=>?_,ht.df,ht.gt.mono hle⟩
   have h1':(S.t.set d (.mf S.o.length))[n]?=some c:=h1
   rw [List.getElem?_set] at h1'
   split at h1'
   ·rename_i e
    subst e
    split at h1'
    ·cases h1'
     have hv:=ht.val d _ u hd h2
     cases hv
     exact .mfn (by show addMu _ _ _ _=_; unfold addMu; rw [if_pos rfl])
    ·cases h1'
   ·exact (ht.val n c u h1' h2).mono hle
  ·exact promT_weak ps S
theorem promL_weak:∀ (ps:List (Nat×Nat×Nat)) (S:St),WeakS S (promL ps S)
 | [],S=>.refl S
 | (d,j,sz)::ps,S=>by
  unfold promL
  split
  ·rename_i row hd
   split
   ·rename_i hj
    refine WeakS.trans ?_ (promL_weak ps _)
    intro G E a w hM ht
    have hle:LE E ⟨E.F,addMu E.mu (.O S.o.length) .virt,E.h⟩:=addMu_le (prom_key hM)
    refine ⟨_,?_,ht.mono hle⟩
    have h0:=prom_sim hM sz S.t
    refine ⟨h0.hp,h0.os,h0.tape,h0.output,h0.size,h0.keep,h0.F0,h0.Flt,h0.Fnew,h0.own,h0.inj,fun e=>?_,h0.obj,h0.old,h0.bl,h0.szs,(fun _ _ h=>by cases h),h0.ow⟩
    have h1:=h0.loc e
    show LocR pn _ (lookL (setL S.l d (row.set j (.mf S.o.length))) e) e
    rw [lookL_set hd]
    split
    ·rename_i e'
     subst e'
     have h1':LocR pn ⟨E.F,addMu E.mu (.O S.o.length) .virt,E.h⟩ (lookL S.l d) d:=h1
     rw [hd] at h1'
     rcases h1' with ⟨b,h2,h3,h4,us,ty,h5,h6,h7⟩ | ⟨_,h2,_⟩
     ·refine .inl ⟨b,by simpa using h2,by simpa using h3,by simp,us,ty,h5,by simpa using h6,fun m c hc=>?_⟩
      have hf:[row.set j (.mf S.o.length)].flatten=row.set j (.mf S.o.length):=by simp
      have hf0:[row].flatten=row:=by simp
      rw [hf,List.getElem?_set] at hc
      split at hc
      ·rename_i e'
       subst e'
       split at hc
       ·cases hc
        obtain ⟨u,hu,hv⟩:=h7 j .nilsl (by rw [hf0]; exact hj)
        refine ⟨u,hu,?_⟩
        cases hv
        exact .mfn (by show addMu _ _ _ _=_; unfold addMu; rw [if_pos rfl])
       ·cases hc
      ·exact h7 m c (by rw [hf0]; exact hc)
     ·cases h2
    ·exact h1
   ·exact promL_weak ps S
  ·exact promL_weak ps S
theorem frzT_weak:∀ (ds:List Nat) (S:St),WeakS S (frzT ds S)
 | [],S=>.refl S
 | d::ds,S=>by
  unfold frzT
  split
  ·rename_i x hx
   split
   ·rename_i y hy
    refine WeakS.trans ?_ (frzT_weak ds _)
    intro G E a w hM ht
    obtain ⟨hS1,ht1⟩:=goneAll_sound (ids:=dids S.o 6 x) hM ht
    obtain ⟨hle2,hS2⟩:=hS1.freeze (F':=FD E (dids S.o 6 x)) (fun b h=>.inl h) (fun b h=>by
     rcases h with h | ⟨id,hid,o',s,n,hm⟩
     ·exact .inl h
     ·obtain ⟨h1,h2,h3⟩:=hM.own _ _ _ _ _ hm
      refine .inr ⟨h2,h3,fun k o'' s' n' h'=>?_⟩
      obtain ⟨h4,h5⟩:=remAll_some h'
      exact h5 id hid (hM.inj _ _ _ _ _ _ _ _ _ h4 hm))
    have ht2:=ht1.mono hle2
    refine ⟨_,hS2.congr rfl rfl rfl,by simpa using ht2.len,fun n c u h1 h2=>?_,ht2.df,ht2.gt⟩
    have h1':((goneAll (dids S.o 6 x) S).t.set d y)[n]?=some c:=h1
    rw [List.getElem?_set] at h1'
    split at h1'
    ·rename_i e
     subst e
     split at h1'
     ·cases h1'
      have hv:=dfz_sound hM 6 hy (ht.val d _ u hx h2) (ids:=dids S.o 6 x) (fun _ h=>h)
      exact hv.mono ⟨fun _ h=>h,fun _ _ _ h=>(by cases h),fun _ _=>rfl,fun _ _ _ _ _ _ h=>(by cases h)⟩
     ·cases h1'
    ·exact ht2.val n c u h1' h2
   ·exact frzT_weak ds S
  ·exact frzT_weak ds S
theorem wkS_weak (W:Wk) (S:St):WeakS S (wkS W S):=by
 unfold wkS
 exact (wkT_weak W.ts S).trans ((dropAll_weak W.ls _).trans ((goneR_weak _ _).trans ((cutO_weak _ _).trans ((promT_weak _ _).trans (promL_weak _ _)))))
theorem wk_weak (W:Wk) (S:St):WeakS S (wk W S):=(frzT_weak W.fz S).trans (wkS_weak W _)
theorem wleT_out:∀ {xs:List (Nat×AV)} {S:St} {K:St→Prop},wleT xs S K→∃ S',WeakS S S'∧K S'
 | [],S,K,h=>⟨S,.refl S,h⟩
 | (d,v)::xs,S,K,h=>by
  obtain ⟨a,ha,hl,h⟩:=nthK_iff.1 h
  rw [setK_iff] at h
  obtain ⟨S',h1,h2⟩:=wleT_out h
  refine ⟨S',WeakS.trans ?_ h1,h2⟩
  intro G E act w hM ht
  refine ⟨E,hM.congr rfl rfl rfl,by simpa using ht.len,fun n c u h1 h2=>?_,ht.df,ht.gt⟩
  have h1':(S.t.set d v)[n]?=some c:=h1
  rw [List.getElem?_set] at h1'
  split at h1'
  ·rename_i e
   subst e
   split at h1'
   ·cases h1'
    exact hl _ _ (ht.val d _ u ha h2)
   ·cases h1'
  ·exact ht.val n c u h1' h2
theorem wleL_out:∀ {xs:List (Nat×List AV)} {S:St} {K:St→Prop},wleL xs S K→∃ S',WeakS S S'∧K S'
 | [],S,K,h=>⟨S,.refl S,h⟩
 | (d,r)::xs,S,K,h=>by
  unfold wleL at h
  split at h
  ·rename_i row hd
   obtain ⟨hl,h⟩:=h
   rw [forceLoc_iff] at h
   obtain ⟨S',h1,h2⟩:=wleL_out h
   refine ⟨S',WeakS.trans ?_ h1,h2⟩
   intro G E act w hM ht
   refine ⟨E,?_,ht⟩
   refine ⟨hM.hp,hM.os,hM.tape,hM.output,hM.size,hM.keep,hM.F0,hM.Flt,hM.Fnew,hM.own,hM.inj,fun e=>?_,hM.obj,hM.old,hM.bl,hM.szs,(fun _ _ h=>by cases h),hM.ow⟩
   have h1:=hM.loc e
   show LocR pn _ (lookL (setL S.l d r) e) e
   rw [lookL_set hd]
   split
   ·rename_i e'
    subst e'
    rw [hd] at h1
    rcases h1 with ⟨b,h2,h3,h4,us,ty,h5,h6,h7⟩ | ⟨_,h2,_⟩
    ·refine .inl ⟨b,by rw [← hl.1]; exact h2,by rw [← hl.1]; exact h3,by simp,us,ty,h5,by rw [← hl.1]; exact h6,fun m c hc=>?_⟩
     have hf:[r].flatten=r:=by simp
     have hf0:[row].flatten=row:=by simp
     rw [hf] at hc
     have hm:m<row.length:=by rw [hl.1]; exact (List.getElem?_eq_some_iff.1 hc).1
     obtain ⟨u,hu,hv⟩:=h7 m _ (by rw [hf0]; exact List.getElem?_eq_getElem hm)
     exact ⟨u,hu,hl.2 m _ c (List.getElem?_eq_getElem hm) hc _ _ hv⟩
    ·cases h2
   ·exact h1
  ·exact False.elim h
theorem wleO_out:∀ {xs:List (Nat×List (List AV))} {S:St} {K:St→Prop},wleO xs S K→∃ S',WeakS S S'∧K S'
 | [],S,K,h=>⟨S,.refl S,h⟩
 | (i,R)::xs,S,K,h=>by
  unfold wleO at h
  split at h
  ·rename_i fl sz rows hi
   obtain ⟨hl,h⟩:=h
   rw [forceO_iff] at h
   obtain ⟨S',h1,h2⟩:=wleO_out h
   refine ⟨S',WeakS.trans ?_ h1,h2⟩
   intro G E act w hM ht
   refine ⟨E,?_,ht⟩
   refine ⟨hM.hp,hM.os,hM.tape,hM.output,hM.size,hM.keep,hM.F0,hM.Flt,hM.Fnew,hM.own,hM.inj,hM.loc,fun id=>?_,fun id hid=>?_,by show S.b≤(S.o.set _ _).length; rw [List.length_set]; exact hM.bl,hM.szs,hM.pk,fun id=>?_⟩
   ·have h1:=hM.obj id
    show ObR E (S.o.set i _)[id]? _
    rw [List.getElem?_set]
    split
    ·rename_i e
     subst e
     rw [if_pos (List.getElem?_eq_some_iff.1 hi).1]
     rw [hi] at h1
     revert h1
     cases E.mu (.O i) with
     | none=>exact fun h=>h
     | some mv =>
      cases mv with
      | virt =>
       intro h
       have h:rows=[]:=h
       subst h
       exact List.eq_nil_of_length_eq_zero hl.1.symm
      | blk b o s n =>
       rintro ⟨⟨h1,h2⟩,h3,h4,us,ty,h5,h6,h7⟩
       refine ⟨⟨h1,by rw [← hl.1]; exact h2⟩,h3,hl.lens h4,us,ty,h5,by rw [← hl.1]; exact h6,fun m c hc=>?_⟩
       have hf:=hl.flat
       have hm:m<rows.flatten.length:=by rw [hf.1]; exact (List.getElem?_eq_some_iff.1 hc).1
       obtain ⟨u,hu,hv⟩:=h7 m _ (List.getElem?_eq_getElem hm)
       exact ⟨u,hu,hf.2 m _ c (List.getElem?_eq_getElem hm) hc _ _ hv⟩
    ·exact h1
   ·have h1:=hM.old id hid
    show (S.o.set i _)[id]?=some .dead∨_
    rw [List.getElem?_set]
    split
    ·rename_i e
     subst e
     rcases h1 with h1 | h1
     ·rw [hi] at h1; cases h1
     ·exact .inr h1
    ·exact h1
   ·have h1:=hM.ow id
    show OwnR E id (S.o.set i _)[id]?
    rw [List.getElem?_set]
    split
    ·rename_i e
     subst e
     rw [if_pos (List.getElem?_eq_some_iff.1 hi).1]
     rw [hi] at h1
     exact h1
    ·exact h1
  ·exact False.elim h
theorem wle_out {L:Le} {S:St} {K:St→Prop} (h:wle L S K):∃ S',WeakS S S'∧K S':=by
 obtain ⟨S1,h1,h⟩:=wleT_out h
 obtain ⟨S2,h2,h⟩:=wleL_out h
 obtain ⟨S3,h3,h⟩:=wleO_out h
 exact ⟨S3,h1.trans (h2.trans h3),h⟩
structure OKC (C:Ctx):Prop where
 det:CDet C
theorem Det.mono2 {α β:Type} {X:(α→β→Prop)→Prop} (h:Det2 X) {K K':α→β→Prop} (hx:X K) (hk:∀ r s,K r s→K' r s):X K':=by
 obtain ⟨r,s,h1,h2⟩:=h _ hx
 exact h2 _ (hk r s h1)
theorem Det.mono {α:Type} {X:(α→Prop)→Prop} (h:Det X) {K K':α→Prop} (hx:X K) (hk:∀ r,K r→K' r):X K':=by
 obtain ⟨r,h1,h2⟩:=h K hx
 exact h2 _ (hk r h1)
theorem Det2.mono {α β:Type} {X:(α→β→Prop)→Prop} (h:Det2 X) {K K':α→β→Prop} (hx:X K) (hk:∀ a b,K a b→K' a b):X K':=by
 obtain ⟨a,b,h1,h2⟩:=h K hx
 exact h2 _ (hk a b h1)
theorem obinC_out {op:BinOp} {x y:Value} {K:Value→Prop} (h:obinC op x y K):aBinC op x y K:=by
 unfold obinC at h
 unfold aBinC
 split at h <;> first
  | exact Chk_intro h.1 h.2
  | exact False.elim h
section
variable {C:Ctx} {A:RAns} {pl:Pol} {o:Oper}
theorem obinK_out {op:BinOp} {t:TypeId} {x y:AV} {k:AV→Prop} (h:obinK C A o op t x y k):binK C.P op t x y k:=by
 unfold obinK at h
 split at h
 ·rename_i a b
  show scalK C.P op t a b k
  unfold scalK
  split at h
  ·rename_i hn
   rw [hn]
   dsimp only
   split at h
   ·exact h
   ·rename_i a b hne
    split
    ·exact (hne _ _ rfl rfl).elim
    ·exact obinC_out h
  ·rename_i c hc
   rw [hc]
   exact h
 ·rename_i as bs
  show (match toVs as,toVs bs with
  | some xs,some ys =>
   match aggEq C.P op t xs ys with
   | some (.bool b)=>k (.v (.bool b))
   | _=>Fail 226
  | _,_=>Fail 227)
  split at h
  ·rename_i xs ys h1 h2
   try rw [h1,h2]
   try dsimp only
   split at h
   ·rw [h.1]
    exact h.2
   ·exact False.elim h
  ·exact False.elim h
 ·exact False.elim h
theorem oindexK_out {t:TypeId} {x ix:AV} {k:AV→Prop} (h:oindexK C A o t x ix k):indexK C.P t x ix k:=by
 unfold oindexK at h
 unfold indexK
 refine Det.mono intOf_det h (fun i h'=>?_)
 clear h
 split at h'
 ·rename_i s hu
  rw [hu]
  dsimp only
  split at h'
  ·rw [h'.1]
   dsimp only
   have h2:=h'.2.2
   rw [h'.2.1] at h2
   exact h2
  ·exact False.elim h'
 ·rename_i len e cs hu
  rw [hu]
  dsimp only
  have h:=h'
  split at h
  ·rename_i inf hi
   rw [hi]
   exact Chk_intro h.1 h.2
  ·exact False.elim h
 ·exact False.elim h'
theorem opop_out {vs:List AV} {k:AV→Prop} (h:opop C A pl o vs k):pop C pl o vs k:=by
 unfold opop at h
 split at h
 ·exact h
 ·split at h
  ·rename_i ho
   unfold pop
   rw [ho]
   exact obinK_out h
  ·rename_i ho
   unfold pop
   rw [ho]
   exact oindexK_out h
  ·exact False.elim h
theorem ocutK_out {len cap:Nat} {lo hi mx:Option Int} {k:Nat→Nat→Nat→Prop} (h:ocutK len cap lo hi mx k):cutK len cap lo hi mx k:=by
 unfold ocutK at h
 unfold cutK
 split at h <;> first
  | exact h
  | exact Chk_intro h.1 h.2
  | exact False.elim h
theorem osliceK_out {t:TypeId} {x:AV} {lo hi mx:Option Int} {S:St} {k:AV→Prop} (h:osliceK C t x lo hi mx S k):sliceK C.P t x lo hi mx S k:=by
 unfold osliceK at h
 rw [Bool.and_comm (zero? mx) (zero? hi)] at h
 unfold sliceK
 split at h
 ·rename_i hu
  rw [hu]
  dsimp only
  split at h
  ·exact ocutK_out h
  ·exact False.elim h
 ·rename_i e hu
  rw [hu]
  dsimp only
  split at h
  ·rename_i i hi
   rw [hi]
   dsimp only
   obtain ⟨h0,h⟩:=Chk_elim h
   refine Chk_intro h0 ?_
   split at h
   ·exact Chk_intro h.1 (ocutK_out h.2)
   ·split at h
    ·rename_i ho
     dsimp only
     rw [ho]
     obtain ⟨h1,h⟩:=Chk_elim h
     exact Chk_intro h1 (ocutK_out h)
    ·exact False.elim h
   ·split at h
    ·rename_i ho
     dsimp only
     rw [ho]
     obtain ⟨h1,h⟩:=Chk_elim h
     exact Chk_intro h1 (ocutK_out h)
    ·exact False.elim h
   ·exact False.elim h
  ·exact False.elim h
 ·exact False.elim h
theorem oindexAddrK_out {row:List AV} {t:TypeId} {x ix:AV} {S:St} {k:AV→Prop} (h:oindexAddrK C row t x ix S k):indexAddrK C.P t x ix S k:=by
 unfold oindexAddrK at h
 unfold indexAddrK
 refine Det.mono intOf_det h (fun i h=>?_)
 split at h
 ·rename_i e hu
  rw [hu]
  dsimp only
  split at h
  ·rename_i inf hi
   rw [hi]
   dsimp only
   split at h
   ·have h1:=h.1
    unfold at? at h1
    dsimp only
    rw [h1]
    exact h.2
   ·split at h
    ·rename_i ho
     dsimp only
     rw [ho]
     dsimp only
     have h1:=h.1
     unfold at? at h1
     rw [h1]
     exact h.2
    ·rename_i ho
     dsimp only
     rw [ho]
     obtain ⟨h1,h2,h3⟩:=Chk_elim h
     refine Chk_intro ?_ h3
     rw [Bool.and_eq_true]
     exact ⟨h2,h1⟩
    ·exact False.elim h
   ·split at h
    ·rename_i ho
     dsimp only
     rw [ho]
     dsimp only
     refine Chk_intro h.1 ?_
     rw [h.2.1]
     exact h.2.2
    ·exact False.elim h
   ·exact False.elim h
  ·exact False.elim h
 ·rename_i len e hu
  rw [hu]
  dsimp only
  split at h
  ·rename_i inf hi
   rw [hi]
   exact Chk_intro h.1 h.2
  ·exact False.elim h
 ·exact False.elim h
theorem opcallK_out (hC:OKC C) {fid:Nat} {as:List AV} {k:AV→Prop} (h:opcallK C A o fid as k):C.pcall fid as k:=by
 unfold opcallK at h
 split at h
 ·exact Det.mono (hC.det.pcall _ _) h.1 (fun _ e=>by rw [e]; exact h.2)
 ·exact h
theorem orop_out (hC:OKC C) {vs:List AV} {M:St} {k:AV→Prop} (h:orop C A o vs M k):rop C o vs M k:=by
 unfold orop at h
 split at h
 ·rename_i ho
  split at h
  ·split at h
   ·split at h
    ·rename_i hob
     unfold rop
     rw [ho]
     dsimp only
     unfold atK
     dsimp only
     unfold rowK
     dsimp only
     rw [hob]
     dsimp only
     rw [h.1]
     exact h.2
    ·exact False.elim h
   ·exact False.elim h
  ·exact h
 ·rename_i ho
  split at h
  ·exact h
  ·unfold rop
   rw [ho]
   split at h
   ·exact osliceK_out h
   ·exact Det.mono intOf_det h (fun _ h=>osliceK_out h)
   ·exact Det.mono intOf_det h (fun _ h=>osliceK_out h)
   ·exact Det.mono intOf_det h (fun _ h=>Det.mono intOf_det h (fun _ h=>osliceK_out h))
   ·exact Det.mono intOf_det h (fun _ h=>Det.mono intOf_det h (fun _ h=>osliceK_out h))
   ·exact Det.mono intOf_det h (fun _ h=>Det.mono intOf_det h (fun _ h=>Det.mono intOf_det h (fun _ h=>osliceK_out h)))
   ·exact False.elim h
 ·rename_i ho
  split at h
  ·unfold rop
   rw [ho]
   exact oindexAddrK_out h
  ·exact h
 ·rename_i ho
  split at h
  ·split at h
   ·rename_i hu
    split at h
    ·rename_i hob
     unfold rop
     rw [ho]
     dsimp only
     unfold lookupK
     rw [hu]
     dsimp only
     rw [hob]
     exact h.1 _ h.2
    ·exact False.elim h
   ·exact False.elim h
  ·exact h
 ·rename_i c ho
  split at h
  ·rename_i hcal
   split at h
   ·unfold rop
    rw [ho]
    dsimp only
    rw [hcal]
    dsimp only
    obtain ⟨h1,h⟩:=Chk_elim h
    exact Chk_intro h1 (Det.mono (dfzsK_det _ _) h (fun bs hb=>opcallK_out hC hb))
   ·exact False.elim h
  ·exact h
 ·exact h
theorem ostoreK_out {S:St} {row:List AV} {a:AV} {cs:List AV} {K:St→Prop} (h:ostoreK S row a cs K):storeK S a cs K:=by
 unfold ostoreK at h
 split at h
 ·unfold storeK
  split at h
  ·rename_i ho
   dsimp only
   rw [ho]
   dsimp only
   rw [h.1]
   exact h.2
  ·exact False.elim h
 ·exact False.elim h
theorem owop_out {vs:List AV} {M:St} {k:AV→St→Prop} (h:owop C A o vs M k):wop C o vs M k:=by
 unfold owop at h
 split at h
 ·exact h
 ·split at h
  ·rename_i ho
   split at h
   ·unfold wop
    rw [ho]
    refine Det.mono cellsK_det h (fun cs h=>?_)
    split at h
    ·rename_i hi
     rw [hi]
     obtain ⟨h1,h⟩:=Chk_elim h
     exact Chk_intro h1 (ostoreK_out h)
    ·exact False.elim h
   ·exact h
  ·exact h
theorem orowsK_out {size:Nat} {S:St} {x:AV} {k:Bool→List (List AV)→Prop} (h:orowsK size S x k):rowsK size S x k:=by
 unfold orowsK at h
 unfold rowsK
 split at h <;> first
  | exact Chk_intro h.1 h.2
  | exact h
  | exact False.elim h
theorem oappendK_out {ts:List TypeId} {base x:AV} {S:St} {k:St→AV→Prop} (h:oappendK C.P ts base x S k):appendK C.P ts base x S k:=by
 unfold oappendK at h
 unfold appendK
 split at h
 ·split at h
  ·rename_i e hu
   dsimp only
   rw [hu]
   dsimp only
   split at h
   ·rename_i i hi
    rw [hi]
    dsimp only
    obtain ⟨h1,h⟩:=Chk_elim h
    refine Chk_intro h1 ?_
    refine Det2.mono rowsK_det (orowsK_out h) (fun fl src h=>?_)
    refine Chk_intro h.1 ?_
    replace h:=h.2
    split at h
    ·exact Chk_intro h.1 h.2
    ·exact Chk_intro h.1 h.2
    ·split at h
     ·rename_i ho
      dsimp only
      rw [ho]
      obtain ⟨h1,h⟩:=Chk_elim h
      refine Chk_intro ?_ h.2
      simp only [Bool.and_eq_true] at h1 ⊢
      exact ⟨⟨h1.1,h.1⟩,h1.2⟩
     ·exact False.elim h
    ·split at h
     ·rename_i ho
      dsimp only
      rw [ho]
      obtain ⟨h1,h2,h3,h⟩:=Chk_elim h
      refine Chk_intro h1 ?_
      rw [h2]
      exact Chk_intro h3 h
     ·exact False.elim h
    ·exact False.elim h
   ·exact False.elim h
  ·exact False.elim h
 ·exact False.elim h
theorem oappendFK_out {ts:List TypeId} {base x:AV} {k:AV→Prop} (h:oappendFK C.P ts base x k):appendFK C.P ts base x k:=by
 unfold oappendFK at h
 unfold appendFK
 split at h
 ·split at h
  ·rename_i e hu
   dsimp only
   rw [hu]
   dsimp only
   split at h
   ·rename_i i hi
    rw [hi]
    dsimp only
    obtain ⟨h1,h⟩:=Chk_elim h
    refine Chk_intro h1 ?_
    refine Det2.mono rowsK_det (orowsK_out h) (fun fl src h=>?_)
    obtain ⟨h2,h3,h4,h⟩:=Chk_elim h
    refine Chk_intro ?_ h
    rw [h2,h3,h4]
    rfl
   ·exact False.elim h
  ·exact False.elim h
 ·exact False.elim h
theorem ofop_out {vs:List AV} {k:AV→Prop} (h:ofop C o vs k):fop C o vs k:=by
 unfold ofop at h
 unfold fop
 split at h
 ·rename_i c x y ho
  rw [ho]
  dsimp only
  split at h
  ·rename_i hc
   rw [hc]
   exact oappendFK_out h
  ·exact False.elim h
 ·exact False.elim h
theorem oappendZK_out {ts:List TypeId} {base:AV} {n:Int} {S:St} {k:St→AV→Prop} (h:oappendZK C.P ts base n S k):appendZK C.P ts base n S k:=by
 unfold oappendZK at h
 unfold appendZK
 split at h
 ·split at h
  ·rename_i hu hv
   dsimp only
   rw [hu,hv]
   dsimp only
   split at h
   ·rename_i hi
    rw [hi]
    exact Chk_intro h.1 h.2
   ·exact False.elim h
  ·exact False.elim h
 ·exact False.elim h
theorem omakeSliceK_out {t:TypeId} {l c:AV} {S:St} {k:St→AV→Prop} (h:omakeSliceK C.P t l c S k):makeSliceK C.P t l c S k:=by
 unfold omakeSliceK at h
 unfold makeSliceK
 split at h
 ·rename_i hu
  rw [hu]
  dsimp only
  split at h
  ·rename_i hi
   rw [hi]
   dsimp only
   exact Det.mono intOf_det h (fun _ h=>Det.mono intOf_det h (fun _ h=>Chk_intro h.1 h.2))
  ·exact False.elim h
 ·exact False.elim h
theorem ocallK_out (hC:OKC C) {f:AV} {args:List AV} {S:St} {k:St→AV→Prop} (h:ocallK C A o f args S k):callK C f args S k:=by
 unfold ocallK at h
 unfold callK
 split at h
 ·dsimp only
  split at h
  ·rename_i hp
   rw [hp]
   exact Det.mono (dfzsK_det _ _) h (fun bs hb=>opcallK_out hC hb)
  ·rename_i hp
   rw [hp]
   obtain ⟨h1,h⟩:=Chk_elim h
   refine Chk_intro h1 ?_
   split at h
   ·exact Det2.mono (hC.det.scall _ _ _) h.1 (fun r o' ⟨e1,e2⟩=>by subst e1 e2; exact h.2)
   ·exact h
 ·exact False.elim h
theorem omapUpdateK_out {R:List (AV×AV)} {t:TypeId} {m key x:AV} {S:St} {K:St→Prop} (h:omapUpdateK C.P R t m key x S K):mapUpdateK C.P t m key x S K:=by
 unfold omapUpdateK at h
 unfold mapUpdateK
 split at h
 ·rename_i hu
  rw [hu]
  dsimp only
  split at h
  ·split at h
   ·rename_i fl es ho
    dsimp only
    rw [ho]
    dsimp only
    obtain ⟨h1,h2,h3⟩:=Chk_elim h
    refine Chk_intro h1 ?_
    have:=h2 (fun es'=>forceO (S.o.set _ (.mapo (fl&&rfree 4 x) es')) fun o=>K { t:=S.t,l:=S.l,o:=o,b:=S.b }) h3
    exact this
   ·exact False.elim h
  ·exact False.elim h
 ·exact False.elim h
theorem ocopyK_out {ts:List TypeId} {x y:AV} {M:St} {k:AV→St→Prop} (h:ocopyK C.P ts x y M k):copyK C.P ts x y M k:=by
 unfold ocopyK at h
 unfold copyK
 split at h
 ·split at h
  ·rename_i e hu
   dsimp only
   rw [hu]
   dsimp only
   split at h
   ·rename_i i hi
    rw [hi]
    dsimp only
    obtain ⟨h1,h⟩:=Chk_elim h
    refine Chk_intro h1 ?_
    refine Det2.mono rowsK_det (orowsK_out h) (fun fl src h=>?_)
    obtain ⟨h2,h⟩:=h
    obtain ⟨h3,h⟩:=Chk_elim h
    refine Chk_intro (by rw [h2,h3]; rfl) ?_
    split at h
    ·split at h
     ·rename_i ho
      dsimp only
      rw [ho]
      exact h
     ·exact False.elim h
    ·split at h
     ·rename_i ho
      dsimp only
      rw [ho]
      obtain ⟨h1,h2,h⟩:=Chk_elim h
      exact Chk_intro (by rw [h1,h2]; rfl) h
     ·exact False.elim h
    ·exact False.elim h
   ·exact False.elim h
  ·exact False.elim h
 ·exact False.elim h
theorem oxop_out (hC:OKC C) {S:St} {K:St→Prop} (h:oxop C A pl o S K):xop C pl o S K:=by
 unfold oxop at h
 split at h
 ·rename_i ho
  split at h
  ·unfold xop
   rw [ho]
   refine Det.mono getK_det h (fun m h=>?_)
   refine Det.mono getK_det h (fun k h=>?_)
   refine Det.mono getK_det h (fun x h=>?_)
   exact omapUpdateK_out h
  ·exact h
 ·rename_i ho
  split at h
  ·unfold xop
   rw [ho]
   refine Det.mono getK_det h (fun m h=>?_)
   refine Det.mono getK_det h (fun k h=>?_)
   refine Det.mono getK_det h (fun x h=>?_)
   exact omapUpdateK_out h
  ·exact h
 ·rename_i ho
  split at h
  ·unfold xop
   rw [ho]
   refine Det.mono getK_det h (fun l h=>?_)
   refine Det.mono getK_det h (fun c h=>?_)
   exact omakeSliceK_out h
  ·exact h
 ·rename_i c ho
  split at h
  ·rename_i hcal
   split at h
   ·unfold xop
    rw [ho]
    dsimp only
    rw [hcal]
    dsimp only
    refine Det.mono getsK_det h (fun as h=>?_)
    split at h
    ·exact oappendZK_out h
    ·rename_i x y hne
     split
     ·rename_i e
      cases e
      exact (hne _ _ rfl).elim
     ·rename_i e
      cases e
      exact oappendK_out h
     ·rename_i h3
      exact (h3 _ _ rfl).elim
    ·exact False.elim h
   ·exact h
  ·rename_i hcal
   unfold xop
   rw [ho]
   dsimp only
   rw [hcal]
   dsimp only
   refine Det.mono getsK_det h (fun as h=>?_)
   split at h
   ·exact ocopyK_out h
   ·exact False.elim h
  ·rename_i f hcal
   unfold xop
   rw [ho]
   dsimp only
   rw [hcal]
   dsimp only
   refine Det.mono getK_det h (fun l h=>?_)
   refine Det.mono getsK_det h (fun c h=>?_)
   exact ocallK_out hC h
  ·exact h
 ·exact h
theorem oaft_out {K:St→Prop} {S:St} (h:oaft A o K S):K S:=by
 have h2:∀ {key:Nat} {S:St} {K:St→Prop},oobrK A key S K→K S:=by
  intro key S K h
  unfold oobrK at h
  split at h
  ·exact h
  ·split at h
   ·rename_i ho
    obtain ⟨h1,h⟩:=h
    subst h1
    rw [forceO_iff] at h
    have e:∀ {α:Type} {l:List α} {i:Nat} {x:α},l[i]?=some x→l.set i x=l:=by
     intro α l i x hx
     refine List.ext_getElem? (fun m=>?_)
     rw [List.getElem?_set]
     split
     ·rename_i e
      subst e
      rw [if_pos (List.getElem?_eq_some_iff.1 hx).1,hx]
     ·rfl
    rw [e ho] at h
    exact h
   ·exact False.elim h
 unfold oaft at h
 unfold ovalK at h
 split at h
 ·exact h2 h
 ·split at h
  ·exact h2 h
  ·rename_i v hv
   obtain ⟨a,ha,e,h⟩:=nthK_iff.1 h
   subst e
   rw [setK_iff,set_same ha] at h
   exact h2 h
theorem opop1_out {S:St} {K:St→Prop} (h:opop1 C A pl o S K):pop1 C pl o S K:=Det.mono getsK_det h (fun _ h=>opop_out h)
theorem orop1_out (hC:OKC C) {S:St} {K:St→Prop} (h:orop1 C A o S K):rop1 C o S K:=Det.mono getsK_det h (fun _ h=>orop_out hC h)
theorem owop1_out {S:St} {K:St→Prop} (h:owop1 C A o S K):wop1 C o S K:=Det.mono getsK_det h (fun _ h=>owop_out h)
theorem oownTakeK_out {row:Option (List (List AV))} {M:St} {id i:Nat} {k:AV→St→Prop} (h:oownTakeK row M id i k):ownTakeK M id i k:=by
 unfold oownTakeK at h
 unfold ownTakeK
 split at h
 ·rename_i hob
  rw [hob]
  dsimp only
  split at h
  ·obtain ⟨h1,h⟩:=h
   rw [h1]
   exact h
  ·obtain ⟨h1,h⟩:=h
   rw [h1]
   exact h
 ·exact h.elim
theorem oownLoadK_out {P:Program} {a:OAns} {t:TypeId} {same:Bool} {M:St} {id i:Nat} {k:AV→St→Prop} (h:oownLoadK P a t same M id i k):ownLoadK P t same M id i k:=by
 unfold oownLoadK at h
 unfold ownLoadK
 split at h
 ·split at h
  ·rename_i hob
   rw [hob]
   exact Chk_intro h.1 h.2
  ·exact h.elim
 ·exact oownTakeK_out h
theorem oownStoreK_out {P:Program} {t:TypeId} {M:St} {id i:Nat} {v:AV} {K:St→Prop} (h:oownStoreK P t M id i v K):ownStoreK P t M id i v K:=by
 unfold oownStoreK at h
 unfold ownStoreK
 split at h
 ·rename_i hi hob
  rw [hi,hob]
  obtain ⟨h1,h2,h3⟩:=Chk_elim h
  refine Chk_intro ?_ h3
  simp only [Bool.and_eq_true] at h1 h2 ⊢
  exact ⟨⟨⟨h1.1,h2.1⟩,h1.2⟩,h2.2⟩
 ·exact h.elim
theorem omakeOwnK_out {P:Program} {a:OAns} {t:TypeId} {l c:AV} {M:St} {k:AV→St→Prop} (h:omakeOwnK P a t l c M k):makeOwnK P t l c M k:=by
 unfold omakeOwnK at h
 unfold makeOwnK
 split at h
 ·rename_i hu
  rw [hu]
  dsimp only
  split at h
  ·rename_i hi he
   rw [hi,he]
   dsimp only
   split at h
   ·rename_i hi2
    rw [hi2]
    dsimp only
    refine intOf_mono h (fun n h=>?_)
    refine intOf_mono h (fun m h=>?_)
    obtain ⟨h1,h⟩:=h
    obtain ⟨h2,h⟩:=Chk_elim h
    refine Chk_intro ?_ ?_
    ·simp only [Bool.and_eq_true] at h1 h2 ⊢
     exact ⟨⟨h1,h2.1⟩,h2.2⟩
    ·refine zeroRow_mono h (fun z h=>?_)
     split at h
     ·obtain ⟨h3,h⟩:=h
      dsimp only
      rw [h3]
      exact h
     ·exact h.elim
   ·exact h.elim
  ·exact h.elim
 ·exact h.elim
theorem oownLookK_out {P:Program} {a:OAns} {t:TypeId} {m key:AV} {ok:Bool} {M:St} {k:AV→St→Prop} (h:oownLookK P a t m key ok M k):ownLookK P t m key ok M k:=by
 unfold oownLookK at h
 unfold ownLookK
 split at h
 ·rename_i hu
  rw [hu]
  dsimp only
  split at h
  ·dsimp only
   split at h
   ·rename_i hob
    rw [hob]
    dsimp only
    split at h
    ·obtain ⟨h1,h2⟩:=h
     exact h1 (fun r=>match r with
      | some i=>ownTakeK M _ i fun a M'=>retOk ok a true fun r=>k r M'
      | none=>zeroOk P _ ok fun r=>k r M) (oownTakeK_out h2)
    ·obtain ⟨h1,h2⟩:=h
     exact h1 (fun r=>match r with
      | some i=>ownTakeK M _ i fun a M'=>retOk ok a true fun r=>k r M'
      | none=>zeroOk P _ ok fun r=>k r M) h2
   ·exact h.elim
  ·exact h.elim
 ·exact h.elim
theorem oownUpdK_out {P:Program} {a:OAns} {t:TypeId} {m key x:AV} {M:St} {K:St→Prop} (h:oownUpdK P a t m key x M K):ownUpdK P t m key x M K:=by
 unfold oownUpdK at h
 unfold ownUpdK
 split at h
 ·rename_i hu
  rw [hu]
  dsimp only
  split at h
  ·rename_i id
   dsimp only
   split at h
   ·rename_i ks sz cells hole hob
    rw [hob]
    dsimp only
    obtain ⟨h1,h2,h3⟩:=Chk_elim h
    refine Chk_intro h1 ?_
    have h4:=h2 (updK M id sz cells hole x K) h3
    refine Det.mono2 findK_det h4 (fun kv r h5=>?_)
    obtain ⟨h6,h7⟩:=Chk_elim h5
    refine Chk_intro h6 ?_
    cases r with
    | none=>exact h7
    | some i =>
     obtain ⟨h8,h9,h10⟩:=Chk_elim h7
     refine Chk_intro ?_ h10
     rw [Bool.and_eq_true]
     exact ⟨h8,h9⟩
   ·exact h.elim
  ·exact h.elim
 ·exact h.elim
theorem ownAtK_mono {M:St} {x:AV} {X Y:Nat→Nat→Prop} (h:ownAtK M x X) (hk:∀ id i,X id i→Y id i):ownAtK M x Y:=by
 unfold ownAtK at h ⊢
 split at h
 ·split at h
  ·exact hk _ _ h
  ·exact h.elim
 ·exact h.elim
theorem oownD_out {P:Program} {vs:List AV} {M:St} {k:AV→St→Prop} (h:oownD P A pl o vs M k):ownD P pl o vs M k:=by
 unfold oownD at h
 split at h
 ·exact h
 ·split at h
  ·rename_i ho
   unfold ownD
   rw [ho]
   exact ownAtK_mono h (fun _ _ h=>oownLoadK_out h)
  ·rename_i ho
   unfold ownD
   rw [ho]
   exact ownAtK_mono h (fun _ _ h=>oownStoreK_out h)
  ·rename_i ho
   unfold ownD
   rw [ho]
   exact omakeOwnK_out h
  ·rename_i ho
   unfold ownD
   rw [ho]
   exact oownLookK_out h
  ·rename_i ho
   unfold ownD
   rw [ho]
   exact oownUpdK_out h
  ·rename_i ho
   unfold ownD
   rw [ho]
   exact oownUpdK_out h
  ·exact h.elim
theorem oputBackK_out {S:St} {id:Nat} {K:St→Prop} (h:oputBackK A S id K):putBackK S id K:=by
 unfold oputBackK at h
 split at h
 ·exact h
 ·unfold putBackK
  split at h
  ·rename_i hob
   rw [hob]
   dsimp only
   split at h
   ·rename_i hk
    rw [hk]
    obtain ⟨h1,h2,h3,h4⟩:=Chk_elim h
    refine Chk_intro ?_ ?_
    ·rw [Bool.and_eq_true]
     exact ⟨h1,h2⟩
    ·rw [h3]
     exact h4
   ·exact h.elim
  ·rename_i hob
   rw [hob]
   dsimp only
   obtain ⟨h2,h3,h4⟩:=h
   refine Chk_intro h2 ?_
   rw [h3]
   exact h4
  ·exact h.elim
theorem oclosesK_out:∀ {ids:List Nat} {S:St} {K:St→Prop},oclosesK A ids S K→closesK ids S K
 | [],_,_,h=>h
 | _::_,_,_,h=>Det.mono putBackK_det (oputBackK_out h) (fun _ h=>oclosesK_out h)
theorem ofreezeK_out {S:St} {id:Nat} {K:St→Prop} (h:ofreezeK A S id K):freezeK S id K:=by
 unfold ofreezeK at h
 split at h
 ·exact h
 ·unfold freezeK
  split at h
  ·rename_i hob
   rw [hob]
   dsimp only
   rw [h.1]
   exact h.2
  ·exact h.elim
theorem ofreezesK_out:∀ {ids:List Nat} {S:St} {K:St→Prop},ofreezesK A ids S K→freezesK ids S K
 | [],_,_,h=>h
 | _::_,_,_,h=>Det.mono freezeK_det (ofreezeK_out h) (fun _ h=>ofreezesK_out h)
theorem opostR_out {id:Nat} {S:St} {K:St→Prop} (h:opostR A pl id S K):postR pl id S K:=by
 unfold opostR at h
 unfold postR
 split at h
 ·rename_i hc
  rw [hc]
  exact h
 ·rename_i hc
  rw [hc]
  dsimp only
  refine Det.mono (closesK_det _ _) (oclosesK_out h) (fun S1 h=>?_)
  split at h
  ·rename_i hc
   rw [hc]
   exact h
  ·rename_i hc
   rw [hc]
   exact ofreezesK_out h
theorem owopD0_out (hC:OKC C) {vs:List AV} {M:St} {k:AV→St→Prop} (h:owopD0 C A o vs M k):wopD0 C o vs M k:=by
 unfold owopD0 at h
 split at h
 ·rename_i t X Y l c ho
  split at h
  ·unfold wopD0
   rw [ho]
   exact omakeSliceK_out h
  ·exact h
 ·rename_i c fid first cap as ho
  unfold wopD0
  rw [ho]
  dsimp only
  split at h
  ·rename_i x hcal
   rw [hcal]
   obtain ⟨h1,h⟩:=Chk_elim h
   refine Chk_intro h1 ?_
   split at h
   ·obtain ⟨h2,h3⟩:=h
    obtain ⟨r0,o0,⟨e1,e2⟩,h4⟩:=hC.det.scall _ _ _ _ h2
    subst e1 e2
    exact h4 _ h3
   ·exact h
  ·exact h.elim
 ·rename_i hne hne2
  have h':=owop_out h
  unfold wopD0
  split
  ·rename_i t X Y l c ho
   exact absurd rfl (hne t X Y l c ho)
  ·rename_i c fid first cap as ho
   exact absurd rfl (hne2 c fid first cap as ho)
  ·exact h'
theorem owopD_out (hC:OKC C) {vs:List AV} {M:St} {k:AV→St→Prop} (h:owopD C A pl o vs M k):wopD C pl o vs M k:=by
 unfold owopD at h
 unfold wopD
 split at h
 ·rename_i hw
  rw [hw]
  exact oownD_out h
 ·rename_i hw
  rw [hw]
  exact owopD0_out hC h
theorem owop1D_out (hC:OKC C) {S:St} {K:St→Prop} (h:owop1D C A pl o S K):wop1D C pl o S K:=Det.mono getsK_det h (fun _ h=>owopD_out hC h)
theorem oown1_out {S:St} {K:St→Prop} (h:oown1 C A pl o S K):own1 C pl o S K:=Det.mono getsK_det h (fun _ h=>oownD_out h)
theorem ofop1_out {S:St} {K:St→Prop} (h:ofop1 C o S K):fop1 C o S K:=Det.mono getsK_det h (fun _ h=>ofop_out h)
theorem oop0_out (hC:OKC C) {S:St} {K:St→Prop} (h:oop0 C A pl o S K):aop0 C pl o S K:=by
 refine Det.mono (aop0_det hC.det) (K:=oaft A o K) ?_ (fun _ h=>oaft_out h)
 unfold oop0 at h
 unfold aop0
 split at h
 ·rename_i hc
  rw [hc]
  exact opop1_out h
 ·rename_i hc
  rw [hc]
  exact orop1_out hC h
 ·rename_i hc
  rw [hc]
  exact owop1_out h
 ·rename_i h0 h1 h2
  have:=oxop_out hC h
  split
  ·exact absurd (by assumption) h0
  ·exact absurd (by assumption) h1
  ·exact absurd (by assumption) h2
  ·exact this
theorem oop_out (hC:OKC C) {S:St} {K:St→Prop} (h:oop C A pl o S K):aop C pl o S K:=by
 unfold oop at h
 unfold aop
 split at h
 ·rename_i hw
  rw [hw]
  exact Det.mono own1_det (oown1_out h) (fun _ h=>oaft_out h)
 ·rename_i hw
  rw [hw]
  exact oop0_out hC h
theorem odop_out (hC:OKC C) {S:St} {K:St→Prop} (h:odop C A pl o S K):dop C pl o S K:=by
 unfold odop at h
 split at h
 ·rename_i hc
  refine Det.mono (dop_det hC.det) (K:=oaft A o K) ?_ (fun _ h=>oaft_out h)
  unfold dop
  rw [hc]
  exact opop1_out h
 ·rename_i hc
  refine Det.mono (dop_det hC.det) (K:=oaft A o K) ?_ (fun _ h=>oaft_out h)
  unfold dop
  rw [hc]
  exact orop1_out hC h
 ·rename_i hc
  refine Det.mono (dop_det hC.det) (K:=oaft A o K) ?_ (fun _ h=>oaft_out h)
  unfold dop
  rw [hc]
  exact owop1D_out hC h
 ·rename_i hc
  unfold dop
  rw [hc]
  exact h
 ·rename_i hc
  refine Det.mono (dop_det hC.det) (K:=oaft A o K) ?_ (fun _ h=>oaft_out h)
  unfold dop
  rw [hc]
  exact ofop1_out h
 ·rename_i h0 h1 h2 h4 h5
  refine Det.mono (dop_det hC.det) (K:=oaft A o K) ?_ (fun _ h=>oaft_out h)
  unfold dop
  split
  ·exact absurd (by assumption) h0
  ·exact absurd (by assumption) h1
  ·exact absurd (by assumption) h2
  ·exact absurd (by assumption) h4
  ·exact absurd (by assumption) h5
  ·split at h
   ·exact False.elim h
   ·rename_i hb
    rw [hb]
    exact oxop_out hC h
theorem oag_out (hC:OKC C) {all:Array Oper} {S:St} {K:St→Prop} (h:oag C A pl all o S K):ag C pl all o S K:=by
 unfold oag at h
 unfold ag
 split at h
 ·rename_i hg
  rw [hg]
  obtain ⟨h1,h⟩:=Chk_elim h
  exact Chk_intro h1 (odop_out hC h)
 ·rename_i j want hg
  rw [hg]
  dsimp only
  split at h
  ·exact False.elim h
  ·rename_i d hd
   rw [hd]
   dsimp only
   refine Det2.mono guardAt_det h (fun b S1 h=>?_)
   have key:∀ {S:St},Chk (keyChk pl all o S) (odop C A pl o S K)→dopc C pl all o S K:=by
    intro S h
    obtain ⟨h1,h⟩:=Chk_elim h
    exact Chk_intro h1 (odop_out hC h)
   unfold gsel at h ⊢
   split at h
   ·exact key h
   ·exact key h
   ·exact h
theorem ogo_out (hC:OKC C) {ops:Array Oper} {i:Nat} {S:St} {K:St→Prop} (h:ogo C A pl ops i S K):dgo C pl ops i S K:=by
 unfold ogo at h
 unfold dgo
 split at h
 ·exact False.elim h
 ·rename_i o ho
  rw [ho]
  exact oag_out hC h
theorem sameS_in {S2 S1:St} {X:Prop} (h:S2=S1∧X):sameS S2 S1 X:=by
 unfold sameS
 split
 ·exact h.2
 ·exact h
theorem oT_out (hC:OKC C) {ops:Array Oper} {ws:List Nat}:∀ {n a:Nat} {listed:Array Bool} {t:PT} {S:St} {K:St→Prop},planF pl ops ws n a listed=some t→oT C A pl ops t none S K→dAny C pl ops ws n listed S K
 | 0,a,listed,t,S,K,hp,h=>by
  unfold planF at hp
  unfold dAny
  split at hp
  ·cases hp
   rename_i hr
   rw [hr]
   exact h
  ·cases hp
 | n + 1,a,listed,t,S,K,hp,h=>by
  unfold planF at hp
  unfold dAny
  split at hp
  ·cases hp
   rename_i hr
   rw [hr]
   exact h
  ·rename_i r rs hr
   rw [hr]
   dsimp only
   have step:∀ {k b:Nat} {u:PT} {S:St} {K:St→Prop},planF pl ops ws n b (listed.setIfInBounds k true)=some u→(ogo C A pl ops k S fun S'=>oT C A pl ops u none S' K)→dgo C pl ops k S fun S'=>dAny C pl ops ws n (listed.setIfInBounds k true) S' K :=
    fun hj h=>Det.mono (dgo_det hC.det) (ogo_out hC h) (fun _ h=>oT_out hC hj h)
   have alts:∀ {b:Nat} {is:List Nat} {u:PT} {S S1:St} {K:St→Prop} {X:Prop},planL (fun i=>planF pl ops ws n b (listed.setIfInBounds i true)) is=some u→oT C A pl ops u (some (S1,X)) S K →
     dall (fun i K'=>dgo C pl ops i S fun S'=>dAny C pl ops ws n (listed.setIfInBounds i true) S' K') is S1 X:=by
    intro b is
    induction is with
    | nil =>
     intro u S S1 K X hu h
     unfold planL at hu
     cases hu
     exact h
    | cons i is ih =>
     intro u S S1 K X hu h
     unfold planL at hu
     split at hu
     ·rename_i v hv
      split at hu
      ·rename_i w hw
       cases hu
       refine Det.mono (Det.bind (dgo_det hC.det) (fun S'=>dAny_det hC.det _ _ _)) (step hv h) (fun S2 h=>?_)
       exact sameS_in ⟨h.1,ih hw h.2⟩
      ·cases hu
     ·cases hu
   split at hp
   ·rename_i k hk
    rw [hk]
    dsimp only
    split at hp
    ·cases hp
     rename_i u hj
     exact step hj h
    ·cases hp
   ·rename_i hk
    rw [hk]
    dsimp only
    split at hp
    ·split at hp
     ·cases hp
      rename_i u hj
      refine Det.mono (Det.bind (dgo_det hC.det) (fun S'=>dAny_det hC.det _ _ _)) (step hj h) (fun _ h=>?_)
      exact h
     ·cases hp
    ·split at hp
     ·rename_i b _ _
      unfold planL at hp
      split at hp
      ·rename_i v hv
       split at hp
       ·rename_i w hw
        cases hp
        refine Det.mono (Det.bind (dgo_det hC.det) (fun S'=>dAny_det hC.det _ _ _)) (step hv h) (fun S1 h=>?_)
        exact alts hw h
       ·cases hp
      ·cases hp
     ·cases hp
theorem oP_out (hC:OKC C) {ops:Array Oper} {ws:List Nat}:∀ {n:Nat} {listed:Array Bool} {t:PT} {S:St} {K:St→Prop},planP pl ops ws n listed=some t→oT C A pl ops t none S K→dPre C pl ops ws n listed S K
 | 0,listed,t,S,K,hp,h=>oT_out hC (n:=0) hp h
 | n + 1,listed,t,S,K,hp,h=>by
  unfold planP at hp
  unfold dPre
  split at hp
  ·rename_i i hi
   rw [hi]
   dsimp only
   split at hp
   ·cases hp
    rename_i u hj
    exact Det.mono (dgo_det hC.det) (ogo_out hC h) (fun _ h=>oP_out hC hj h)
   ·cases hp
  ·rename_i hi
   rw [hi]
   exact oT_out hC hp h
theorem oAll_out (hC:OKC C) {ops:Array Oper} {t:PT} {S:St} {K:St→Prop} (hp:planOf pl ops=some t) (h:oT C A pl ops t none S K):dAll C pl ops S K:=by
 unfold planOf at hp
 unfold dAll
 split at hp
 ·cases hp
 ·rename_i hn
  refine Chk_intro hn ?_
  split at hp
  ·rename_i hc
   rw [hc]
   exact oT_out hC hp h
  ·rename_i hc
   rw [hc]
   exact oP_out hC hp h
theorem ptEq_eq:∀ {x y:PT},ptEq x y=true→x=y
 | .done,.done,_=>rfl
 | .go i t,.go j u,h=>by
  unfold ptEq at h
  rw [Bool.and_eq_true] at h
  rw [Nat.eq_of_beq_eq_true h.1,ptEq_eq h.2]
 | .alt i t r,.alt j u s,h=>by
  unfold ptEq at h
  rw [Bool.and_eq_true,Bool.and_eq_true] at h
  rw [Nat.eq_of_beq_eq_true h.1,ptEq_eq h.2.1,ptEq_eq h.2.2]
 | .done,.go _ _,h=>by cases h
 | .done,.alt _ _ _,h=>by cases h
 | .go _ _,.done,h=>by cases h
 | .go _ _,.alt _ _ _,h=>by cases h
 | .alt _ _ _,.done,h=>by cases h
 | .alt _ _ _,.go _ _,h=>by cases h
end
open Go.RowKit (Below)
theorem LoopD.weak {P:Program} {pl:Pol} {c:Code} {S S':St} {K:Ex→St→Prop} (hw:WeakS S S') (h:LoopD P pl c S' K):LoopD P pl c S K:=by
 obtain ⟨n,e,S1,h1,h2⟩:=h
 refine ⟨n,e,S1,fun r G E a w Q hM ht hQ=>?_,h2⟩
 obtain ⟨E',hM',ht'⟩:=hw G E a w hM ht
 exact h1 r G E' a w Q hM' ht' hQ
def CodeD (P:Program) (c:Code) (S:St) (K:Ex→St→Prop):Prop :=
 ∃ e S',(∀ (r:Option Nat) (G:Gh) (E:Env) (a:Act) (w:World) (Q:Exit→Act→World→Prop),SimM G pn E S w→TR E S.t a→QOK G (fun e' S''=>e'=e∧S''=S') Q→c.wpIn (rd r) 0 P Q a w)∧K e S'
theorem CodeD.weak {P:Program} {c:Code} {S S':St} {K:Ex→St→Prop} (hw:WeakS S S') (h:CodeD P c S' K):CodeD P c S K:=by
 obtain ⟨e,S1,h1,h2⟩:=h
 refine ⟨e,S1,fun r G E a w Q hM ht hQ=>?_,h2⟩
 obtain ⟨E',hM',ht'⟩:=hw G E a w hM ht
 exact h1 r G E' a w Q hM' ht' hQ
theorem CodeD.mono {P:Program} {c:Code} {S:St} {K K':Ex→St→Prop} (h:CodeD P c S K) (hk:∀ e S',K e S'→K' e S'):CodeD P c S K' :=
 let ⟨e,S',h1,h2⟩:=h
 ⟨e,S',h1,hk _ _ h2⟩
theorem ctxS_okc (cfg:Cfg):OKC (ctxS cfg):=⟨ctxS_det cfg⟩
theorem slNil_sound {P:Program} {op:BinOp} {t e:TypeId} {rows:List (List AV)} {E:Env} {u:Value} (hop:eqOp op=true) (hu:P.underlying t=some (.slice e)) (hx:VR E (.sl rows) u) (w:World) (X Y:Operand) :
  ∃ b,(do eqGuard op t X Y u (.slice none 0 0); binOp op t u (.slice none 0 0):Sem Value).run P w=.ok (.bool b) w∧((b=isEql op∧rows=[])∨b=!(isEql op)):=by
 have h0:∃ b,(∀ d:Nat,(Op.equalIn (d + 1) t u (.slice none 0 0)).run P w=.ok b w)∧((b=true∧rows=[])∨b=false):=by
  cases hx with
  | sln=>exact ⟨true,fun d=>by unfold Op.equalIn; rw [Sem.run_bind,run_underlying hu]; rfl,.inl ⟨rfl,rfl⟩⟩
  | sle _ a cap=>exact ⟨false,fun d=>by unfold Op.equalIn; rw [Sem.run_bind,run_underlying hu]; rfl,.inr rfl⟩
  | sl us h1 h2 h3 h4 h5 h6 h7=>exact ⟨false,fun d=>by unfold Op.equalIn; rw [Sem.run_bind,run_underlying hu]; rfl,.inr rfl⟩
 obtain ⟨b,hb,hr⟩:=h0
 have hn:noIf u=true:=by cases hx <;> rfl
 have he:(Op.equal t u (.slice none 0 0)).run P w=.ok b w:=eql_of hb
 rw [eqGuard_no hn]
 cases op with
 | eql =>
  refine ⟨b,?_,hr⟩
  have:binOp .eql t u (.slice none 0 0)=(do pure (.bool (← Op.equal t u (.slice none 0 0)))):=by cases hx <;> rfl
  simp [this,he]
 | neq =>
  refine ⟨!b,?_,?_⟩
  ·have:binOp .neq t u (.slice none 0 0)=(do pure (.bool (!(← Op.equal t u (.slice none 0 0))))):=by cases hx <;> rfl
   simp [this,he]
  ·rcases hr with ⟨rfl,hr⟩ | rfl
   ·exact .inl ⟨rfl,hr⟩
   ·exact .inr rfl
 | _=>cases hop
section
variable {G:Gh} {C:Ctx} {A:RAns} {pl:Pol}
theorem oops_sound (hO:OKC C) (hC:CallOK C) {rr:Option Nat} {all:Array Oper} {Q:Exit→Act→World→Prop}:∀ {ops:List Oper} {E:Env} {S:St} {w:World} {a:Act} {K:St→Prop},SimM G pn E S w→TR E S.t a→oops C A pl all ops S K →
  (∀ S' E' a' w',K S'→SimM G pn E' S' w'→TR E' S'.t a'→Q .normal a' w')→wpListIn (rd rr) 0 C.P all Q ops a w
 | [],E,S,w,a,K,hM,ht,h,hQ=>hQ _ _ _ _ h hM ht
 | o::rest,E,S,w,a,K,hM,ht,h,hQ=>by
  have step:∀ {S1:St},SimM G pn E S1 w→TR E S1.t a→Region.wanted o (yielded all a.tmps)=true→(oop C A pl o S1 fun S'=>oops C A pl all rest S' K)→wpListIn (rd rr) 0 C.P all Q (o::rest) a w:=by
   intro S1 hM1 ht1 hw h
   unfold wpListIn
   rw [if_pos hw]
   refine op_in (aop_nd (oop_out hO h)) (aop_sound hC hM1 ht1 (oop_out hO h) _ _ (fun S' E' a' w' hk hS htr=>?_))
   exact oops_sound hO hC hS htr hk hQ
  unfold oops at h
  split at h
  ·rename_i hg
   have hw:Region.wanted o (yielded all a.tmps)=true:=by unfold Region.wanted; rw [hg]
   split at h
   ·unfold wpListIn
    rw [if_pos hw]
    unfold odemK at h
    split at h
    ·rename_i op t x yt ho
     split at h
     ·rename_i e hu
      obtain ⟨c,h,hc⟩:=getK_elim h ht
      split at h
      ·rename_i rows
       obtain ⟨hop,h1,h2⟩:=Chk_elim h
       obtain ⟨b,hrun,hbr⟩:=slNil_sound hop hu hc w x (.const (.slice none 0 0))
       have hex:(execOp a.eval o).run C.P w=.ok (.value (.bool b)) w:=by
        have:(execOp a.eval o)=(do pure (.value (← (do eqGuard op t x (.const (.slice none 0 0)) (a.eval x) (.slice none 0 0); binOp op t (a.eval x) (.slice none 0 0):Sem Value)))):=by
         unfold execOp
         rw [ho]
         simp [Act.eval]
        rw [this,Sem.run_bind,hrun]
        rfl
       refine op_in (fun c hc=>by rw [ho] at hc; cases hc) (wp_value hex ?_)
       have h3:putK o.dst (.v (.bool b)) S fun S'=>oops C A pl all rest S' K:=by
        rcases hbr with ⟨rfl,hr⟩ | rfl
        ·exact h1 hr
        ·exact h2
       rw [putK_iff] at h3
       exact oops_sound hO hC (hM.congr setT_l setT_o setT_b) (ht.put (.v _ _ rfl)) h3 hQ
      ·exact False.elim h
     ·exact False.elim h
    ·exact False.elim h
   ·exact step hM ht hw h
  ·rename_i j want hg
   split at h
   ·exact False.elim h
   ·rename_i d hd
    obtain ⟨b,S1,h,hb,hM1,ht1⟩:=guardAt_elim hM ht h
    rcases gsel_wanted hg (yielded_of hd hb) h with ⟨hw,h⟩ | ⟨hw,h⟩
    ·exact step hM1 ht1 hw h
    ·rw [putK_iff] at h
     unfold wpListIn
     rw [if_neg (by rw [hw]; exact fun h=>by cases h)]
     exact ⟨fun _ _=>trivial,oops_sound hO hC (hM1.congr setT_l setT_o setT_b) (ht1.put (VR_undef _)) h hQ⟩
end
theorem aftR_out {A:Ans} {id:Nat} {S:St} {K:St→Prop} (h:aftR A id S K):∃ S',WeakS S S'∧K S':=by
 unfold aftR at h
 split at h
 ·exact wle_out h
 ·exact ⟨S,.refl S,h⟩
theorem ocode_sound {cfg:Cfg} (hmix:cfg.P.follows .mixedOrders=true) {A:Ans} {pl:Pol}:∀ (c:Code) {S:St} {K:Ex→St→Prop},ordB pl A.ord c=true→ocode (ctxS cfg) (CodeD cfg.P) A pl c S K →
  ∀ (r:Option Nat) (G:Gh) (E:Env) (a:Act) (w:World) (Q:Exit→Act→World→Prop),SimM G pn E S w→TR E S.t a→QOK G K Q→c.wpIn (rd r) 0 cfg.P Q a w:=by
 have hC:=ctxS_okc cfg
 intro c
 induction c with
 | skip=>exact fun _ h r G E a w Q hM ht hQ=>wpIn_skip (hQ .nrm _ E _ _ h hM ht)
 | region id ops draw =>
  intro S K hB h r G E a w Q hM ht hQ
  cases draw with
  | false =>
   refine wpIn_region_list (oops_sound hC (ctxS_call cfg) hM ht h (fun S' E' a' w' hk hS htr=>?_))
   obtain ⟨S3,E3,hk,hS,htr⟩:=postR_sound hS htr (opostR_out hk)
   obtain ⟨S2,hw,hk⟩:=aftR_out hk
   obtain ⟨E2,hM2,ht2⟩:=hw G E3 a' w' hS htr
   exact hQ .nrm _ _ _ _ hk hM2 ht2
  | true =>
   refine ctxS_draw hmix pl id ops S (fun e S'=>e=.nrm∧aftR A id S' (K .nrm)) ?_ r G E a w Q hM ht (fun e S' E' a' w' hk hS htr=>?_)
   ·unfold ordB at hB
    have h':(match fnd A.ord id with
    | some is=>Chk (drawB pl ops) (preK (ctxS cfg).P (allocs ops.toList) S fun S1=>oT (ctxS cfg) (rans A id) pl ops is none S1 fun S'=>postK (allocs ops.toList) S' (opostR (rans A id) pl id S' fun S''=>aftR A id S'' (K .nrm)))
    | none=>Fail 440):=h
    split at hB
    ·rename_i is js h1 h2
     rw [h1] at h'
     dsimp only at h'
     obtain ⟨h3,h'⟩:=Chk_elim h'
     refine Chk_intro h3 ?_
     refine Det.mono preK_det h' (fun S1 h=>?_)
     rw [ptEq_eq hB] at h
     refine Det.mono (dAll_det hC.det) (oAll_out hC h2 h) (fun S' h=>?_)
     obtain ⟨h4,h5⟩:=postK_out h
     exact h5 _ (Det.mono postR_det (opostR_out h4) (fun S'' h=>⟨rfl,h⟩))
    ·cases hB
   ·obtain ⟨rfl,hk⟩:=hk
    obtain ⟨S2,hw,hk⟩:=aftR_out hk
    obtain ⟨E2,hM2,ht2⟩:=hw G E' a' w' hS htr
    exact hQ .nrm _ _ _ _ hk hM2 ht2
 | seq x y ihx ihy =>
  intro S K hB h r G E a w Q hM ht hQ
  unfold ordB at hB
  rw [Bool.and_eq_true] at hB
  refine wpIn_seq (ihx hB.1 h r G E a w _ hM ht (fun e S' E' a' w' hk hS htr=>?_))
  cases e with
  | nrm =>
   dsimp only at hk
   split at hk
   ·obtain ⟨S2,h1,⟨e2,S3,h2,h3,h4⟩,h5⟩:=wle_out hk
    subst h3 h4
    obtain ⟨E2,hM2,ht2⟩:=((wk_weak _ _).trans h1) G E' a' w' hS htr
    refine h2 r G E2 a' w' Q hM2 ht2 (fun e' S'' E'' a'' w'' he hS' ht'=>?_)
    obtain ⟨rfl,rfl⟩:=he
    exact hQ _ _ _ _ _ h5 hS' ht'
   ·exact ihy hB.2 hk r G E' a' w' Q hS htr hQ
  | ex i=>exact hQ (.ex i) _ _ _ _ hk hS htr
  | ret=>exact hQ .ret _ _ _ _ hk hS htr
 | cond c x y ihx ihy =>
  intro S K hB h r G E a w Q hM ht hQ
  unfold ordB at hB
  rw [Bool.and_eq_true] at hB
  obtain ⟨b,S1,h1,h2,h3,h4⟩:=boolOf_elim hM ht h
  cases b with
  | true=>exact wpIn_cond_true h2 (ihx hB.1 h1 r G E a w Q h3 h4 hQ)
  | false=>exact wpIn_cond_false h2 (ihy hB.2 h1 r G E a w Q h3 h4 hQ)
 | block id c ih =>
  intro S K hB h r G E a w Q hM ht hQ
  refine wpIn_block (ih hB h r G E a w _ hM ht (fun e S' E' a' w' hk hS htr=>?_))
  cases e with
  | nrm=>exact hQ .nrm _ _ _ _ hk hS htr
  | ret=>exact hQ .ret _ _ _ _ hk hS htr
  | ex i =>
   show Exit.inBlock id Q (.exit i) a' w'
   unfold Exit.inBlock
   dsimp only at hk
   split at hk
   ·rename_i hb
    have:=Nat.eq_of_beq_eq_true hb
    subst this
    simp only [if_pos]
    exact hQ .nrm _ _ _ _ hk hS htr
   ·rename_i hb
    have hne:¬ i=id:=fun e=>by subst e; simp at hb
    simp only [if_neg hne]
    exact hQ (.ex i) _ _ _ _ hk hS htr
 | loop c ih =>
  intro S K hB h r G E a w Q hM ht hQ
  have h':(match fnd A.lps (regOf c) with
  | some (W,L,e,S1)=>wle L (wk W S) fun S2=>((ctxS cfg).loop pl c S2 fun e' S'=>e'=e∧S'=S1)∧K e S1
  | none=>(ctxS cfg).loop pl c S K):=h
  split at h'
  ·obtain ⟨S2,h1,h2,h3⟩:=wle_out h'
   obtain ⟨E2,hM2,ht2⟩:=((wk_weak _ _).trans h1) G E a w hM ht
   refine ctxS_loop cfg pl c S2 _ h2 r G E2 a w Q hM2 ht2 (fun e' S'' E'' a'' w'' he hS' ht'=>?_)
   obtain ⟨rfl,rfl⟩:=he
   exact hQ _ _ _ _ _ h3 hS' ht'
  ·exact ctxS_loop cfg pl c S K h' r G E a w Q hM ht hQ
 | exit id=>exact fun _ h r G E a w Q hM ht hQ=>wpIn_exit (hQ (.ex id) _ E _ _ h hM ht)
 | ret=>exact fun _ h r G E a w Q hM ht hQ=>wpIn_ret (hQ .ret _ E _ _ h hM ht)
 | _=>exact fun _ h=>False.elim h
theorem CodeD.of {cfg:Cfg} (hmix:cfg.P.follows .mixedOrders=true) {pl:Pol} {c:Code} {S S1:St} {e:Ex} {K:Ex→St→Prop} {A:Ans} {we:List (Nat×(Wk×Le))} (hB:ordB pl A.ord c=true)
  (h:oround (ctxS cfg) (CodeD cfg.P) A pl we c S (fun e' S'=>e'=e∧S'=S1)) (hk:K e S1):CodeD cfg.P c S K:=by
 refine ⟨e,S1,fun r G E a w Q hM ht hQ=>?_,hk⟩
 refine ocode_sound hmix c hB h r G E a w Q hM ht (fun e' S' E' a' w' hk hS htr=>?_)
 dsimp only at hk
 split at hk
 ·obtain ⟨S2,h1,rfl,rfl⟩:=wle_out hk
  obtain ⟨E2,hM2,ht2⟩:=((wk_weak _ _).trans h1) G E' a' w' hS htr
  exact hQ _ _ _ _ _ ⟨rfl,rfl⟩ hM2 ht2
 ·obtain ⟨rfl,rfl⟩:=hk
  exact hQ _ _ _ _ _ ⟨rfl,rfl⟩ hS htr
theorem LoopD.round {cfg:Cfg} {pl:Pol} {c:Code} {S:St} {K:Ex→St→Prop}
  (h:CodeD cfg.P c S fun e S'=>match e with
   | .nrm=>LoopD cfg.P pl c S' K
   | .ex i=>K (.ex i) S'
   | .ret=>K .ret S'):LoopD cfg.P pl c S K:=by
 obtain ⟨e1,S1,h2,h1⟩:=h
 have run:∀ (e:Ex) (S3:St) (n:Nat),(∀ (r:Option Nat) (G:Gh) (E:Env) (a:Act) (w:World) (Q:Exit→Act→World→Prop),SimM G pn E S1 w→TR E S1.t a→QOK G (fun e' S''=>e'=e∧S''=S3) Q→Exit.then (Code.roundsIn (rd r) 0 cfg.P c Q n) Q (exOf e1) a w) →
   ∀ (r:Option Nat) (G:Gh) (E:Env) (a:Act) (w:World) (Q:Exit→Act→World→Prop),SimM G pn E S w→TR E S.t a→QOK G (fun e' S''=>e'=e∧S''=S3) Q→Code.roundsIn (rd r) 0 cfg.P c Q (n + 1) a w:=by
  intro e S3 n hn r G E a w Q hM ht hQ
  refine h2 r G E a w _ hM ht (fun e' S' E' a' w' hk hS htr=>?_)
  obtain ⟨rfl,rfl⟩:=hk
  exact hn r G E' a' w' Q hS htr hQ
 cases e1 with
 | nrm =>
  obtain ⟨n,e,S',hl,hk⟩:=h1
  exact ⟨n + 1,e,S',run e S' n (fun r G E a w Q hM ht hQ=>hl r G E a w Q hM ht hQ),hk⟩
 | ex i=>exact ⟨1,.ex i,S1,run _ _ 0 (fun r G E a w Q hM ht hQ=>hQ _ _ _ _ _ ⟨rfl,rfl⟩ hM ht),h1⟩
 | ret=>exact ⟨1,.ret,S1,run _ _ 0 (fun r G E a w Q hM ht hQ=>hQ _ _ _ _ _ ⟨rfl,rfl⟩ hM ht),h1⟩
def rk {σ τ:Type} (Sf:σ→St) (out:τ→Ex×St) (r:σ⊕τ) (e:Ex) (S':St):Prop :=
 match r with
 | .inl s'=>e=.nrm∧S'=Sf s'
 | .inr t=>e≠.nrm∧e=(out t).1∧S'=(out t).2
theorem rkN {σ τ:Type} {Sf:σ→St} {out:τ→Ex×St} {s:σ}:rk Sf out (.inl s) .nrm (Sf s):=⟨rfl,rfl⟩
theorem rkE {σ τ:Type} {Sf:σ→St} {out:τ→Ex×St} {t:τ} {e:Ex} {S:St} (h:out t=(e,S)) (hne:e≠.nrm):rk Sf out (.inr t) e S:=by
 show e≠.nrm∧e=(out t).1∧S=(out t).2
 rw [h]
 exact ⟨hne,rfl,rfl⟩
def pk {τ:Type} (out:τ→Ex×St) (t:τ) (e:Ex) (S':St):Prop:=e=(out t).1∧S'=(out t).2
theorem pkE {τ:Type} {out:τ→Ex×St} {t:τ} {e:Ex} {S:St} (h:out t=(e,S)):pk out t e S:=by
 show e=(out t).1∧S=(out t).2
 rw [h]
 exact ⟨rfl,rfl⟩
theorem LoopD.iter {cfg:Cfg} {pl:Pol} {c:Code} {σ τ:Type} {step:σ→Option (σ⊕τ)} (Sf:σ→St) (out:τ→Ex×St)
  (hs:∀ s r,step s=some r→CodeD cfg.P c (Sf s) (rk Sf out r)):∀ (n:Nat) (s:σ) (t:τ),A.iter step n s=some t→LoopD cfg.P pl c (Sf s) fun e S'=>e=(out t).1∧S'=(out t).2
 | 0,s,t,h=>by cases h
 | n + 1,s,t,h=>by
  unfold A.iter at h
  split at h
  ·cases h
  ·rename_i s' hs'
   refine LoopD.round ((hs s _ hs').mono fun e S' h1=>?_)
   obtain ⟨rfl,rfl⟩:=h1
   exact LoopD.iter Sf out hs n s' t h
  ·rename_i t' ht'
   cases h
   refine LoopD.round ((hs s _ ht').mono fun e S' h1=>?_)
   obtain ⟨h0,h1,h2⟩:=h1
   cases e with
   | nrm=>exact absurd rfl h0
   | ex i=>exact ⟨h1,h2⟩
   | ret=>exact ⟨h1,h2⟩
theorem PCall.le {P:Program} {f:Nat} {as as':List AV} {K:AV→Prop} (h:PCall P f as' K) (hl:LeR as as'):PCall P f as K:=by
 obtain ⟨r,⟨h1,h2⟩,h3⟩:=h
 exact ⟨r,⟨h1,fun F w us hF hg hv=>h2 F w us hF hg (hl.vrs hv)⟩,h3⟩
theorem PCall.to {P:Program} {f:Nat} {as:List AV} {r:AV} (h:PCall P f as fun x=>LeA x r):PCall P f as fun x=>x=r:=by
 obtain ⟨x,⟨h1,h2⟩,h3⟩:=h
 refine ⟨r,⟨h1,fun F w us hF hg hv=>(h2 F w us hF hg hv).mono ?_⟩,rfl⟩
 rintro e w' ⟨v,F',h4,h5,h6⟩
 exact ⟨v,F',h4,h3 _ _ h5,h6⟩
theorem obody_sound {cfg:Cfg} (hN:NoNum cfg.P) (hmix:cfg.P.follows .mixedOrders=true) {A:Ans} {f:Nat} {args:List AV} {o:List Ob} {K:AV→St→Prop} (hB:ordB (cfg.pol f) A.ord (bodyOf cfg.P f)=true) (h:obody (ctxS cfg) (CodeD cfg.P) A f args o K) :
  HasBody cfg.P f∧∀ (G:Gh) (E:Env) (w:World) (us:Array Value),SimM G pn E (stO o o.length) w→GTE E→VRs E args us.toList→Calls cfg.P f us w fun e w'=>∃ v r S' E',K r S'∧e=.returned v∧SimM G pn E' S' w'∧VR E' r v:=by
 unfold obody at h
 split at h
 ·rename_i fn hf
  split at h
  ·rename_i c hb
   have hb0:cfg.P.funcs[f]?=some fn:=hf
   refine ⟨⟨fn,c,hb0,hb,hN f fn hb0⟩,fun G E w us hM hg hv=>?_⟩
   refine rd_calls.1 (callsIn_of_wp (F:=rd none) (n:=0) hb0 hb trivial ?_)
   have hl:args.length=us.size:=by simpa using hv.1
   unfold bodyOf at hB
   rw [hb0] at hB
   dsimp only at hB
   rw [hb] at hB
   refine ocode_sound hmix c hB h none G E _ w _ (hM.congr rfl rfl rfl) ⟨?_,fun n c' u h1 h2=>?_,rfl,hg⟩ (fun e S' E' a' w' hk hS htr=>?_)
   ·simp [bads_len,hl]
   ·dsimp only at h1 h2
    by_cases hn:n<args.length
    ·rw [List.getElem?_append_left hn] at h1
     rw [Array.getElem?_append_left (by omega)] at h2
     exact hv.2 n c' u h1 (by simpa using h2)
    ·rw [List.getElem?_append_right (by omega)] at h1
     rw [bads_get h1]
     exact .bad _ _
   ·cases e with
    | ex i=>exact False.elim hk
    | nrm =>
     obtain ⟨r,u,hk',hr,hrun⟩:=results_sound hS htr hk
     exact ⟨htr.df,u,hrun,u,r,S',E',hk',rfl,hS,hr⟩
    | ret =>
     obtain ⟨r,u,hk',hr,hrun⟩:=results_sound hS htr hk
     exact ⟨htr.df,u,hrun,u,r,S',E',hk',rfl,hS,hr⟩
  ·exact False.elim h
 ·exact False.elim h
theorem PCall.ofO {cfg:Cfg} (hN:NoNum cfg.P) (hmix:cfg.P.follows .mixedOrders=true) {A:Ans} {f:Nat} {args:List AV} {r:AV} (hB:ordB (cfg.pol f) A.ord (bodyOf cfg.P f)=true) (h:opure (ctxS cfg) (CodeD cfg.P) A f args (fun x=>LeA x r)):PCall cfg.P f args (fun x=>x=r):=by
 obtain ⟨h1,h2⟩:=obody_sound hN hmix hB h
 refine ⟨r,⟨h1,fun F w us hF hg hv=>?_⟩,rfl⟩
 have hM:SimM { w0:=w,M:=fun _=>False,F:=F,mu:=fun _=>none } pn ⟨F,fun _=>none,w.heap⟩ (stO [] 0) w :=
  ⟨rfl,rfl,rfl,rfl,Nat.le_refl _,fun _ _ _=>rfl,fun _ h=>h,hF,fun _ h _=>.inl h,fun _ _ _ _ _ h=>(by cases h),fun _ _ _ _ _ _ _ _ _ h _=>(by cases h),fun _=>rfl,fun _=>trivial,fun _ h=>(by cases h),Nat.le_refl _,fun _ _=>rfl,fun _ _ h=>(by cases h),fun _ _=>rfl⟩
 refine (h2 _ _ w us hM hg hv).mono ?_
 rintro e w' ⟨v,c,S',E',hk,rfl,hS,hr⟩
 unfold dfzK at hk
 split at hk
 ·rename_i b hb
  rw [forceA_iff] at hk
  have hd:=dfz_sound hS _ hb hr (ids:=dids S'.o 6 c) (fun i hi=>hi)
  refine ⟨v,FD E' (dids S'.o 6 c),rfl,?_,⟨hS.os,hS.tape,hS.output,hS.size,fun b' hb'=>hS.keep b' hb' (fun h=>h)⟩,fun b' h=>.inl (hS.F0 b' h),fd_lt hS,fun b' h hlt=>?_⟩
  ·have e:(⟨FD E' (dids S'.o 6 c),fun _=>none,w'.heap⟩:Env)=E'.fd (dids S'.o 6 c):=by
    unfold Env.fd
    rw [hS.hp]
   rw [e]
   exact hk _ _ hd
  ·rcases h with h | ⟨id,_,o',s,n,h⟩
   ·rcases hS.Fnew b' h hlt with h3 | h3
    ·exact h3
    ·exact h3.elim
   ·rcases (hS.own _ _ _ _ _ h).2.2 with h3 | h3
    ·exact h3.elim
    ·have h3:w.heap.size≤b':=h3
     omega
 ·exact False.elim hk
theorem SD.ofO {cfg:Cfg} (hN:NoNum cfg.P) (hmix:cfg.P.follows .mixedOrders=true) {A:Ans} {f:Nat} {args:List AV} {o o1:List Ob} {r1:AV} {K:AV→List Ob→Prop} (hB:ordB (cfg.pol f) A.ord (bodyOf cfg.P f)=true) (h:ostore (ctxS cfg) (CodeD cfg.P) A f args o (fun r o'=>r=r1∧o'=o1)) (hk:K r1 o1):SD cfg.P f args o K:=by
 obtain ⟨h1,h2⟩:=obody_sound hN hmix hB h
 refine ⟨r1,o1,⟨h1,fun E w us hM hg hv=>(h2 _ E w us hM hg hv).mono ?_⟩,hk⟩
 rintro e w' ⟨v,r,S',E',hk,rfl,hS,hr⟩
 obtain ⟨hb,rfl,rfl⟩:=Chk_elim hk
 simp only [Bool.and_eq_true] at hb
 have:=hS.obj_only
 rw [Nat.eq_of_beq_eq_true hb.2] at this
 exact ⟨v,r,S'.o,E'.ob,⟨rfl,rfl⟩,rfl,this,noL_ob 4 hb.1 hr⟩
def aInt (k:IntKind) (x:Int):AV:=.v (.int k x)
def aBool (x:Bool):AV:=.v (.bool x)
def aStr (x:ByteArray):AV:=.v (.string x)
def aSl {α:Type} (f:α→List AV) (l:List α):AV:=.sl (l.map f)
def aAgg {α:Type} (f:α→List AV) (x:α):AV:=.agg (f x)
def eInt (k:IntKind) (x:Int):List AV:=[.v (.int k x)]
def eBool (x:Bool):List AV:=[.v (.bool x)]
def eStr (x:ByteArray):List AV:=[.v (.string x)]
def eSl {α:Type} (f:α→List AV) (l:List α):List AV:=[.sl (l.map f)]
def eKV {α β:Type} (f:α→AV) (g:β→AV) (e:α×β):AV×AV:=(f e.1,g e.2)
def optP {α:Type} (f:α→List AV):Option α→AV
 | none=>.nilp
 | some x=>.fptr (f x) 0
def ePtr {α:Type} (f:α→List AV) (x:Option α):List AV:=[optP f x]
theorem eqI {k:IntKind} {a b:Int} (h:(a==b)=true):AV.v (.int k a)=AV.v (.int k b):=by rw [eq_of_beq h]
theorem neE {i:Nat}:Ex.ex i≠Ex.nrm:=fun h=>by cases h
theorem neR:Ex.ret≠Ex.nrm:=fun h=>by cases h
theorem len_map {α:Type} (f:α→List AV) (l:List α):AV.v (.int .i64 (((l.map f).length:Nat):Int))=AV.v (.int .i64 (l.length:Int)):=by rw [List.length_map]
theorem at_map {α:Type} (f:α→List AV) {l:List α} {i:Int} {x:α} (h:getI l i=some x):at? (l.map f) i=some (f x):=by
 unfold getI at h
 unfold at?
 split
 ·rename_i h0
  rw [if_pos h0] at h
  rw [List.getElem?_map,h]
  rfl
 ·rename_i h0
  rw [if_neg h0] at h
  cases h
theorem at_map' {α:Type} (f:α→List AV) {l:List α} {i:Int} {x:α} (h:getI l i=some x):(l.map f)[i.toNat]?=some (f x):=by
 unfold getI at h
 split at h
 ·rw [List.getElem?_map,h]
  rfl
 ·cases h
theorem szOk_map {α:Type} (f:α→List AV) (l:List α) {sz:Nat} (hf:∀ x,Nat.beq (f x).length sz=true):szOk sz (l.map f)=true:=by
 cases l with
 | nil=>rfl
 | cons x l=>exact hf x
theorem okRows_map {α:Type} (f:α→List AV) (l:List α) (hf:∀ x,(f x).all okCell=true):okRows (l.map f)=true:=by
 unfold okRows
 rw [List.all_eq_true]
 intro r hr
 obtain ⟨x,_,rfl⟩:=List.mem_map.1 hr
 exact hf x
theorem app_map {α:Type} (f:α→List AV) (l m:List α):l.map f++m.map f=(l++m).map f:=List.map_append.symm
theorem set_map {α:Type} (f:α→List AV) (l:List α) (i:Nat) (x:α):(l.map f).set i (f x)=(l.set i x).map f:=(List.map_set).symm
theorem rep_map {α:Type} (f:α→List AV) (n:Nat) (x:α):List.replicate n (f x)=(List.replicate n x).map f:=List.map_replicate.symm
theorem msl_map {α:Type} (f:α→List AV) (l:List α) (i off a b:Nat):AV.msl i off (a + (l.map f).length) (b - (l.map f).length)=AV.msl i off (a + l.length) (b - l.length):=by rw [List.length_map]
theorem msl_len {α:Type} (f:α→List AV) (l:List α) (i off a b:Nat):AV.msl i off a ((l.map f).length - b)=AV.msl i off a (l.length - b):=by rw [List.length_map]
theorem msl_len2 {α:Type} (f:α→List AV) (l:List α) (i off a b:Nat):AV.msl i off ((l.map f).length - a) b=AV.msl i off (l.length - a) b:=by rw [List.length_map]
theorem put_map {α:Type} (f:α→List AV) (l m:List α) (a:Nat):(l.map f).take a++(m.map f++(l.map f).drop (a + (m.map f).length))=(l.take a++(m++l.drop (a + m.length))).map f:=by
 rw [List.length_map,List.map_append,List.map_append,List.map_take,List.map_drop]
theorem ble_maps3 {α:Type} {f:α→List AV} {l:List α} {k:Nat} (h:Nat.ble l.length k=true):Nat.ble (l.map f).length k=true:=by rw [List.length_map]; exact h
theorem ble_maps4 {α:Type} {f:α→List AV} {l:List α} {k:Nat} (h:Nat.ble k l.length=true):Nat.ble k (l.map f).length=true:=by rw [List.length_map]; exact h
theorem sl_drop {α:Type} (f:α→List AV) (l:List α) (a:Nat):AV.sl ((l.map f).drop a)=AV.sl ((l.drop a).map f):=by rw [List.map_drop]
theorem sl_take {α:Type} (f:α→List AV) (l:List α) (a:Nat):AV.sl ((l.map f).take a)=AV.sl ((l.take a).map f):=by rw [List.map_take]
theorem sl_dt {α:Type} (f:α→List AV) (l:List α) (a b:Nat):AV.sl (((l.map f).drop a).take b)=AV.sl (((l.drop a).take b).map f):=by rw [List.map_take,List.map_drop]
theorem sl_dtL {α:Type} (f:α→List AV) (l:List α) (a b:Nat):LeA (.sl (((l.map f).drop a).take b)) (.sl (((l.drop a).take b).map f)):=by rw [sl_dt]; exact LeA.refl _
theorem cut_hi {α:Type} {f:α→List AV} {l:List α} {h:Int} (e:(decide (0≤h)&&decide (h≤(l.length:Int)))=true):(decide (0≤h)&&decide (h≤(((l.map f).length:Nat):Int)))=true:=by rw [List.length_map]; exact e
theorem cut_lohi {α:Type} {f:α→List AV} {l:List α} {a h:Int} (e:(decide (0≤a)&&decide (a≤h)&&decide (h≤(l.length:Int)))=true):(decide (0≤a)&&decide (a≤h)&&decide (h≤(((l.map f).length:Nat):Int)))=true:=by rw [List.length_map]; exact e
theorem nil_map {α:Type} (f:α→List AV) {l:List α} (h:l.map f=[]):LeA .nilsl (.sl (l.map f)):=by rw [h]; exact LeA.nil
theorem le_app {α:Type} (f:α→List AV) (l m:List α) {a b:List (List AV)} (h:LeRs a (l.map f)) (k:LeRs b (m.map f)):LeRs (a++b) ((l++m).map f):=by
 rw [List.map_append]
 exact LeRs.app h k
theorem rep_le {α:Type} (f:α→List AV) (n:Nat) {z:List AV} {x:α} (h:LeR z (f x)):LeRs (List.replicate n z) ((List.replicate n x).map f):=by
 rw [List.map_replicate]
 refine ⟨by simp,fun i a b h1 h2=>?_⟩
 rw [List.getElem?_replicate] at h1 h2
 split at h1
 ·cases h1
  rename_i hi
  rw [if_pos hi] at h2
  cases h2
  exact h
 ·cases h1
theorem rep_len (n i off a b:Nat) (z:List AV):AV.msl i off a ((List.replicate n z).length - b)=AV.msl i off a (n - b):=by rw [List.length_replicate]
theorem ble_map {α:Type} {f:α→List AV} {l:List α} {k m:Nat} (h:Nat.ble (l.length * k) m=true):Nat.ble ((l.map f).length * k) m=true:=by rw [List.length_map]; exact h
theorem ble_maps1 {α:Type} {f:α→List AV} {l:List α} {k m n:Nat} (h:Nat.ble ((l.length + n) * k) m=true):Nat.ble (((l.map f).length + n) * k) m=true:=by rw [List.length_map]; exact h
theorem ble_maps2 {α:Type} {f:α→List AV} {l l':List α} {k m:Nat} (h:Nat.ble ((l.length + l'.length) * k) m=true):Nat.ble (((l.map f).length + (l'.map f).length) * k) m=true:=by rw [List.length_map,List.length_map]; exact h
def oCl {α:Type} (f:α→List AV) (c:Option (List α)):Option (List (List AV)):=c.map fun l=>l.map f
section
variable {α:Type} (f:α→List AV)
theorem olen (cs:List (Option (List α))):AV.v (.int .i64 (((cs.map (oCl f)).length:Nat):Int))=AV.v (.int .i64 (cs.length:Int)):=by rw [List.length_map]
theorem getI_some {β:Type} {l:List β} {i:Int} {x:β} (h:getI l i=some x):0≤i∧l[i.toNat]?=some x:=by
 unfold getI at h
 split at h
 ·rename_i h0
  exact ⟨h0,h⟩
 ·cases h
theorem oat_s' {cs:List (Option (List α))} {i:Nat} {x:Option (List α)} {r:List α} (h:cs[i]?=some x) (h1:x=some r):(cs.map (oCl f))[i]?=some (some (r.map f)):=by
 rw [List.getElem?_map,h,h1]
 rfl
theorem oat_n' {cs:List (Option (List α))} {i:Nat} {x:Option (List α)} (h:cs[i]?=some x) (h1:x=none):(cs.map (oCl f))[i]?=some none:=by
 rw [List.getElem?_map,h,h1]
 rfl
theorem oat_s {cs:List (Option (List α))} {i:Int} {x:Option (List α)} {r:List α} (h:getI cs i=some x) (h1:x=some r):(cs.map (oCl f))[i.toNat]?=some (some (r.map f)):=oat_s' f (getI_some h).2 h1
theorem oat_n {cs:List (Option (List α))} {i:Int} {x:Option (List α)} (h:getI cs i=some x) (h1:x=none):(cs.map (oCl f))[i.toNat]?=some none:=oat_n' f (getI_some h).2 h1
theorem oblt' {cs:List (Option (List α))} {i:Nat} {x:Option (List α)} (h:cs[i]?=some x):Nat.blt i (cs.map (oCl f)).length=true:=by
 have:i<cs.length:=(List.getElem?_eq_some_iff.1 h).1
 rw [List.length_map]
 exact Nat.blt_eq.mpr this
theorem oblt1 {cs:List (Option (List α))} {i:Int} {x:Option (List α)} (h:getI cs i=some x):Nat.blt i.toNat (cs.map (oCl f)).length=true:=oblt' f (getI_some h).2
theorem oblt {cs:List (Option (List α))} {i:Int} {x:Option (List α)} (h:getI cs i=some x):(decide (0≤i)&&Nat.blt i.toNat (cs.map (oCl f)).length)=true:=by
 rw [Bool.and_eq_true]
 exact ⟨decide_eq_true (getI_some h).1,oblt1 f h⟩
theorem oand {a b:Bool} (h:a=true) (k:b=true):(a&&b)=true:=by rw [h,k]; rfl
theorem obeq (i:Nat):Nat.beq i i=true:=Nat.beq_refl i
theorem oset_s (cs:List (Option (List α))) (i:Nat) (r:List α):(cs.map (oCl f)).set i (some (r.map f))=(cs.set i (some r)).map (oCl f):=by
 rw [List.map_set]
 rfl
theorem oset_n (cs:List (Option (List α))) (i:Nat):(cs.map (oCl f)).set i none=(cs.set i none).map (oCl f):=by
 rw [List.map_set]
 rfl
theorem oset_i' {cs:List (Option (List α))} {i:Nat} {x:Option (List α)} {r:List α} (h:cs[i]?=some x) (h1:x=some r):(cs.map (oCl f)).set i (some (r.map f))=cs.map (oCl f):=by
 have hs:=oat_s' f h h1
 apply List.ext_getElem?
 intro j
 rw [List.getElem?_set]
 split
 ·rename_i hj
  subst hj
  rw [hs]
  split
  ·rfl
  ·rename_i hn
   exact absurd (List.getElem?_eq_some_iff.1 hs).1 hn
 ·rfl
theorem oset_i {cs:List (Option (List α))} {i:Int} {x:Option (List α)} {r:List α} (h:getI cs i=some x) (h1:x=some r):(cs.map (oCl f)).set i.toNat (some (r.map f))=cs.map (oCl f):=oset_i' f (getI_some h).2 h1
theorem oapp_s (cs:List (Option (List α))) (r:List α):(cs.map (oCl f)++[none]).set (cs.map (oCl f)).length (some (r.map f))=(cs++[some r]).map (oCl f):=by
 rw [List.set_append_right _ _ (Nat.le_refl _),Nat.sub_self,List.map_append]
 rfl
theorem oapp_n (cs:List (Option (List α))):(cs.map (oCl f)++[none]).set (cs.map (oCl f)).length none=(cs++[none]).map (oCl f):=by
 rw [List.set_append_right _ _ (Nat.le_refl _),Nat.sub_self,List.map_append]
 rfl
theorem oapp_b (cs:List (Option (List α))):Nat.blt (cs.map (oCl f)).length (cs.map (oCl f)++[none]).length=true:=by
 rw [List.length_append]
 exact Nat.blt_eq.mpr (Nat.lt_succ_self _)
theorem orep (n:Nat):List.replicate n (none:Option (List (List AV)))=(List.replicate n (none:Option (List α))).map (oCl f):=by
 rw [List.map_replicate]
 rfl
theorem ozip {κ:Type} (kf:κ→AV):∀ (ks:List κ) (cs:List (Option (List α))),allS cs=true→zipKV (ks.map kf) (cs.map (oCl f))=(zipM ks cs).map (eKV kf (aSl f))
 | [],_,_=>by cases ‹List (Option (List α))› <;> rfl
 | _::_,[],_=>rfl
 | k::ks,c::cs,h=>by
  unfold allS at h
  rw [Bool.and_eq_true] at h
  obtain ⟨r,rfl⟩:=Option.isSome_iff_exists.1 h.1
  show (kf k,AV.sl (r.map f))::zipKV (ks.map kf) (cs.map (oCl f))=_
  rw [ozip kf ks cs h.2]
  rfl
end
theorem pureEval_ite {α:Type} {P:Program} (c:Prop) [Decidable c] (x y:Sem α):pureEval P (if c then x else y)=if c then pureEval P x else pureEval P y:=by
 split <;> rfl
def veqA (f:Nat→Option Bool):List Nat→Option Bool
 | []=>some true
 | i::is=>match f i with
  | some e=>match veqA f is with
   | some s=>some (e&&s)
   | none=>none
  | none=>none
def veq (P:Program):Nat→TypeId→Value→Value→Option Bool
 | 0,_,_,_=>none
 | n + 1,t,x,y =>
  match P.underlying t,x,y with
  | some .bool,.bool a,.bool b=>some (a==b)
  | some (.int _),.int k a,.int k' b=>if k=k' then some (a==b) else none
  | some .string,.string a,.string b=>some (a.toList==b.toList)
  | some (.struct fs),.agg xs,.agg ys=>match P.stoodInHeld t with
   | true=>none
   | false => fs.toList.foldr (fun f (r : Option Bool × Bool) => match f.name == "_", pureEval P (part f.type xs f.offset), pureEval P (part f.type ys f.offset) with
     | false,some a,some b=>match veq P n f.type a b,r with
      | some e,(_,false)=>(some e,true)
      | some e,(some s,true)=>(some (e&&s),true)
      | _,_=>(none,true)
     | _,_,_=>(none,true)) (some true,false) |>.1
  | some (.array len e),.agg xs,.agg ys=>match pureEval P (sizeOf e) with
   | some m=>veqA (fun i=>match pureEval P (part e xs (i * m)),pureEval P (part e ys (i * m)) with
    | some a,some b=>veq P n e a b
    | _,_=>none) (List.range' 0 len)
   | none=>none
  | _,_,_=>none
theorem pe_underlying {P:Program} {t:TypeId} {d:TypeDesc} (h:P.underlying t=some d):pureEval P (underlying t)=some d:=by
 unfold underlying
 simp [pureEval_bind,program,pureEval,h]
 rfl
theorem pe_struct {P:Program} {t:TypeId} {fs:Array Field} {xs ys:Array Value} {d:Nat} (ht:P.underlying t=some (.struct fs)) (hp:P.stoodInHeld t=false) :
  pureEval P (Op.equalIn (d + 1) t (.agg xs) (.agg ys))=pureEval P (Op.eqFields d xs ys fs.toList):=by
 simp only [Op.equalIn,pureEval_bind,pe_underlying ht,Option.bind_some]
 have hprog:pureEval P program=some P:=rfl
 simp only [pureEval_bind,hprog,Option.bind_some,hp,Bool.false_eq_true,if_false]
 rw [← Array.forIn_toList]
 generalize fs.toList=l
 clear ht
 induction l with
 | nil=>rfl
 | cons f l ih =>
  simp only [List.forIn_cons,Op.eqFields,pureEval_bind,pureEval_ite]
  split
  ·try simp only [pureEval_bind]
   generalize pureEval P (part f.type xs f.offset)=r1
   cases r1 with
   | none=>rfl
   | some a =>
    simp only [Option.bind_some]
    generalize pureEval P (part f.type ys f.offset)=r2
    cases r2 with
    | none=>rfl
    | some b =>
     simp only [Option.bind_some]
     generalize pureEval P (Op.equalIn d f.type a b)=r3
     cases r3 with
     | none=>rfl
     | some r =>
      cases r
      ·rfl
      ·simp only [Option.bind_some]
       exact ih
  ·exact ih
def eqParts (d:Nat) (e:TypeId) (m:Nat) (xs ys:Array Value):List Nat→Sem Bool
 | []=>pure true
 | i::is=>do
  if !(← Op.equalIn d e (← part e xs (i * m)) (← part e ys (i * m))) then return false
  eqParts d e m xs ys is
theorem pe_array {P:Program} {t e:TypeId} {len m:Nat} {xs ys:Array Value} {d:Nat} (ht:P.underlying t=some (.array len e)) (hm:pureEval P (sizeOf e)=some m) :
  pureEval P (Op.equalIn (d + 1) t (.agg xs) (.agg ys))=pureEval P (eqParts d e m xs ys (List.range' 0 len)):=by
 simp only [Op.equalIn,pureEval_bind,pe_underlying ht,Option.bind_some,hm]
 simp only [Std.Legacy.Range.forIn_eq_forIn_range',Std.Legacy.Range.size,Nat.sub_zero,Nat.add_one_sub_one,Nat.div_one]
 generalize List.range' 0 len=l
 clear ht
 induction l with
 | nil=>rfl
 | cons i l ih =>
  simp only [List.forIn_cons,eqParts,pureEval_bind,pureEval_ite]
  generalize pureEval P (part e xs (i * m))=r1
  cases r1 with
  | none=>rfl
  | some a =>
   simp only [Option.bind_some]
   generalize pureEval P (part e ys (i * m))=r2
   cases r2 with
   | none=>rfl
   | some b =>
    simp only [Option.bind_some]
    generalize pureEval P (Op.equalIn d e a b)=r3
    cases r3 with
    | none=>rfl
    | some r =>
     cases r
     ·rfl
     ·simp only [Option.bind_some]
      exact ih
theorem veq_sound {P:Program}:∀ (n d:Nat) {t:TypeId} {x y:Value} {b:Bool},n≤d→veq P n t x y=some b→pureEval P (Op.equalIn d t x y)=some b
 | 0,_,_,_,_,_,_,h=>by cases h
 | n + 1,0,_,_,_,_,hd,_=>by omega
 | n + 1,d + 1,t,x,y,b,hd,h=>by
  unfold veq at h
  split at h
  ·rename_i hu
   cases h
   simp only [Op.equalIn,pureEval_bind,pe_underlying hu,Option.bind_some]
   rfl
  ·rename_i hu
   split at h
   ·rename_i hk
    cases h
    simp only [Op.equalIn,pureEval_bind,pe_underlying hu,Option.bind_some]
    rw [if_pos hk]
    rfl
   ·cases h
  ·rename_i hu
   cases h
   simp only [Op.equalIn,pureEval_bind,pe_underlying hu,Option.bind_some,← beq_toListBytes]
   rfl
  ·rename_i fs xs ys hu
   split at h
   ·cases h
   ·rename_i hp
    rw [pe_struct hu hp]
    have key : ∀ (l : List Field) (r : Option Bool) (m : Bool), l.foldr (fun f (r : Option Bool × Bool) => match f.name == "_", pureEval P (part f.type xs f.offset), pureEval P (part f.type ys f.offset) with
     | false,some a,some b=>match veq P n f.type a b,r with
      | some e,(_,false)=>(some e,true)
      | some e,(some s,true)=>(some (e&&s),true)
      | _,_=>(none,true)
     | _,_,_=>(none,true)) (some true,false)=(r,m)→(m=false→l=[])∧∀ b,r=some b→pureEval P (Op.eqFields d xs ys l)=some b:=by
     intro l
     induction l with
     | nil =>
      intro r m h
      cases h
      exact ⟨fun _=>rfl,fun b hb=>by cases hb; rfl⟩
     | cons f l ih =>
      intro r m h
      rw [List.foldr_cons] at h
      generalize hq:(l.foldr _ (some true,false):Option Bool×Bool)=q at h
      obtain ⟨r',m'⟩:=q
      obtain ⟨ih1,ih2⟩:=ih r' m' hq
      split at h
      ·rename_i a b hn ha hb
       have hn' : f.name ≠ "_" := by simpa using hn
       have step:∀ e,veq P n f.type a b=some e→pureEval P (Op.eqFields d xs ys (f::l))=match e with | true=>pureEval P (Op.eqFields d xs ys l) | false=>some false:=by
        intro e he
        simp only [Op.eqFields]
        rw [if_pos hn']
        simp only [pureEval_bind,ha,hb,Option.bind_some,veq_sound n d (by omega) he]
        cases e <;> rfl
       cases hv:veq P n f.type a b with
       | none =>
        rw [hv] at h
        cases h
        exact ⟨fun h=>(by cases h),fun b' hb'=>(by cases hb')⟩
       | some e =>
        rw [hv] at h
        cases m' with
        | false =>
         cases h
         refine ⟨fun h=>(by cases h),fun b' hb'=>?_⟩
         cases hb'
         rw [step e hv,ih1 rfl]
         cases e <;> rfl
        | true =>
         cases r' with
         | none =>
          cases h
          exact ⟨fun h=>(by cases h),fun b' hb'=>(by cases hb')⟩
         | some s =>
          cases h
          refine ⟨fun h=>(by cases h),fun b' hb'=>?_⟩
          cases hb'
          rw [step e hv,ih2 s rfl]
          cases e <;> rfl
      ·cases h
       exact ⟨fun h=>(by cases h),fun b' hb'=>(by cases hb')⟩
    generalize hq:(fs.toList.foldr _ (some true,false):Option Bool×Bool)=q at h
    obtain ⟨r,m⟩:=q
    exact (key _ r m hq).2 b h
  ·rename_i len e xs ys hu
   split at h
   ·rename_i m hm
    rw [pe_array hu hm]
    generalize List.range' 0 len=l at h ⊢
    induction l generalizing b with
    | nil =>
     cases h
     rfl
    | cons i l ih =>
     unfold veqA at h
     split at h
     ·rename_i c hc
      split at hc
      ·rename_i u v h1 h2
       split at h
       ·rename_i s hs
        cases h
        simp only [eqParts,pureEval_bind,h1,h2,Option.bind_some,veq_sound n d (by omega) hc]
        cases c
        ·rfl
        ·exact ih _ hs
       ·cases h
      ·cases hc
     ·cases h
   ·cases h
  ·cases h
theorem aggEq_eql {P:Program} {t:TypeId} {xs ys:List Value} {b:Bool} (hg:P.eqGuardType P.depth t=false) (h:veq P 16 t (.agg xs.toArray) (.agg ys.toArray)=some b):aggEq P .eql t xs ys=some (.bool b):=by
 unfold aggEq
 have h1:pureEval P (eqGuard .eql t (.tmp 0) (.tmp 0) (.agg xs.toArray) (.agg ys.toArray))=some ():=by
  simp [eqGuard,pureEval_bind,program,pureEval,hg]
  rfl
 have h2:pureEval P (binOp .eql t (.agg xs.toArray) (.agg ys.toArray))=some (.bool b):=by
  have:=veq_sound (P:=P) 16 10000 (by omega) h
  simp only [binOp,Op.equal,Op.maxDepth]
  rw [pureEval_bind,this]
  rfl
 rw [pureEval_bind,h1]
 exact h2
theorem aggEq_neq {P:Program} {t:TypeId} {xs ys:List Value} {b:Bool} (hg:P.eqGuardType P.depth t=false) (h:veq P 16 t (.agg xs.toArray) (.agg ys.toArray)=some b):aggEq P .neq t xs ys=some (.bool (!b)):=by
 unfold aggEq
 have h1:pureEval P (eqGuard .neq t (.tmp 0) (.tmp 0) (.agg xs.toArray) (.agg ys.toArray))=some ():=by
  simp [eqGuard,pureEval_bind,program,pureEval,hg]
  rfl
 have h2:pureEval P (binOp .neq t (.agg xs.toArray) (.agg ys.toArray))=some (.bool (!b)):=by
  have:=veq_sound (P:=P) 16 10000 (by omega) h
  simp only [binOp,Op.equal,Op.maxDepth]
  rw [pureEval_bind,this]
  rfl
 rw [pureEval_bind,h1]
 exact h2
structure KeyOK (P:Program) (kt:TypeId) {κ:Type} (kf:κ→AV) (kv:κ→Value) (beq:κ→κ→Bool):Prop where
 tok:∀ k,toK (kf k)=some (kv k)
 eqv:∀ a b,veq P 16 kt (kv a) (kv b)=some (beq a b)
 chk:∀ e k,pureEval P (Instr.checkKey e 10000 kt (kv k))=some ()
 sam:∀ a b,beq a b=true→Instr.sameBits 10000 (kv b) (kv a)=true
def idxB:List Bool→Nat→Option Nat
 | [],_=>none
 | true::_,i=>some i
 | false::bs,i=>idxB bs (i + 1)
theorem asking_idx {P:Program} {kt:TypeId} {x:Value}:∀ {es:List MapEntry} {bs:List Bool} {i:Nat},es.length=bs.length→(∀ (j:Nat) (e:MapEntry) (b:Bool),es[j]?=some e→bs[j]?=some b→veq P 16 kt x e.key=some b) →
  ∃ r,pureEval P (Instr.findAsking kt x es i)=some r∧r.map (·.1)=idxB bs i
 | [],[],i,_,_=>⟨none,rfl,rfl⟩
 | [],_::_,_,h,_=>by simp at h
 | _::_,[],_,h,_=>by simp at h
 | e::es,b::bs,i,hl,hv=>by
  have h0:=veq_sound (P:=P) 16 10000 (by omega) (hv 0 e b rfl rfl)
  unfold Instr.findAsking
  rw [pureEval_bind]
  have h1:pureEval P (Op.equal kt x e.key)=some b:=h0
  rw [h1,Option.bind_some,pureEval_ite]
  cases b with
  | true=>exact ⟨some (i,e.val),rfl,rfl⟩
  | false=>exact asking_idx (es:=es) (bs:=bs) (i:=i + 1) (by simpa using hl) (fun j e' b' h2 h3=>hv (j + 1) e' b' (by simpa using h2) (by simpa using h3))
theorem now_idx {P:Program} {kt:TypeId} {x:Value} {d:TypeDesc} (hd:P.underlying kt=some d):∀ {es:List MapEntry} {bs:List Bool} {i:Nat} {r:Option (Nat×Value)},es.length=bs.length→(∀ (j:Nat) (e:MapEntry) (b:Bool),es[j]?=some e→bs[j]?=some b→veq P 16 kt x e.key=some b) →
  Instr.findNow d x es i=some r→r.map (·.1)=idxB bs i
 | [],[],i,r,_,_,h=>by cases h; rfl
 | [],_::_,_,_,h,_,_=>by simp at h
 | _::_,[],_,_,h,_,_=>by simp at h
 | e::es,b::bs,i,r,hl,hv,h=>by
  have h0:=hv 0 e b rfl rfl
  have hs:∀ c,Instr.sameNow d x e.key=some c→c=b:=by
   intro c hc
   unfold veq at h0
   rw [hd] at h0
   generalize e.key=y at h0 hc
   unfold Instr.sameNow at hc
   split at hc
   ·dsimp only at h0
    split at hc
    ·rename_i hk
     rw [if_pos hk] at h0
     rw [hc] at h0
     exact Option.some.inj h0
    ·cases hc
   ·dsimp only at h0
    rw [beq_toListBytes] at hc
    rw [hc] at h0
    exact Option.some.inj h0
   ·dsimp only at h0
    rw [hc] at h0
    exact Option.some.inj h0
   ·cases hc
  unfold Instr.findNow at h
  split at h
  ·rename_i hc
   cases h
   rw [← hs _ hc]
   rfl
  ·rename_i hc
   rw [← hs _ hc]
   exact now_idx hd (es:=es) (bs:=bs) (i:=i + 1) (by simpa using hl) (fun j e' b' h2 h3=>hv (j + 1) e' b' (by simpa using h2) (by simpa using h3)) h
  ·cases h
theorem key_idx {P:Program} {kt:TypeId} {x:Value} {es:List MapEntry} {bs:List Bool} {d:TypeDesc} (hd:P.underlying kt=some d) (hl:es.length=bs.length) (hv:∀ (j:Nat) (e:MapEntry) (b:Bool),es[j]?=some e→bs[j]?=some b→veq P 16 kt x e.key=some b) :
  ∃ r,pureEval P (Instr.findKey kt x es)=some r∧r.map (·.1)=idxB bs 0:=by
 unfold Instr.findKey
 rw [pureEval_bind,pe_underlying hd,Option.bind_some]
 split
 ·rename_i r hr
  exact ⟨r,rfl,now_idx hd hl hv hr⟩
 ·exact asking_idx hl hv
theorem keysOf_map {κ β:Type} {kf:κ→AV} {kv:κ→Value} {vf:β→AV} (ht:∀ k,toK (kf k)=some (kv k)):∀ l:List (κ×β),keysOf (l.map (eKV kf vf))=some (l.map fun e=>({ key:=kv e.1,val:=.bool false,born:=0 }:MapEntry))
 | []=>rfl
 | e::l=>by
  show (match toK (kf e.1),keysOf (l.map (eKV kf vf)) with
   | some x,some xs=>some (({ key:=x,val:=.bool false,born:=0 }:MapEntry)::xs)
   | _,_=>none)=_
  rw [ht,keysOf_map ht l]
  rfl
theorem findK_map {P:Program} {kt:TypeId} {κ β:Type} {kf:κ→AV} {kv:κ→Value} {beq:κ→κ→Bool} {vf:β→AV} (hd:(P.underlying kt).isSome=true) (hk:KeyOK P kt kf kv beq) (l:List (κ×β)) (k:κ) {K:Value→Option Nat→Prop}
  (h:K (kv k) (idxB (l.map fun e=>beq k e.1) 0)):findK P kt (kf k) (l.map (eKV kf vf)) K:=by
 obtain ⟨d,hd⟩:=Option.isSome_iff_exists.1 hd
 unfold findK
 rw [hk.tok,keysOf_map hk.tok]
 dsimp only
 rw [hk.chk]
 obtain ⟨r,h1,h2⟩:=key_idx (P:=P) (x:=kv k) (es:=l.map fun e=>({ key:=kv e.1,val:=.bool false,born:=0 }:MapEntry)) (bs:=l.map fun e=>beq k e.1) hd (by simp) (fun j e b h1 h2=>by
  rw [List.getElem?_map,Option.map_eq_some_iff] at h1 h2
  obtain ⟨x,h3,rfl⟩:=h1
  obtain ⟨y,h4,rfl⟩:=h2
  rw [h3] at h4
  cases h4
  exact hk.eqv _ _)
 rw [h1]
 dsimp only
 rw [h2]
 exact h
theorem idxB_get {κ β:Type} {beq:κ→κ→Bool} {k:κ}:∀ (l:List (κ×β)) (i:Nat),(idxB (l.map fun e=>beq k e.1) i=none∧mget beq l k=none)∨∃ j e,idxB (l.map fun e=>beq k e.1) i=some (i + j)∧l[j]?=some e∧beq k e.1=true∧mget beq l k=some e.2
 | [],i=>.inl ⟨rfl,rfl⟩
 | e::l,i=>by
  rw [List.map_cons]
  cases hb:beq k e.1 with
  | true=>exact .inr ⟨0,e,rfl,rfl,hb,by unfold mget; rw [if_pos hb]⟩
  | false =>
   have hg:mget beq (e::l) k=mget beq l k:=by
    show (if beq k e.1=true then some e.2 else mget beq l k)=_
    rw [if_neg (by rw [hb]; exact Bool.false_ne_true)]
   rcases idxB_get (β:=β) (beq:=beq) (k:=k) l (i + 1) with ⟨h1,h2⟩ | ⟨j,e',h1,h2,h3,h4⟩
   ·exact .inl ⟨h1,hg.trans h2⟩
   ·exact .inr ⟨j + 1,e',by rw [show i + (j + 1)=i + 1 + j by omega]; exact h1,h2,h3,hg.trans h4⟩
def MapGetP (P:Program) (kt e:TypeId) {κ β:Type} (kf:κ→AV) (beq:κ→κ→Bool) (vf:β→AV) (z:β) (l:List (κ×β)) (k:κ):Prop :=
 ∀ k':AV→Prop,k' (vf ((mget beq l k).getD z))→findK P kt (kf k) (l.map (eKV kf vf)) fun _ r=>foundOk P e false (l.map (eKV kf vf)) r k'
def MapGetOkP (P:Program) (kt e:TypeId) {κ β:Type} (kf:κ→AV) (beq:κ→κ→Bool) (vf:β→AV) (z:β) (l:List (κ×β)) (k:κ):Prop :=
 ∀ k':AV→Prop,k' (.tup [vf ((mget beq l k).getD z),.v (.bool (mget beq l k).isSome)])→findK P kt (kf k) (l.map (eKV kf vf)) fun _ r=>foundOk P e true (l.map (eKV kf vf)) r k'
def MapPutP (P:Program) (kt:TypeId) {κ β:Type} (kf:κ→AV) (beq:κ→κ→Bool) (vf:β→AV) (l:List (κ×β)) (k:κ) (v:β):Prop :=
 ∀ K':List (AV×AV)→Prop,K' ((mput beq l k v).map (eKV kf vf))→findK P kt (kf k) (l.map (eKV kf vf)) fun kv' r=>Chk (ckOk P kt kv') (
     match r with
     | some i=>Chk (Instr.sameBits 10000 (((l.map (eKV kf vf))[i]?.bind fun e=>toK e.1).getD (.bool false)) kv') (K' ((l.map (eKV kf vf)).set i (kf k,vf v)))
     | none=>K' (l.map (eKV kf vf)++[(kf k,vf v)]))
theorem mapGet {P:Program} {kt e:TypeId} {κ β:Type} {kf:κ→AV} {kv:κ→Value} {beq:κ→κ→Bool} {vf:β→AV} (hd:(P.underlying kt).isSome=true) (hk:KeyOK P kt kf kv beq) (z:β) (hz:∀ k',zeroOk P e false k'=k' (vf z)) (l:List (κ×β)) (k:κ) :
  ∀ k':AV→Prop,k' (vf ((mget beq l k).getD z))→findK P kt (kf k) (l.map (eKV kf vf)) fun _ r=>foundOk P e false (l.map (eKV kf vf)) r k':=by
 intro k' h
 refine findK_map hd hk l k ?_
 rcases idxB_get (β:=β) (beq:=beq) (k:=k) l 0 with ⟨h1,h2⟩ | ⟨j,en,h1,h2,h3,h4⟩
 ·rw [h1]
  show zeroOk P e false k'
  rw [hz]
  rw [h2] at h
  exact h
 ·rw [h1]
  show foundOk P e false _ (some (0 + j)) k'
  unfold foundOk
  dsimp only
  rw [Nat.zero_add,List.getElem?_map,h2]
  rw [h4] at h
  exact h
theorem mapGetOk {P:Program} {kt e:TypeId} {κ β:Type} {kf:κ→AV} {kv:κ→Value} {beq:κ→κ→Bool} {vf:β→AV} (hd:(P.underlying kt).isSome=true) (hk:KeyOK P kt kf kv beq) (z:β) (hz:∀ k',zeroOk P e true k'=k' (.tup [vf z,.v (.bool false)])) (l:List (κ×β)) (k:κ) :
  ∀ k':AV→Prop,k' (.tup [vf ((mget beq l k).getD z),.v (.bool (mget beq l k).isSome)])→findK P kt (kf k) (l.map (eKV kf vf)) fun _ r=>foundOk P e true (l.map (eKV kf vf)) r k':=by
 intro k' h
 refine findK_map hd hk l k ?_
 rcases idxB_get (β:=β) (beq:=beq) (k:=k) l 0 with ⟨h1,h2⟩ | ⟨j,en,h1,h2,h3,h4⟩
 ·rw [h1]
  show zeroOk P e true k'
  rw [hz]
  rw [h2] at h
  exact h
 ·rw [h1]
  show foundOk P e true _ (some (0 + j)) k'
  unfold foundOk
  dsimp only
  rw [Nat.zero_add,List.getElem?_map,h2]
  rw [h4] at h
  exact h
def MapFndP (P:Program) (kt e:TypeId) (ok:Bool) {κ β:Type} (kf:κ→AV) (vf:β→AV) (l:List (κ×β)) (k:κ) (a:AV):Prop :=
 ∀ k':AV→Prop,k' a→findK P kt (kf k) (l.map (eKV kf vf)) fun _ r=>foundOk P e ok (l.map (eKV kf vf)) r k'
theorem mapGetN {P:Program} {kt e:TypeId} {ok:Bool} {κ β:Type} {kf:κ→AV} {kv:κ→Value} {beq:κ→κ→Bool} {vf:β→AV} (hd:(P.underlying kt).isSome=true) (hk:KeyOK P kt kf kv beq) (z:AV) (hz:∀ k',zeroOk P e ok k'=k' z) (l:List (κ×β)) (k:κ) (h:mget beq l k=none):MapFndP P kt e ok kf vf l k z:=by
 intro k' hz'
 refine findK_map hd hk l k ?_
 rcases idxB_get (β:=β) (beq:=beq) (k:=k) l 0 with ⟨h1,h2⟩ | ⟨j,en,h1,h2,h3,h4⟩
 ·rw [h1]
  show zeroOk P e ok k'
  rw [hz]
  exact hz'
 ·rw [h] at h4
  cases h4
theorem mapGetS {P:Program} {kt e:TypeId} {ok:Bool} {κ β:Type} {kf:κ→AV} {kv:κ→Value} {beq:κ→κ→Bool} {vf:β→AV} (hd:(P.underlying kt).isSome=true) (hk:KeyOK P kt kf kv beq) (l:List (κ×β)) (k:κ) {v:β} (h:mget beq l k=some v):MapFndP P kt e ok kf vf l k (match ok with | true=>.tup [vf v,.v (.bool true)] | false=>vf v):=by
 intro k' hk'
 refine findK_map hd hk l k ?_
 rcases idxB_get (β:=β) (beq:=beq) (k:=k) l 0 with ⟨h1,h2⟩ | ⟨j,en,h1,h2,h3,h4⟩
 ·rw [h] at h2
  cases h2
 ·rw [h1]
  show foundOk P e ok _ (some (0 + j)) k'
  unfold foundOk
  dsimp only
  rw [Nat.zero_add,List.getElem?_map,h2]
  rw [h] at h4
  cases h4
  cases ok with
  | true=>exact hk'
  | false=>exact hk'
theorem mput_none {κ β:Type} {beq:κ→κ→Bool} {k:κ} {v:β}:∀ {l:List (κ×β)},mget beq l k=none→mput beq l k v=l++[(k,v)]
 | [],_=>rfl
 | e::l,h=>by
  unfold mget at h
  split at h
  ·cases h
  ·rename_i hb
   show (if beq k e.1=true then (k,v)::l else e::mput beq l k v)=_
   rw [if_neg hb,mput_none h]
   rfl
theorem mput_some {κ β:Type} {beq:κ→κ→Bool} {k:κ} {v:β}:∀ {l:List (κ×β)} {i j:Nat},idxB (l.map fun e=>beq k e.1) i=some (i + j)→mput beq l k v=l.set j (k,v)
 | [],_,_,h=>by cases h
 | e::l,i,j,h=>by
  rw [List.map_cons] at h
  show (if beq k e.1=true then (k,v)::l else e::mput beq l k v)=_
  cases hb:beq k e.1 with
  | true =>
   rw [hb] at h
   have:i=i + j:=Option.some.inj h
   have:j=0:=by omega
   subst this
   rw [if_pos rfl]
   rfl
  | false =>
   rw [hb] at h
   have h':idxB (l.map fun e=>beq k e.1) (i + 1)=some (i + j):=h
   rw [if_neg (by exact Bool.false_ne_true)]
   rcases idxB_get (β:=β) (beq:=beq) (k:=k) l (i + 1) with ⟨h1,_⟩ | ⟨j',e',h1,_⟩
   ·rw [h1] at h'; cases h'
   ·rw [h1] at h'
    have:i + 1 + j'=i + j:=Option.some.inj h'
    have:j=j' + 1:=by omega
    subst this
    rw [mput_some h1]
    rfl
theorem mapPut {P:Program} {kt:TypeId} {κ β:Type} {kf:κ→AV} {kv:κ→Value} {beq:κ→κ→Bool} {vf:β→AV} (hd:(P.underlying kt).isSome=true) (hk:KeyOK P kt kf kv beq) (l:List (κ×β)) (k:κ) (v:β) :
  ∀ K':List (AV×AV)→Prop,K' ((mput beq l k v).map (eKV kf vf))→findK P kt (kf k) (l.map (eKV kf vf)) fun kv' r=>Chk (ckOk P kt kv') (
     match r with
     | some i=>Chk (Instr.sameBits 10000 (((l.map (eKV kf vf))[i]?.bind fun e=>toK e.1).getD (.bool false)) kv') (K' ((l.map (eKV kf vf)).set i (kf k,vf v)))
     | none=>K' (l.map (eKV kf vf)++[(kf k,vf v)])):=by
 intro K' h
 refine findK_map hd hk l k ?_
 refine Chk_intro (by unfold ckOk; rw [hk.chk]) ?_
 rcases idxB_get (β:=β) (beq:=beq) (k:=k) l 0 with ⟨h1,h2⟩ | ⟨j,en,h1,h2,h3,h4⟩
 ·rw [h1]
  rw [mput_none h2,List.map_append] at h
  exact h
 ·rw [h1]
  rw [mput_some h1,List.map_set] at h
  rw [Nat.zero_add]
  refine Chk_intro ?_ h
  rw [List.getElem?_map,h2]
  show Instr.sameBits 10000 ((toK (kf en.1)).getD (.bool false)) (kv k)=true
  rw [hk.tok]
  exact hk.sam _ _ h3
theorem keyEs_map {κ:Type} (kf:κ→AV):∀ ks:List κ,keyEs (ks.map kf)=(ks.map fun k=>(k,())).map (eKV kf fun _=>AV.bad)
 | []=>rfl
 | k::ks=>by
  show (kf k,AV.bad)::keyEs (ks.map kf)=_
  rw [keyEs_map kf ks]
  rfl
theorem idxB_kfind {κ:Type} {beq:κ→κ→Bool} {k:κ}:∀ (ks:List κ) (i:Nat),idxB ((ks.map fun k=>(k,())).map fun e=>beq k e.1) i=(kfind beq ks k).map (i + ·)
 | [],_=>rfl
 | e::ks,i=>by
  rw [List.map_cons,List.map_cons]
  cases hb:beq k e with
  | true =>
   show some i=_
   unfold kfind
   rw [if_pos hb]
   rfl
  | false =>
   show idxB ((ks.map fun k=>(k,())).map fun e=>beq k e.1) (i + 1)=_
   rw [idxB_kfind ks (i + 1)]
   have hk:kfind beq (e::ks) k=(if beq k e=true then some 0 else (kfind beq ks k).map (· + 1)):=rfl
   rw [hk,if_neg (by rw [hb]; exact Bool.false_ne_true),Option.map_map]
   congr 1
   funext j
   show i + 1 + j=i + (j + 1)
   omega
theorem kfind_get {κ:Type} {beq:κ→κ→Bool} {k:κ}:∀ {ks:List κ} {j:Nat},kfind beq ks k=some j→∃ e,ks[j]?=some e∧beq k e=true
 | [],_,h=>by cases h
 | e::ks,j,h=>by
  unfold kfind at h
  split at h
  ·rename_i hb
   cases h
   exact ⟨e,rfl,hb⟩
  ·rw [Option.map_eq_some_iff] at h
   obtain ⟨j',h1,rfl⟩:=h
   obtain ⟨e',h2,h3⟩:=kfind_get h1
   exact ⟨e',by simpa using h2,h3⟩
def OwnFindP (P:Program) (kt:TypeId) {κ:Type} (kf:κ→AV) (ks:List κ) (k:κ) (r:Option Nat):Prop:=∀ K':Option Nat→Prop,K' r→findK P kt (kf k) (keyEs (ks.map kf)) fun _ r=>K' r
def OwnUpdP (P:Program) (kt:TypeId) {κ:Type} (kf:κ→AV) (ks:List κ) (k:κ) (r:Option Nat) (ks':List AV):Prop:=∀ K':Option Nat→List AV→Prop,K' r ks'→findK P kt (kf k) (keyEs (ks.map kf)) fun kv r=>Chk (ckOk P kt kv) (match r with
     | some i=>Chk (Instr.sameBits 10000 (((ks.map kf)[i]?.bind toK).getD (.bool false)) kv) (K' (some i) ((ks.map kf).set i (kf k)))
     | none=>K' none (ks.map kf++[kf k]))
section
variable {P:Program} {kt:TypeId} {κ:Type} {kf:κ→AV} {kv:κ→Value} {beq:κ→κ→Bool}
theorem ownK (hd:(P.underlying kt).isSome=true) (hk:KeyOK P kt kf kv beq) (ks:List κ) (k:κ) {K:Value→Option Nat→Prop} (h:K (kv k) (kfind beq ks k)):findK P kt (kf k) (keyEs (ks.map kf)) K:=by
 rw [keyEs_map]
 refine findK_map hd hk (ks.map fun k=>(k,())) k ?_
 rw [idxB_kfind]
 have:(kfind beq ks k).map (0 + ·)=kfind beq ks k:=by
  cases kfind beq ks k with
  | none=>rfl
  | some j=>show some (0 + j)=_; rw [Nat.zero_add]
 rw [this]
 exact h
theorem ownFind (hd:(P.underlying kt).isSome=true) (hk:KeyOK P kt kf kv beq) (ks:List κ) (k:κ) {r:Option Nat} (h:kfind beq ks k=r):∀ K':Option Nat→Prop,K' r→findK P kt (kf k) (keyEs (ks.map kf)) fun _ r=>K' r:=fun _ hK=>ownK hd hk ks k (h.symm▸hK)
theorem ownUpdN (hd:(P.underlying kt).isSome=true) (hk:KeyOK P kt kf kv beq) (ks:List κ) (k:κ) (h:kfind beq ks k=none):∀ K':Option Nat→List AV→Prop,K' none ((ks++[k]).map kf)→findK P kt (kf k) (keyEs (ks.map kf)) fun kv r=>Chk (ckOk P kt kv) (match r with
     | some i=>Chk (Instr.sameBits 10000 (((ks.map kf)[i]?.bind toK).getD (.bool false)) kv) (K' (some i) ((ks.map kf).set i (kf k)))
     | none=>K' none (ks.map kf++[kf k])):=by
 intro K' hK
 refine ownK hd hk ks k ?_
 refine Chk_intro (by unfold ckOk; rw [hk.chk]) ?_
 rw [h]
 rw [List.map_append] at hK
 exact hK
theorem ownUpdS (hd:(P.underlying kt).isSome=true) (hk:KeyOK P kt kf kv beq) (he:∀ a b,beq a b=true→a=b) (ks:List κ) (k:κ) {i:Nat} (h:kfind beq ks k=some i):∀ K':Option Nat→List AV→Prop,K' (some i) (ks.map kf)→findK P kt (kf k) (keyEs (ks.map kf)) fun kv r=>Chk (ckOk P kt kv) (match r with
     | some i=>Chk (Instr.sameBits 10000 (((ks.map kf)[i]?.bind toK).getD (.bool false)) kv) (K' (some i) ((ks.map kf).set i (kf k)))
     | none=>K' none (ks.map kf++[kf k])):=by
 intro K' hK
 refine ownK hd hk ks k ?_
 refine Chk_intro (by unfold ckOk; rw [hk.chk]) ?_
 obtain ⟨e,h1,h2⟩:=kfind_get h
 have e1:=he _ _ h2
 subst e1
 rw [h]
 have hm:(ks.map kf)[i]?=some (kf k):=by rw [List.getElem?_map,h1]; rfl
 refine Chk_intro ?_ ?_
 ·rw [hm]
  show Instr.sameBits 10000 ((toK (kf k)).getD (.bool false)) (kv k)=true
  rw [hk.tok]
  exact hk.sam _ _ h2
 ·have hset:(ks.map kf).set i (kf k)=ks.map kf:=by
   apply List.ext_getElem?
   intro j
   rw [List.getElem?_set]
   split
   ·rename_i hj
    subst hj
    rw [hm]
    split
    ·rfl
    ·rename_i hn
     exact absurd (List.getElem?_eq_some_iff.1 hm).1 hn
   ·rfl
  rw [hset]
  exact hK
end
def Dec (H:Type) (P:Program) (t:TypeId) {α:Type} (f:α→List AV) (wf:α→Prop):Prop:=∀ (n:Nat) (d:DataW H),shapeD P n t d=true→∃ x,LeR (encD P n t d) (f x)∧wf x
def DecL (H:Type) (P:Program) (ts:List TypeId) {α:Type} (f:α→List AV) (wf:α→Prop):Prop:=∀ (n:Nat) (ds:List (DataW H)),ds.length=ts.length→((ts.zip ds).all fun x=>shapeD P n x.1 x.2)=true→∃ x,LeR ((ts.zip ds).flatMap fun x=>encD P n x.1 x.2) (f x)∧wf x
section
variable {H:Type} {P:Program} {t:TypeId}
theorem Dec.int {k:IntKind} (hu:P.underlying t=some (.int k)):Dec H P t (eInt k) (inR k):=by
 intro n d h
 cases n with
 | zero=>cases h
 | succ n =>
  unfold shapeD at h
  rw [hu] at h
  cases d with
  | lit l =>
   cases l with
   | int k' m =>
    have h:(decide (k'=k)&&(Lit.int k m).wf)=true:=h
    rw [Bool.and_eq_true] at h
    obtain ⟨h1,h2⟩:=h
    have h1:=of_decide_eq_true h1
    subst h1
    have h2:(decide (k'.min≤m)&&decide (m≤k'.max))=true:=h2
    rw [Bool.and_eq_true] at h2
    refine ⟨m,?_,of_decide_eq_true h2.1,of_decide_eq_true h2.2⟩
    unfold encD
    rw [hu]
    exact LeR.refl _
   | _=>cases h
  | _=>cases h
theorem Dec.bool (hu:P.underlying t=some .bool):Dec H P t eBool (fun _=>True):=by
 intro n d h
 cases n with
 | zero=>cases h
 | succ n =>
  unfold shapeD at h
  rw [hu] at h
  cases d with
  | lit l =>
   cases l with
   | bool b =>
    refine ⟨b,?_,trivial⟩
    unfold encD
    rw [hu]
    exact LeR.refl _
   | _=>cases h
  | _=>cases h
theorem Dec.str (hu:P.underlying t=some .string):Dec H P t eStr (fun s=>s.size≤maxLen):=by
 intro n d h
 cases n with
 | zero=>cases h
 | succ n =>
  unfold shapeD at h
  rw [hu] at h
  cases d with
  | lit l =>
   cases l with
   | string bs =>
    have h:decide (bs.length≤maxLen)=true:=h
    refine ⟨⟨bs.toArray⟩,?_,?_⟩
    ·unfold encD
     rw [hu]
     exact LeR.refl _
    ·exact of_decide_eq_true h
   | _=>cases h
  | _=>cases h
theorem Dec.slice {e:TypeId} (hu:P.underlying t=some (.slice e)) {α:Type} {f:α→List AV} {wf:α→Prop} (he:Dec H P e f wf):Dec H P t (eSl f) (fun l=>l.length≤maxLen∧∀ x∈l,wf x):=by
 intro n d h
 cases n with
 | zero=>cases h
 | succ n =>
  unfold shapeD at h
  rw [hu] at h
  cases d with
  | nil =>
   refine ⟨[],?_,by simp [maxLen],fun x hx=>by cases hx⟩
   unfold encD
   rw [hu]
   exact LeR.cons LeA.nil LeR.nil
  | slice xs sp =>
   have h:(decide (xs.length≤maxLen)&&xs.all (shapeD P n e))=true:=h
   rw [Bool.and_eq_true] at h
   obtain ⟨h1,h2⟩:=h
   have key:∀ xs:List (DataW H),xs.all (shapeD P n e)=true→∃ l:List α,LeRs (xs.map (encD P n e)) (l.map f)∧l.length=xs.length∧∀ x∈l,wf x:=by
    intro xs
    induction xs with
    | nil=>exact fun _=>⟨[],LeRs.nil,rfl,fun x hx=>by cases hx⟩
    | cons x xs ih =>
     intro h
     rw [List.all_cons,Bool.and_eq_true] at h
     obtain ⟨y,hy1,hy2⟩:=he n x h.1
     obtain ⟨l,hl1,hl2,hl3⟩:=ih h.2
     refine ⟨y::l,LeRs.cons hy1 hl1,by simp [hl2],fun z hz=>?_⟩
     rcases List.mem_cons.1 hz with rfl | hz
     ·exact hy2
     ·exact hl3 z hz
   obtain ⟨l,hl1,hl2,hl3⟩:=key xs h2
   refine ⟨l,?_,by rw [hl2]; exact of_decide_eq_true h1,hl3⟩
   unfold encD
   rw [hu]
   exact LeR.cons (LeA.sl hl1) LeR.nil
  | _=>cases h
theorem DecL.nil:DecL H P [] (fun _:Unit=>[]) (fun _=>True):=fun _ _ _ _=>⟨(),LeR.nil,trivial⟩
theorem DecL.cons {ts:List TypeId} {α β:Type} {f:α→List AV} {wf:α→Prop} {g:β→List AV} {wg:β→Prop} (h:Dec H P t f wf) (hs:DecL H P ts g wg):DecL H P (t::ts) (fun x:α×β=>f x.1++g x.2) (fun x=>wf x.1∧wg x.2):=by
 intro n ds hl ha
 cases ds with
 | nil=>simp at hl
 | cons d ds =>
  rw [List.zip_cons_cons,List.all_cons,Bool.and_eq_true] at ha
  obtain ⟨x,h1,h2⟩:=h n d ha.1
  obtain ⟨y,h3,h4⟩:=hs n ds (by simpa using hl) ha.2
  refine ⟨(x,y),?_,h2,h4⟩
  rw [List.zip_cons_cons,List.flatMap_cons]
  exact h1.app h3
theorem Dec.struct {fs:Array Field} (hu:P.underlying t=some (.struct fs)) {α:Type} {g:α→List AV} {wg:α→Prop} (h:DecL H P (fs.toList.map (·.type)) g wg):Dec H P t g wg:=by
 intro n d hd
 cases n with
 | zero=>cases hd
 | succ n =>
  unfold shapeD at hd
  rw [hu] at hd
  cases d with
  | agg ds =>
  have hd:(Nat.beq ds.length fs.size&&(fs.toList.zip ds).all fun x=>shapeD P n x.1.type x.2)=true:=hd
  rw [Bool.and_eq_true] at hd
  obtain ⟨h1,h2⟩:=hd
  have hlen:=Nat.eq_of_beq_eq_true h1
  obtain ⟨x,h3,h4⟩:=h n ds (by simpa using hlen) (by
   rw [List.zip_map_left,List.all_map]
   exact h2)
  refine ⟨x,?_,h4⟩
  unfold encD
  rw [hu]
  dsimp only
  rw [List.zip_map_left,List.flatMap_map] at h3
  exact h3
  | _=>cases hd
theorem Dec.conv {α β:Type} {f:α→List AV} {wf:α→Prop} {g:β→List AV} {wg:β→Prop} (h:Dec H P t f wf) (φ:α→β) (hf:∀ x,f x=g (φ x)) (hw:∀ x,wf x→wg (φ x)):Dec H P t g wg:=fun n d hd=>by
 obtain ⟨x,h1,h2⟩:=h n d hd
 exact ⟨φ x,by rw [← hf]; exact h1,hw x h2⟩
theorem Dec.argS {fs:Array Field} (hu:P.underlying t=some (.struct fs)) {α:Type} {f:α→List AV} {wf:α→Prop} (h:Dec H P t f wf) {n:Nat} {d:DataW H} (hd:shapeD P n t d=true):∃ x,LeA (argAV P n t d) (.agg (f x))∧wf x:=by
 obtain ⟨x,h1,h2⟩:=h n d hd
 refine ⟨x,?_,h2⟩
 unfold argAV
 rw [hu]
 exact LeA.agg h1
theorem Dec.arg1 (hs:isStruct P t=false) {α:Type} {f:α→List AV} {wf:α→Prop} {g:α→AV} (h:Dec H P t f wf) (hg:∀ x,f x=[g x]) {n:Nat} {d:DataW H} (hd:shapeD P n t d=true):∃ x,LeA (argAV P n t d) (g x)∧wf x:=by
 obtain ⟨x,h1,h2⟩:=h n d hd
 refine ⟨x,?_,h2⟩
 rw [hg] at h1
 unfold isStruct at hs
 unfold argAV
 split
 ·rename_i fs hu
  rw [hu] at hs
  cases hs
 ·generalize encD P n t d=r at h1
  cases r with
  | nil=>exact absurd h1.1 (by simp)
  | cons a r=>exact h1.2 0 a _ rfl rfl
end
end A
end Go.Proofs.YtomahedcdcnnhaaDoor
