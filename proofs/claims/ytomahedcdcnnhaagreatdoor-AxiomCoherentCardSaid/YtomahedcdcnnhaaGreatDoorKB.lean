/- The evaluator with answers; contracts out of it. Nothing is claimed here of the program. -/
import Derived.Test.YtomahedcdcnnhaaGreatDoorK6
import Derived.Test.YtomahedcdcnnhaaGreatDoorM0
import Derived.Laws.StructEq
namespace Go.Proofs.YtomahedcdcnnhaaGreatDoor
namespace A
open Go
def qZ {α:Type}:List (Nat×α)→Nat→Option α
 | [],_=>none
 | (d,x)::xs,e=>match Nat.beq d e with | true=>some x | false=>qZ xs e
structure Wk where
 ts:List Nat
 ls:List Nat
 no:Nat
 pr:List (Nat×Nat)
 pl:List (Nat×Nat×Nat)
 fz:List Nat
def Il (ts:List Nat):Nat→List AV→List AV
 | _,[]=>[]
 | i,x::xs=>(match fe ts i with | true=>x | false=>.bad)::Il ts (i + 1) xs
def zV:List Nat→St→St
 | [],S=>S
 | d::ds,S=>zV ds (eM d S)
def Ge:Nat→Nat→List Nat
 | _,0=>[]
 | i,n + 1=>i::Ge (i + 1) n
def Gf:List Nat→St→St
 | [],S=>S
 | i::is,S=>Gf is (f6 i S)
def zW:List Ob→Bool
 | []=>true
 | .dead::os=>zW os
 | _=>false
def Kv (n:Nat) (S:St):St :=
 match zW (S.o.drop n)&&Nat.ble S.b n with
 | true=>{ t:=S.t,l:=S.l,o:=S.o.take n,b:=S.b }
 | false=>S
def BE:List (Nat×Nat)→St→St
 | [],S=>S
 | (d,sz)::ps,S=>match S.t[d]? with
  | some .nilsl=>BE ps { t:=S.t.set d (.mf S.o.length),l:=S.l,o:=S.o++[.arr true sz []],b:=S.b }
  | _=>BE ps S
def yQ:List (Nat×Nat×Nat)→St→St
 | [],S=>S
 | (d,j,sz)::ps,S=>match aQ S.l d with
  | some row=>match row[j]? with
   | some .nilsl=>yQ ps { t:=S.t,l:=un S.l d (row.set j (.mf S.o.length)),o:=S.o++[.arr true sz []],b:=S.b }
   | _=>yQ ps S
  | none=>yQ ps S
def EX:List Nat→St→St
 | [],S=>S
 | d::ds,S=>match S.t[d]? with
  | some a=>match Dv S.o 6 a with
   | some b=>EX ds { t:=(lI (dK S.o 6 a) S).t.set d b,l:=(lI (dK S.o 6 a) S).l,o:=(lI (dK S.o 6 a) S).o,b:=(lI (dK S.o 6 a) S).b }
   | none=>EX ds S
  | none=>EX ds S
def PD (W:Wk) (S:St):St :=
 yQ W.pl (BE W.pr (Kv W.no (Gf (Ge W.no (S.o.length - W.no)) (zV W.ls { t:=Il W.ts 0 S.t,l:=S.l,o:=S.o,b:=S.b }))))
def wk (W:Wk) (S:St):St:=PD W (EX W.fz S)
def aJ (a b:AV):Prop:=∀ E u,VR E a u→VR E b u
def aV (r r':List AV):Prop:=r.length=r'.length∧∀ (i:Nat) (a b:AV),r[i]?=some a→r'[i]?=some b→aJ a b
def eX (r r':List (List AV)):Prop:=r.length=r'.length∧∀ (i:Nat) (a b:List AV),r[i]?=some a→r'[i]?=some b→aV a b
structure Le where
 ts:List (Nat×AV)
 ls:List (Nat×List AV)
 os:List (Nat×List (List AV))
def Kw:List (Nat×AV)→St→(St→Prop)→Prop
 | [],S,K=>K S
 | (d,v)::xs,S,K=>qf S.t d fun a=>aJ a v∧sr S.t d v fun t=>Kw xs { t:=t,l:=S.l,o:=S.o,b:=S.b } K
def Im:List (Nat×List AV)→St→(St→Prop)→Prop
 | [],S,K=>K S
 | (d,r)::xs,S,K=>match aQ S.l d with
  | some row=>aV row r∧nM (un S.l d r) fun l=>Im xs { t:=S.t,l:=l,o:=S.o,b:=S.b } K
  | none=>ak 450
def Io:List (Nat×List (List AV))→St→(St→Prop)→Prop
 | [],S,K=>K S
 | (i,R)::xs,S,K=>match S.o[i]? with
  | some (.arr fl sz rows)=>eX rows R∧bg (S.o.set i (.arr fl sz R)) fun o=>Io xs { t:=S.t,l:=S.l,o:=o,b:=S.b } K
  | _=>ak 451
def Mp (L:Le) (S:St) (K:St→Prop):Prop:=Kw L.ts S fun S=>Im L.ls S fun S=>Io L.os S K
structure zX where
 at_:Option Nat
 row:Option (List (List AV))
 ks:List AV
 cs:List (Option (List (List AV)))
structure fa where
 dem:List Nat
 chk:List Nat
 row:List (Nat×List AV)
 val:List (Nat×AV)
 call:List (Nat×AV)
 sto:List (Nat×(AV×List Ob))
 obr:List (Nat×(Nat×List (List AV)))
 mpr:List (Nat×List (AV×AV))
 own:List (Nat×zX)
inductive PT where
 | done
 | go (i:Nat) (t:PT)
 | alt (i:Nat) (t r:PT)
def eO:List Nat→PT
 | []=>.done
 | i::is=>.go i (eO is)
def Pk:PT→List Nat
 | .done=>[0]
 | .go i t=>1::i::Pk t
 | .alt i t r=>2::i::(Pk t++Pk r)
def CQ:PT→PT→Bool
 | .done,.done=>true
 | .go i t,.go j u=>Nat.beq i j&&CQ t u
 | .alt i t r,.alt j u s=>Nat.beq i j&&(CQ t u&&CQ r s)
 | _,_=>false
structure xI where
 ord:List (Nat×PT)
 reg:List (Nat×fa)
 wr:List (Nat×Le)
 lps:List (Nat×(Wk×Le×Ex×St))
 cut:List (Nat×(Wk×Le×Ex×St))
def EY (A:xI) (id:Nat):fa :=
 match qZ A.reg id with
 | some R=>R
 | none=>⟨[],[],[],[],[],[],[],[],[]⟩
def keyOf (o:Oper):Nat :=
 match o.dst with
 | some d=>d
 | none=>match o.op with
  | .store _ (.tmp t) _=>t + 1000000
  | .mapUpdate _ (.tmp t) _ _=>t + 1000000
  | .insert _ (.tmp t) _ _=>t + 1000000
  | _=>0
def CR (rows:List (List AV)) (i:Int):Option (List AV):=if 0≤i then rows[i.toNat]? else none
def Gg (op:BinOp) (x y:Value) (K:Value→Prop):Prop :=
 match op,x,y with
 | .quo,.int k a,.int k' b=>(decide (k=k')&&!(b==0))=true∧K (.int k (k.wrap (a.tdiv b)))
 | .rem,.int k a,.int k' b=>(decide (k=k')&&!(b==0))=true∧K (.int k (a.tmod b))
 | .shl,.int k a,.int _ b=>decide (0≤b)=true∧K (.int k (k.wrap (a * 2 ^ (min b.toNat k.bits))))
 | .shr,.int k a,.int _ b=>decide (0≤b)=true∧K (.int k (a.fdiv (2 ^ (min b.toNat k.bits))))
 | .add,.string a,.string b=>decide (((a.size + b.size:Nat):Int)≤9223372036854775807)=true∧K (.string (a++b))
 | _,_,_=>ak 20
def Gi (C:Ctx) (A:fa) (o:Oper) (op:BinOp) (t:TypeId) (x y:AV) (k:AV→Prop):Prop :=
 match x,y with
 | .v a,.v b=>match H8 op a b with
  | none=>match a,b with
   | .bool x,.bool y=>AH C.P op t x y k
   | a,b=>Gg op a b fun c=>k (.v c)
  | some c=>k (.v c)
 | .agg as,.agg bs=>match uo as,uo bs with
  | some xs,some ys=>match qZ A.val (keyOf o) with
   | some (.v (.bool b))=>nN C.P op t xs ys=some (.bool b)∧k (.v (.bool b))
   | _=>ak 400
  | _,_=>ak 401
 | _,_=>ak 402
def zY (C:Ctx) (A:fa) (o:Oper) (t:TypeId) (x ix:AV) (k:AV→Prop):Prop :=
 intOf ix fun i =>
 match C.P.underlying t,x with
 | some .string,.v (.string s)=>match qZ A.val (keyOf o) with
  | some (.v (.int .u8 n))=>(if 0≤i then s[i.toNat]? else none)=some (UInt8.ofNat n.toNat)∧(n=((UInt8.ofNat n.toNat).toNat:Int)∧k (.v (.int .u8 n)))
  | _=>ak 403
 | some (.array len e),.agg cs=>match C.P.info? e with
  | some inf=>(decide (0≤i)&&decide (i<len))=true∧iH C.P e cs (i.toNat * inf.size) k
  | none=>ak 404
 | _,_=>ak 405
def Kx (C:Ctx) (A:fa) (pl:bw) (o:Oper) (vs:List AV) (k:AV→Prop):Prop :=
 match fe A.chk (keyOf o) with
 | false=>pop C pl o vs k
 | true=>match o.op,vs with
  | .binOp op t _ _ _,[a,b]=>Gi C A o op t a b k
  | .index t _ _,[a,i]=>zY C A o t a i k
  | _,_=>ak 406
def yR (len cap:Nat) (lo hi mx:Option Int) (k:Nat→Nat→Nat→Prop):Prop :=
 match lo,hi,mx with
 | none,none,none=>k 0 len cap
 | some l,none,none=>(decide (0≤l)&&decide (l≤len))=true∧k l.toNat len cap
 | none,some h,none=>(decide (0≤h)&&decide (h≤cap))=true∧k 0 h.toNat cap
 | some l,some h,none=>(decide (0≤l)&&decide (l≤h)&&decide (h≤cap))=true∧k l.toNat h.toNat cap
 | none,some h,some m=>(decide (0≤h)&&decide (h≤m)&&decide (m≤cap))=true∧k 0 h.toNat m.toNat
 | some l,some h,some m=>(decide (0≤l)&&decide (l≤h)&&decide (h≤m)&&decide (m≤cap))=true∧k l.toNat h.toNat m.toNat
 | _,_,_=>ak 63
def lL (C:Ctx) (t:TypeId) (x:AV) (lo hi mx:Option Int) (S:St) (k:AV→Prop):Prop :=
 match C.P.underlying t with
 | some .string =>
  match x,mx with
  | .v (.string s),none=>yR s.size s.size lo hi none fun l h _=>k (.v (.string (s.extract l h)))
  | _,_=>ak 64
 | some (.slice e) =>
  match C.P.info? e with
  | some i=>bz (Nat.blt 0 i.size) (
   match x with
   | .sl rows=>di i.size rows=true∧yR rows.length rows.length lo hi mx fun l h _ =>
    match lo,hi,i1 mx&&i1 hi with
    | _,_,true=>k .esl
    | none,none,_=>k (.sl rows)
    | _,none,_=>k (.sl (rows.drop l))
    | none,_,_=>k (.sl (rows.take h))
    | _,_,_=>k (.sl ((rows.drop l).take (h - l)))
   | .mf id=>match S.o[id]? with
    | some (.arr _ sz rows)=>bz (Nat.beq sz i.size) (yR rows.length rows.length lo hi mx fun l h m =>
     match lo,hi,i1 mx&&i1 hi with
     | _,_,true=>k .esl
     | none,none,_=>k (.mf id)
     | _,none,_=>k (.msl id l (rows.length - l) 0)
     | _,_,_=>k (.msl id l (h - l) (m - h)))
    | _=>ak 65
   | .msl id off len ext=>match S.o[id]? with
    | some (.arr _ sz _)=>bz (Nat.beq sz i.size) (yR len (len + ext) lo hi mx fun l h m =>
     match i1 mx&&i1 hi with
     | true=>k .esl
     | false=>k (.msl id (l + off) (h - l) (m - h)))
    | _=>ak 66
   | _=>ak 67)
  | none=>ak 68
 | _=>ak 69
def oJ (C:Ctx) (row:List AV) (t:TypeId) (x ix:AV) (S:St) (k:AV→Prop):Prop :=
 intOf ix fun i =>
 match C.P.underlying t with
 | some (.slice e) =>
  match C.P.info? e with
  | some inf =>
   match x with
   | .sl rows=>CR rows i=some row∧bz (Nat.beq row.length inf.size&&Nat.blt 0 inf.size) (k (.fptr row 0))
   | .mf id=>match S.o[id]? with
    | some (.arr _ _ rows)=>CR rows i=some row∧bz (Nat.beq row.length inf.size&&Nat.blt 0 inf.size) (k (.ptr (.O id) i.toNat 0))
    | some (.own none _ cells _)=>bz (Nat.beq inf.size 1) ((decide (0≤i)&&Nat.blt i.toNat cells.length)=true∧k (.ptr (.O id) i.toNat 0))
    | _=>ak 72
   | .msl id off len _=>match S.o[id]? with
    | some (.arr _ _ rows)=>(decide (0≤i)&&decide (i<len))=true∧(rows[i.toNat + off]?=some row∧bz (Nat.beq row.length inf.size&&Nat.blt 0 inf.size) (k (.ptr (.O id) (i.toNat + off) 0)))
    | _=>ak 74
   | _=>ak 75
  | none=>ak 76
 | some (.array len e) =>
  match C.P.info? e with
  | some inf=>(decide (0≤i)&&decide (i<len))=true∧(
   match x with
   | .ptr key a j=>k (.ptr key a (i.toNat * inf.size + j))
   | .fptr row j=>k (.fptr row (i.toNat * inf.size + j))
   | _=>ak 77)
  | none=>ak 78
 | _=>ak 79
def u4 (C:Ctx) (A:fa) (o:Oper) (fid:Nat) (as:List AV) (k:AV→Prop):Prop :=
 match qZ A.call (keyOf o) with
 | some r=>(C.pcall fid as fun x=>x=r)∧k r
 | none=>C.pcall fid as k
def Ky (C:Ctx) (A:fa) (o:Oper) (vs:List AV) (M:St) (k:AV→Prop):Prop :=
 match o.op,vs with
 | .load t _,[p]=>match qZ A.row (keyOf o) with
  | some row=>match p with
   | .ptr (.O id) i j=>match M.o[id]? with
    | some (.arr _ _ rows)=>rows[i]?=some row∧iH C.P t row j k
    | _=>ak 410
   | _=>ak 411
  | none=>q8 C o vs M k
 | .slice t _ lo hi mx,a::rest=>match fe A.chk (keyOf o) with
  | false=>q8 C o vs M k
  | true=>match lo,hi,mx,rest with
   | none,none,none,[]=>lL C t a none none none M k
   | some _,none,none,[x]=>intOf x fun x=>lL C t a (some x) none none M k
   | none,some _,none,[y]=>intOf y fun y=>lL C t a none (some y) none M k
   | some _,some _,none,[x,y]=>intOf x fun x=>intOf y fun y=>lL C t a (some x) (some y) none M k
   | none,some _,some _,[y,z]=>intOf y fun y=>intOf z fun z=>lL C t a none (some y) (some z) M k
   | some _,some _,some _,[x,y,z]=>intOf x fun x=>intOf y fun y=>intOf z fun z=>lL C t a (some x) (some y) (some z) M k
   | _,_,_,_=>ak 202
 | .indexAddr t _ _,[a,i]=>match qZ A.row (keyOf o) with
  | some row=>oJ C row t a i M k
  | none=>q8 C o vs M k
 | .lookup t _ _ ok,[m,key]=>match qZ A.call (keyOf o) with
  | some a=>match C.P.underlying t,m with
   | some (.map kt e),.mp id=>match M.o[id]? with
    | some (.mapo _ es)=>(∀ k':AV→Prop,k' a→cK C.P kt key es fun _ r=>eJ C.P e ok es r k')∧k a
    | _=>ak 412
   | _,_=>ak 413
  | none=>q8 C o vs M k
 | .call c,vs=>match c.callee with
  | .value _=>match vs with
   | .fn fid first cap::as=>bz (C.pure fid) (i3 M.o (first++as++cap) fun bs=>u4 C A o fid bs fun r=>bz (vh 4 r||((first++as++cap).flatMap (dK M.o 6)).isEmpty) (k r))
   | _=>ak 205
  | _=>q8 C o vs M k
 | _,_=>q8 C o vs M k
def zZ (S:St) (row:List AV) (a:AV) (cs:List AV) (K:St→Prop):Prop :=
 match a with
 | .ptr (.O id) i j =>
  match S.o[id]? with
  | some (.arr fl sz rows)=>rows[i]?=some row∧bz (Nat.ble (j + cs.length) row.length&&cs.all (uT 4)) (iF (splice row j cs) fun row'=>bg (S.o.set id (.arr (fl&&cs.all (dn 4)) sz (rows.set i row'))) fun o=>K { t:=S.t,l:=S.l,o:=o,b:=S.b })
  | _=>ak 18
 | _=>ak 19
def Ip (C:Ctx) (A:fa) (o:Oper) (vs:List AV) (M:St) (k:AV→St→Prop):Prop :=
 match qZ A.row (keyOf o) with
 | none=>ye C o vs M k
 | some row=>match o.op,vs with
  | .store t _ _,[p,y]=>match p with
   | .ptr (.O _) _ _=>mS y fun cs=>match C.P.info? t with
    | some i=>bz (Nat.beq cs.length i.size) (zZ M row p cs fun M'=>k .bad M')
    | none=>ak 208
   | _=>ye C o vs M k
  | _,_=>ye C o vs M k
def wv (size:Nat) (S:St) (x:AV) (k:Bool→List (List AV)→Prop):Prop :=
 match x with
 | .nilsl | .esl=>k true []
 | .sl rows=>di size rows=true∧k true rows
 | .mf id=>match S.o[id]? with | some (.arr fl sz rows)=>bz (Nat.beq sz size) (k fl rows) | _=>ak 45
 | .msl id off len _=>match S.o[id]? with | some (.arr fl sz rows)=>bz (Nat.beq sz size) (k fl ((rows.drop off).take len)) | _=>ak 46
 | .v (.string s)=>bz (Nat.beq size 1) (k true (s.data.toList.map fun b=>[.v (.int .u8 b.toNat)]))
 | _=>ak 47
def ww (P:Program) (ts:List TypeId) (base x:AV) (S:St) (k:St→AV→Prop):Prop :=
 match ts with
 | [t0,t1] =>
  match P.underlying t0 with
  | some (.slice e) =>
   match P.info? e with
   | some i=>bz (Nat.blt 0 i.size&&Nat.blt 0 i.bytes&&JF i&&(match P.underlying t1 with | some (.slice _) | some .string=>true | _=>false)) (wv i.size S x fun fl src=>a5 src=true∧(
     match base with
     | .nilsl | .esl=>Nat.ble (src.length * i.bytes) 140737488355328=true∧(bg (S.o++[.arr fl i.size src]) fun o=>k { t:=S.t,l:=S.l,o:=o,b:=S.b } (.mf S.o.length))
     | .mf id=>match S.o[id]? with
      | some (.arr fl' sz rows)=>bz (Nat.beq sz i.size&&(fl||!fl')) (Nat.ble ((rows.length + src.length) * i.bytes) 140737488355328=true∧pN S id (.arr (fl'&&fl) sz (rows++src)) fun S' id'=>k S' (.mf id'))
      | _=>ak 48
     | .msl id off len ext=>match S.o[id]? with
      | some (.arr fl' sz rows)=>bz (Nat.beq sz i.size&&(fl||!fl')) (Nat.ble src.length ext=true∧(Nat.ble (off + len + ext) rows.length=true ∧
        bg (S.o.set id (.arr (fl'&&fl) sz (rows.take (off + len)++(src++rows.drop (off + len + src.length))))) fun o=>k { t:=S.t,l:=S.l,o:=o,b:=S.b } (.msl id off (len + src.length) (ext - src.length))))
      | _=>ak 49
     | _=>ak 50))
   | none=>ak 51
  | _=>ak 52
 | _=>ak 53
def sY (P:Program) (ts:List TypeId) (base x:AV) (k:AV→Prop):Prop :=
 match ts with
 | [t0,t1] =>
  match P.underlying t0 with
  | some (.slice e) =>
   match P.info? e with
   | some i=>bz (Nat.blt 0 i.size&&Nat.blt 0 i.bytes&&JF i&&(match P.underlying t1 with | some (.slice _) | some .string=>true | _=>false)) (wv i.size Ph x fun fl src=>bz fl (a5 src=true∧(Nat.ble (src.length * i.bytes) 140737488355328=true∧(
     match base with
     | .nilsl | .esl=>k (.sl src)
     | _=>ak 254))))
   | none=>ak 255
  | _=>ak 256
 | _=>ak 257
def Kz (C:Ctx) (o:Oper) (vs:List AV) (k:AV→Prop):Prop :=
 match o.op,vs with
 | .call c,[x,y]=>match c.callee with
  | .builtin .append=>sY C.P c.argTypes.toList x y k
  | _=>ak 258
 | _,_=>ak 259
def sZ (P:Program) (ts:List TypeId) (base:AV) (n:Int) (S:St) (k:St→AV→Prop):Prop :=
 match ts with
 | [t0,t1] =>
  match P.underlying t0,P.underlying t1 with
  | some (.slice e),some (.int _) =>
   match P.info? e with
   | some i=>(Nat.blt 0 i.size&&Nat.blt 0 i.bytes&&decide (0<n)&&decide (n * i.bytes≤140737488355328)&&decide (n≤140737488355328))=true∧(cH P e fun z=>bz (z.all (dn 2)) (
     match base with
     | .nilsl | .esl=>bg (S.o++[.arr true i.size (List.replicate n.toNat z)]) fun o=>k { t:=S.t,l:=S.l,o:=o,b:=S.b } (.mf S.o.length)
     | _=>ak 250))
   | none=>ak 251
  | _,_=>ak 252
 | _=>ak 253
def lM (P:Program) (t:TypeId) (l c:AV) (S:St) (k:St→AV→Prop):Prop :=
 match P.underlying t with
 | some (.slice e) =>
  match P.info? e with
  | some i=>intOf l fun l=>intOf c fun c=>(decide (0≤l)&&decide (l≤c)&&decide (i.bytes * c≤140737488355328)&&decide (c≤140737488355328)&&Nat.blt 0 i.size)=true ∧
    (cH P e fun z=>bz (z.all (dn 2)) (bg (S.o++[.arr true i.size (List.replicate l.toNat z)]) fun o=>k { t:=S.t,l:=S.l,o:=o,b:=S.b } (.mf S.o.length)))
  | none=>ak 61
 | _=>ak 62
def CS (P:Program) (ts:List TypeId) (x y:AV) (M:St) (k:AV→St→Prop):Prop :=
 match ts with
 | t::_ =>
  match P.underlying t with
  | some (.slice e) =>
   match P.info? e with
   | some i=>bz (Nat.blt 0 i.size) (wv i.size M y fun fl src=>a5 src=true∧bz (!(My y)) (
     match x with
     | .mf id=>match M.o[id]? with
      | some (.arr fl' sz rows)=>bz (Nat.beq sz i.size) (bg (M.o.set id (.arr (fl'&&fl) sz (src.take rows.length++rows.drop src.length))) fun o=>k (.v (.int .i64 ((min src.length rows.length:Nat):Int))) { t:=M.t,l:=M.l,o:=o,b:=M.b })
      | _=>ak 243
     | .msl id off len _=>match M.o[id]? with
      | some (.arr fl' sz rows)=>bz (Nat.beq sz i.size) (Nat.ble (off + len) rows.length=true∧(bg (M.o.set id (.arr (fl'&&fl) sz (rows.take off++(src.take len++rows.drop (off + min src.length len))))) fun o=>k (.v (.int .i64 ((min src.length len:Nat):Int))) { t:=M.t,l:=M.l,o:=o,b:=M.b }))
      | _=>ak 244
     | _=>ak 245))
   | none=>ak 246
  | _=>ak 247
 | []=>ak 248
def CU (C:Ctx) (A:fa) (o:Oper) (f:AV) (args:List AV) (S:St) (k:St→AV→Prop):Prop :=
 match f with
 | .fn fid first cap =>
  match C.pure fid with
  | true=>i3 S.o (first++args++cap) fun as=>u4 C A o fid as fun r =>
    match vh 4 r with
    | true=>k S r
    | false=>gw ((first++args++cap).flatMap (dK S.o 6)) S fun S'=>k S' r
  | false=>bz ((first++args++cap).all (uT 4)) (match qZ A.sto (keyOf o) with
   | some (r,o')=>(C.scall fid (first++args++cap) S.o fun r' o''=>r'=r∧o''=o')∧j4 (bK S.o o' 0) S.t S.l fun t l=>k { t:=t,l:=l,o:=o',b:=S.b } r
   | none=>C.scall fid (first++args++cap) S.o fun r o'=>j4 (bK S.o o' 0) S.t S.l fun t l=>k { t:=t,l:=l,o:=o',b:=S.b } r)
 | _=>ak 97
def lN (P:Program) (R:List (AV×AV)) (t:TypeId) (m key x:AV) (S:St) (K:St→Prop):Prop :=
 match P.underlying t with
 | some (.map kt _) =>
  match m with
  | .mp id=>match S.o[id]? with
   | some (.mapo fl es)=>bz (uT 4 x) ((∀ K':List (AV×AV)→Prop,K' R→cK P kt key es fun kv r=>bz (qi P kt kv) (
     match r with
     | some i=>bz (Instr.sameBits 10000 ((es[i]?.bind fun e=>tE e.1).getD (.bool false)) kv) (K' (es.set i (key,x)))
     | none=>K' (es++[(key,x)])))∧bg (S.o.set id (.mapo (fl&&dn 4 x) R)) fun o=>K { t:=S.t,l:=S.l,o:=o,b:=S.b })
   | _=>ak 106
  | _=>ak 107
 | _=>ak 108
def Iq (C:Ctx) (A:fa) (pl:bw) (o:Oper) (S:St) (K:St→Prop):Prop :=
 match o.op with
 | .mapUpdate t m key x=>match qZ A.mpr (keyOf o) with
  | some R=>cE S m fun m=>cE S key fun key=>cE S x fun x=>lN C.P R t m key x S fun S'=>bE o.dst .bad S' K
  | none=>xp C pl o S K
 | .insert t m key x=>match qZ A.mpr (keyOf o) with
  | some R=>cE S m fun m=>cE S key fun key=>cE S x fun x=>lN C.P R t m key x S fun S'=>bE o.dst .bad S' K
  | none=>xp C pl o S K
 | .makeSlice t l c=>match fe A.chk (keyOf o) with
  | true=>cE S l fun l=>cE S c fun c=>lM C.P t l c S fun S' a=>bE o.dst a S' K
  | false=>xp C pl o S K
 | .call c=>match c.callee with
  | .builtin .append=>match fe A.chk (keyOf o) with
   | true=>du S c.args.toList fun as=>match as with
    | [x,.v (.int _ n)]=>sZ C.P c.argTypes.toList x n S fun S' r=>bE o.dst r S' K
    | [x,y]=>ww C.P c.argTypes.toList x y S fun S' r=>bE o.dst r S' K
    | _=>ak 210
   | false=>xp C pl o S K
  | .builtin .copy=>du S c.args.toList fun as=>match as with
    | [x,y]=>CS C.P c.argTypes.toList x y S fun r S'=>bE o.dst r S' K
    | _=>ak 249
  | .value f=>cE S f fun fv=>du S c.args.toList fun as=>CU C A o fv as S fun S' r=>bE o.dst r S' K
  | _=>xp C pl o S K
 | _=>xp C pl o S K
def JJ (A:fa) (dst:Option Tmp) (S:St) (K:St→Prop):Prop :=
 match dst with
 | none=>K S
 | some d=>match qZ A.val d with
  | none=>K S
  | some v=>qf S.t d fun a=>a=v∧sr S.t d v fun t=>K { t:=t,l:=S.l,o:=S.o,b:=S.b }
def Gj (A:fa) (key:Nat) (S:St) (K:St→Prop):Prop :=
 match qZ A.obr key with
 | none=>K S
 | some (id,R)=>match S.o[id]? with
  | some (.arr fl sz rows)=>rows=R∧bg (S.o.set id (.arr fl sz R)) fun o=>K { t:=S.t,l:=S.l,o:=o,b:=S.b }
  | _=>ak 430
def Gk (C:Ctx) (A:fa) (pl:bw) (o:Oper) (S:St) (K:St→Prop):Prop :=
 du S o.op.operands.toList fun vs=>Kx C A pl o vs fun r=>bE o.dst r S K
def Gl (C:Ctx) (A:fa) (o:Oper) (S:St) (K:St→Prop):Prop :=
 du S o.op.operands.toList fun vs=>Ky C A o vs (cL S) fun r=>bE o.dst r S K
def JK (C:Ctx) (A:fa) (o:Oper) (S:St) (K:St→Prop):Prop :=
 du S o.op.operands.toList fun vs=>Ip C A o vs (cL S) fun r M=>bE o.dst r (fJ S M) K
def pz (row:Option (List (List AV))) (M:St) (id i:Nat) (k:AV→St→Prop):Prop :=
 match M.o[id]? with
 | some (.own ks sz cells none)=>match row with
  | none=>cells[i]?=some none∧k .nilsl M
  | some rows=>cells[i]?=some (some rows)∧bg (M.o.set id (.own ks sz cells (some (i,.mf M.o.length)))++[.arr true sz rows]) fun o=>k (.mf M.o.length) { t:=M.t,l:=M.l,o:=o,b:=M.b }
 | _=>ak 323
def s0 (P:Program) (a:zX) (t:TypeId) (same:Bool) (M:St) (id i:Nat) (k:AV→St→Prop):Prop :=
 match same with
 | true=>match M.o[id]? with
  | some (.own none _ cells (some (j,a)))=>(Nat.beq i j&&Nat.blt j cells.length)=true∧iH P t [a] 0 fun r=>k r M
  | _=>ak 324
 | false=>pz a.row M id i fun a M'=>iH P t [a] 0 fun r=>k r M'
def qK (P:Program) (t:TypeId) (M:St) (id i:Nat) (v:AV) (K:St→Prop):Prop :=
 match P.info? t,M.o[id]? with
 | some inf,some (.own none sz cells hole)=>bz (sB v&&Nat.beq inf.size 1) ((Nat.blt i cells.length&&cO hole i)=true∧(bg (M.o.set id (.own none sz cells (some (i,v)))) fun o=>K { t:=M.t,l:=M.l,o:=o,b:=M.b }))
 | _,_=>ak 325
def s5 (P:Program) (a:zX) (t:TypeId) (l c:AV) (M:St) (k:AV→St→Prop):Prop :=
 match P.underlying t with
 | some (.slice e) =>
  match P.info? e,P.underlying e with
  | some i,some (.slice e2)=>match P.info? e2 with
   | some i2=>intOf l fun l=>intOf c fun c=>(decide (0≤l)&&decide (l≤c)&&decide (i.bytes * c≤140737488355328)&&decide (c≤140737488355328)&&Nat.blt 0 i.size)=true∧bz (Nat.beq i.size 1&&Nat.blt 0 i2.size)
     (cH P e fun z=>match z with
      | [.nilsl]=>List.replicate l.toNat none=a.cs∧bg (M.o++[.own none i2.size a.cs none]) fun o=>k (.mf M.o.length) { t:=M.t,l:=M.l,o:=o,b:=M.b }
      | _=>ak 325)
   | none=>ak 326
  | _,_=>ak 61
 | _=>ak 62
def s9 (P:Program) (a:zX) (t:TypeId) (m key:AV) (ok:Bool) (M:St) (k:AV→St→Prop):Prop :=
 match P.underlying t with
 | some (.map kt e)=>match m with
  | .mp id=>match M.o[id]? with
   | some (.own (some ks) _ _ none)=>match a.at_ with
    | some i=>(∀ K':Option Nat→Prop,K' (some i)→cK P kt key (eU ks) fun _ r=>K' r)∧pz a.row M id i fun a M'=>nQ ok a true fun r=>k r M'
    | none=>(∀ K':Option Nat→Prop,K' none→cK P kt key (eU ks) fun _ r=>K' r)∧iI P e ok fun r=>k r M
   | _=>ak 333
  | _=>ak 334
 | _=>ak 335
def MD (M:St) (id sz:Nat) (cells:List (Option (List (List AV)))) (hole:Option (Nat×AV)) (x:AV) (K:St→Prop) (r:Option Nat) (ks:List AV):Prop :=
 match r with
 | some i=>cO hole i=true∧(bg (M.o.set id (.own (some ks) sz cells (some (i,x)))) fun o=>K { t:=M.t,l:=M.l,o:=o,b:=M.b })
 | none=>match hole with
  | none=>bg (M.o.set id (.own (some ks) sz (cells++[none]) (some (cells.length,x)))) fun o=>K { t:=M.t,l:=M.l,o:=o,b:=M.b }
  | some _=>ak 339
def rH (P:Program) (a:zX) (t:TypeId) (m key x:AV) (M:St) (K:St→Prop):Prop :=
 match P.underlying t with
 | some (.map kt _)=>match m with
  | .mp id=>match M.o[id]? with
   | some (.own (some ks) sz cells hole)=>bz (sB x) ((∀ K':Option Nat→List AV→Prop,K' a.at_ a.ks→cK P kt key (eU ks) fun kv r=>bz (qi P kt kv) (match r with
     | some i=>bz (Instr.sameBits 10000 ((ks[i]?.bind tE).getD (.bool false)) kv) (K' (some i) (ks.set i key))
     | none=>K' none (ks++[key])))∧MD M id sz cells hole x K a.at_ a.ks)
   | _=>ak 340
  | _=>ak 341
 | _=>ak 342
def DR (P:Program) (A:fa) (pl:bw) (o:Oper) (vs:List AV) (M:St) (k:AV→St→Prop):Prop :=
 match qZ A.own (keyOf o) with
 | none=>lq P pl o vs M k
 | some a=>match o.op,vs with
  | .load t _,[p]=>je M p fun id i=>s0 P a t (Dw pl o) M id i k
  | .store t _ _,[p,v]=>je M p fun id i=>qK P t M id i v fun M'=>k .bad M'
  | .makeSlice t _ _,[l,c]=>s5 P a t l c M k
  | .lookup t _ _ ok,[m,key]=>s9 P a t m key ok M k
  | .mapUpdate t _ _ _,[m,key,x]=>rH P a t m key x M fun M'=>k .bad M'
  | .insert t _ _ _,[m,key,x]=>rH P a t m key x M fun M'=>k .bad M'
  | _,_=>ak 343
def ta (A:fa) (S:St) (id:Nat) (K:St→Prop):Prop :=
 match qZ A.own (id + 2000000) with
 | none=>iJ S id K
 | some a=>match S.o[id]? with
  | some (.own ks sz cells (some (j,.mf k)))=>match S.o[k]? with
   | some (.arr true sz' rows)=>bz (Nat.beq sz' sz) (Nat.blt j cells.length=true∧(cells.set j (some rows)=a.cs∧gw [k] S fun S1=>bg (S1.o.set id (.own ks sz a.cs none)) fun o=>K { t:=S1.t,l:=S1.l,o:=o,b:=S1.b }))
   | _=>ak 320
  | some (.own ks sz cells (some (j,.nilsl)))=>Nat.blt j cells.length=true∧(cells.set j none=a.cs∧(bg (S.o.set id (.own ks sz a.cs none)) fun o=>K { t:=S.t,l:=S.l,o:=o,b:=S.b }))
  | _=>ak 321
def wx (A:fa):List Nat→St→(St→Prop)→Prop
 | [],S,K=>K S
 | id::ids,S,K=>ta A S id fun S'=>wx A ids S' K
def wy (A:fa) (S:St) (id:Nat) (K:St→Prop):Prop :=
 match qZ A.mpr (id + 2000000) with
 | none=>kq S id K
 | some R=>match S.o[id]? with
  | some (.own (some ks) _ cells none)=>lE ks cells=R∧(bg (S.o.set id (.mapo true R)) fun o=>K { t:=S.t,l:=S.l,o:=o,b:=S.b })
  | _=>ak 344
def tc (A:fa):List Nat→St→(St→Prop)→Prop
 | [],S,K=>K S
 | id::ids,S,K=>wy A S id fun S'=>tc A ids S' K
def wz (A:fa) (pl:bw) (id:Nat) (S:St) (K:St→Prop):Prop :=
 match fe pl.cl id with
 | false=>K S
 | true=>wx A (FI S.o.length) S fun S1=>match fe pl.fr id with
  | false=>K S1
  | true=>tc A (FI S1.o.length) S1 K
def CV (C:Ctx) (A:fa) (o:Oper) (vs:List AV) (M:St) (k:AV→St→Prop):Prop :=
 match o.op,vs with
 | .makeSlice t _ _,[l,c]=>match fe A.chk (keyOf o) with
  | true=>lM C.P t l c M fun M' r=>k r M'
  | false=>lG C o vs M k
 | .call c,.fn fid first cap::as=>match c.callee with
  | .value _=>bz (!(C.pure fid)&&(first++as++cap).all (uT 4)) (match qZ A.sto (keyOf o) with
   | some (r,o')=>(C.scall fid (first++as++cap) M.o fun r' o''=>r'=r∧o''=o')∧bz (bK M.o o' 0).isEmpty (k r { t:=M.t,l:=M.l,o:=o',b:=M.b })
   | none=>C.scall fid (first++as++cap) M.o fun r o'=>bz (bK M.o o' 0).isEmpty (k r { t:=M.t,l:=M.l,o:=o',b:=M.b }))
  | _=>ak 310
 | _,_=>Ip C A o vs M k
def Gm (C:Ctx) (A:fa) (pl:bw) (o:Oper) (vs:List AV) (M:St) (k:AV→St→Prop):Prop :=
 match f8 pl o with
 | true=>DR C.P A pl o vs M k
 | false=>CV C A o vs M k
def JL (C:Ctx) (A:fa) (pl:bw) (o:Oper) (S:St) (K:St→Prop):Prop :=
 du S o.op.operands.toList fun vs=>DR C.P A pl o vs (cL S) fun r M=>bE o.dst r (fJ S M) K
def Gn (C:Ctx) (A:fa) (pl:bw) (o:Oper) (S:St) (K:St→Prop):Prop :=
 du S o.op.operands.toList fun vs=>Gm C A pl o vs (cL S) fun r M=>bE o.dst r (fJ S M) K
def JM (C:Ctx) (o:Oper) (S:St) (K:St→Prop):Prop :=
 du S o.op.operands.toList fun vs=>Kz C o vs fun r=>bE o.dst r S K
def nG (A:fa) (o:Oper) (K:St→Prop) (S:St):Prop:=JJ A o.dst S fun S'=>Gj A (keyOf o) S' K
def KA (C:Ctx) (A:fa) (pl:bw) (o:Oper) (S:St) (K:St→Prop):Prop :=
 match FK o with
 | 0=>Gk C A pl o S (nG A o K)
 | 1=>Gl C A o S (nG A o K)
 | 2=>JK C A o S (nG A o K)
 | _=>Iq C A pl o S (nG A o K)
def ME (C:Ctx) (A:fa) (pl:bw) (o:Oper) (S:St) (K:St→Prop):Prop :=
 match f8 pl o with
 | true=>JL C A pl o S (nG A o K)
 | false=>KA C A pl o S K
def Gp (C:Ctx) (A:fa) (pl:bw) (o:Oper) (S:St) (K:St→Prop):Prop :=
 match fW pl o with
 | 0=>Gk C A pl o S (nG A o K)
 | 1=>Gl C A o S (nG A o K)
 | 2=>Gn C A pl o S (nG A o K)
 | 4=>match o.dst with
  | some d=>bE o.dst (.ptr (.L d) 0 0) S K
  | none=>ak 217
 | 5=>JM C o S (nG A o K)
 | _=>match AK pl o with
  | true=>ak 219
  | false=>Iq C A pl o S (nG A o K)
def MF (op:BinOp):Bool :=
 match op with
 | .eql | .neq=>true
 | _=>false
def DT (op:BinOp):Bool :=
 match op with
 | .eql=>true
 | _=>false
def JN (P:Program) (o:Oper) (S:St) (K:St→Prop):Prop :=
 match o.op with
 | .binOp op t x (.const (.slice none 0 0)) _=>match P.underlying t with
  | some (.slice _)=>cE S x fun a=>match a with
   | .sl rows=>bz (MF op) ((rows=[]→bE o.dst (.v (.bool (DT op))) S K)∧bE o.dst (.v (.bool (!(DT op)))) S K)
   | _=>ak 460
  | _=>ak 461
 | _=>ak 462
def z3 (C:Ctx) (A:fa) (pl:bw) (all:Array Oper):List Oper→St→(St→Prop)→Prop
 | [],S,K=>K S
 | o::rest,S,K =>
  match o.guard with
  | none=>match fe A.dem (keyOf o) with
   | true=>JN C.P o S fun S'=>z3 C A pl all rest S' K
   | false=>ME C A pl o S fun S'=>z3 C A pl all rest S' K
  | some (j,want) =>
   match vm all j with
   | none=>ak 218
   | some d=>iM d S fun b S1=>gsel b want (ME C A pl o S1 fun S'=>z3 C A pl all rest S' K) (bE o.dst (.tup []) S1 fun S'=>z3 C A pl all rest S' K)
def PE (C:Ctx) (A:fa) (pl:bw) (all:Array Oper) (o:Oper) (S:St) (K:St→Prop):Prop :=
 match o.guard with
 | none=>bz (lW pl all o S) (Gp C A pl o S K)
 | some (j,want) =>
  match vm all j with
  | none=>ak 218
  | some d=>iM d S fun b S1=>gsel b want (bz (lW pl all o S1) (Gp C A pl o S1 K)) (bE o.dst (.tup []) S1 K)
def Mq (C:Ctx) (A:fa) (pl:bw) (ops:Array Oper) (i:Nat) (S:St) (K:St→Prop):Prop :=
 match ops[i]? with
 | none=>ak 303
 | some o=>PE C A pl ops o S K
def oT (C:Ctx) (A:fa) (pl:bw) (ops:Array Oper):PT→Option (St×Prop)→St→(St→Prop)→Prop
 | .done,m,S,K=>match m with
  | none=>K S
  | some (_,X)=>X
 | .go i t,m,S,K=>match m with
  | none=>Mq C A pl ops i S fun S'=>oT C A pl ops t none S' K
  | some (_,_)=>ak 305
 | .alt i t r,m,S,K=>match m with
  | none=>Mq C A pl ops i S fun S'=>oT C A pl ops t none S' fun S1=>oT C A pl ops r (some (S1,K S1)) S K
  | some (S1,X)=>Mq C A pl ops i S fun S'=>oT C A pl ops t none S' fun S2=>S2=S1∧oT C A pl ops r (some (S1,X)) S K
def yS (f:Nat→Option PT):List Nat→Option PT
 | []=>some .done
 | i::is=>match f i with
  | some t=>match yS f is with
   | some r=>some (.alt i t r)
   | none=>none
  | none=>none
def RQ:List Nat→Bool
 | [_,_] | [_,_,_] | [_,_,_,_]=>true
 | _=>false
def oK (pl:bw) (ops:Array Oper) (ws:List Nat):Nat→Nat→Array Bool→Option PT
 | 0,_,listed=>match Region.ready .any ops listed with
  | []=>some .done
  | _::_=>none
 | n + 1,a,listed =>
  match Region.ready .any ops listed with
  | []=>some .done
  | r::rs=>match nS pl ops ws listed (r::rs) with
   | some k=>match oK pl ops ws n a (listed.setIfInBounds k true) with | some t=>some (.go k t) | none=>none
   | none=>match rs with
    | []=>match oK pl ops ws n a (listed.setIfInBounds r true) with | some t=>some (.go r t) | none=>none
    | _::_=>match RQ (r::rs),a with
     | true,a + 1=>yS (fun i=>oK pl ops ws n a (listed.setIfInBounds i true)) (r::rs)
     | _,_=>none
def DU (pl:bw) (ops:Array Oper) (ws:List Nat):Nat→Array Bool→Option PT
 | 0,listed=>oK pl ops ws 0 6 listed
 | n + 1,listed=>match nT ops listed (Region.ready .any ops listed) with
  | some i=>match DU pl ops ws n (listed.setIfInBounds i true) with | some t=>some (.go i t) | none=>none
  | none=>oK pl ops ws (n + 1) 6 listed
def z7 (pl:bw) (ops:Array Oper):Option PT :=
 match Pi ops with
 | false=>none
 | true=>match pl.cl with
  | []=>oK pl ops (bL ops.toList []) ops.size 3 (Array.replicate ops.size false)
  | _::_=>DU pl ops (bL ops.toList []) ops.size (Array.replicate ops.size false)
def QL (pl:bw) (ops:Array Oper):Option (List Nat) :=
 match z7 pl ops with
 | some t=>some (Pk t)
 | none=>none
def aA (pl:bw) (ord:List (Nat×PT)):Code→Bool
 | .region id ops true=>match qZ ord id,z7 pl ops with
  | some is,some js=>CQ is js
  | _,_=>false
 | .seq a b=>aA pl ord a&&aA pl ord b
 | .cond _ a b=>aA pl ord a&&aA pl ord b
 | .block _ c=>aA pl ord c
 | .loop c=>aA pl ord c
 | _=>true
def wA:Code→Nat
 | .region id _ _=>id
 | .seq a _=>wA a
 | .cond _ a _=>wA a
 | .block _ c=>wA c
 | .loop c=>wA c
 | _=>0
def EZ (A:xI) (id:Nat) (S:St) (K:St→Prop):Prop :=
 match qZ A.wr id with
 | some L=>Mp L S K
 | none=>K S
def wB:Type:=Code→St→(Ex→St→Prop)→Prop
def t_ (C:Ctx) (cd:wB) (A:xI) (pl:bw):Code→St→(Ex→St→Prop)→Prop
 | .skip,S,K=>K .nrm S
 | .region id ops draw,S,K =>
  match draw with
  | false=>z3 C (EY A id) pl ops ops.toList S fun S'=>wz (EY A id) pl id S' fun S''=>EZ A id S'' (K .nrm)
  | true=>match qZ A.ord id with
   | some is=>bz (yg pl ops) (AM C.P (cP ops.toList) S fun S1=>oT C (EY A id) pl ops is none S1 fun S'=>mo (cP ops.toList) S' (wz (EY A id) pl id S' fun S''=>EZ A id S'' (K .nrm)))
   | none=>ak 440
 | .seq a b,S,K=>t_ C cd A pl a S fun e S'=>match e with
  | .nrm=>match qZ A.cut (wA b) with
   | some (W,L,e1,S1)=>Mp L (wk W S') fun S2=>cd b S2 (fun e' S3=>e'=e1∧S3=S1)∧K e1 S1
   | none=>t_ C cd A pl b S' K
  | .ex i=>K (.ex i) S'
  | .ret=>K .ret S'
 | .cond c x y,S,K=>qg c S fun b S'=>match b with
  | true=>t_ C cd A pl x S' K
  | false=>t_ C cd A pl y S' K
 | .block id c,S,K=>t_ C cd A pl c S fun e S'=>match e with
  | .ex i=>match Nat.beq i id with | true=>K .nrm S' | false=>K (.ex i) S'
  | .nrm=>K .nrm S'
  | .ret=>K .ret S'
 | .loop c,S,K=>match qZ A.lps (wA c) with
  | some (W,L,e,S1)=>Mp L (wk W S) fun S2=>(C.loop pl c S2 fun e' S'=>e'=e∧S'=S1)∧K e S1
  | none=>C.loop pl c S K
 | .exit id,S,K=>K (.ex id) S
 | .ret,S,K=>K .ret S
 | _,_,_=>ak 119
def sub:Code→List Nat→Code
 | c,[]=>c
 | .seq a _,0::p=>sub a p
 | .seq _ b,_::p=>sub b p
 | .cond _ a _,0::p=>sub a p
 | .cond _ _ b,_::p=>sub b p
 | .block _ c,_::p=>sub c p
 | .loop c,_::p=>sub c p
 | c,_=>c
def al (P:Program) (f:Nat):Code :=
 match P.funcs[f]? with
 | some fn=>fn.body.getD .skip
 | none=>.skip
def DV (C:Ctx) (cd:wB) (A:xI) (f:Nat) (args:List AV) (o:List Ob) (K:AV→St→Prop):Prop :=
 match C.P.funcs[f]? with
 | some fn=>match fn.body with
  | some c=>t_ C cd A (C.pol f) c { t:=args++zq (fn.ntmps - args.length),l:=[],o:=o,b:=o.length } fun e S =>
    match e with
    | .ex _=>ak 120
    | _=>xt C.P S fn.results.toList fun rs=>AN rs fun r=>K r S
  | none=>ak 121
 | none=>ak 122
def DW (C:Ctx) (cd:wB) (A:xI) (f:Nat) (args:List AV) (K:AV→Prop):Prop :=
 DV C cd A f args [] fun r S=>zk S.o r K
def CW (C:Ctx) (cd:wB) (A:xI) (f:Nat) (args:List AV) (o:List Ob) (K:AV→List Ob→Prop):Prop :=
 DV C cd A f args o fun r S=>bz (uT 4 r&&Nat.beq S.b o.length) (K r S.o)
def eV (S S':St):Prop:=∀ (G:Gh) (E:Env) (a:Act) (w:World),ap G pn E S w→TR E S.t a→∃ E',ap G pn E' S' w∧TR E' S'.t a
def KB:Ex→Nat
 | .nrm=>0
 | .ret=>1
 | .ex i=>i + 2
def wC (C:Ctx) (cd:wB) (A:xI) (pl:bw) (we:List (Nat×(Wk×Le))) (c:Code) (S:St) (K:Ex→St→Prop):Prop :=
 t_ C cd A pl c S fun e S'=>match qZ we (KB e) with
  | some (W,L)=>Mp L (wk W S') (K e)
  | none=>K e S'
def KC:List (Nat×AV)→List AV→List AV
 | [],t=>t
 | (d,a)::xs,t=>KC xs (t.set d a)
def QM:List (Nat×AV)→Nat→Nat→List AV
 | _,_,0=>[]
 | xs,i,n + 1=>(match qZ xs i with | some a=>a | none=>.bad)::QM xs (i + 1) n
def bm (n:Nat) (ts:List (Nat×AV)) (l:List (Nat×List AV)) (o:List Ob) (b:Nat):St:={ t:=QM ts 0 n,l:=l,o:=o,b:=b }
theorem eV.refl (S:St):eV S S:=fun _ E _ _ h k=>⟨E,h,k⟩
theorem eV.trans {S S' S'':St} (h:eV S S') (k:eV S' S''):eV S S'':=fun G E a w hM ht=>by
 obtain ⟨E1,h1,h2⟩:=h G E a w hM ht
 exact k G E1 a w h1 h2
theorem aJ.refl (a:AV):aJ a a:=fun _ _ h=>h
theorem aJ.ofEq {a b:AV} (h:a=b):aJ a b:=by rw [h]; exact .refl _
theorem aJ.trans {a b c:AV} (h:aJ a b) (k:aJ b c):aJ a c:=fun _ _ hv=>k _ _ (h _ _ hv)
theorem aJ.bad (a:AV):aJ a .bad:=fun _ _ _=>.bad _ _
theorem aJ.nil:aJ .nilsl (.sl []):=fun E u h=>by cases h; exact .sln E
theorem aJ.esl:aJ .esl (.sl []):=fun E u h=>by
 cases h with
 | esln=>exact .sln E
 | esl _ a=>exact .sle E a 0
theorem aV.refl (r:List AV):aV r r:=⟨rfl,fun _ _ _ h k=>by rw [h] at k; cases k; exact .refl _⟩
theorem aV.nil:aV [] []:=.refl _
theorem aV.cons {a b:AV} {r r':List AV} (h:aJ a b) (k:aV r r'):aV (a::r) (b::r') :=
 ⟨by simp [k.1],fun i x y h1 h2=>by
  cases i with
  | zero=>simp at h1 h2; subst h1 h2; exact h
  | succ i=>exact k.2 i x y (by simpa using h1) (by simpa using h2)⟩
theorem aV.vrs {r r':List AV} {E:Env} {us:List Value} (h:aV r r') (hv:bX E r us):bX E r' us :=
 ⟨by rw [← h.1]; exact hv.1,fun m c u h1 h2=>by
  have hm:m<r.length:=by rw [h.1]; exact (List.getElem?_eq_some_iff.1 h1).1
  exact h.2 m _ c (List.getElem?_eq_getElem hm) h1 _ _ (hv.2 m _ u (List.getElem?_eq_getElem hm) h2)⟩
theorem aJ.agg {r r':List AV} (h:aV r r'):aJ (.agg r) (.agg r'):=fun E u hv=>by
 obtain ⟨us,rfl,h1⟩:=hv.aggI
 exact bX.aggV (h.vrs h1)
theorem aJ.tup {r r':List AV} (h:aV r r'):aJ (.tup r) (.tup r'):=fun E u hv=>by
 obtain ⟨us,rfl,h1⟩:=hv.tupI
 have:=h.vrs h1
 exact .tup us (by simpa using this.1) (fun m c u h1 h2=>this.2 m c u h1 (by simpa using h2))
theorem aJ.fptr {r r':List AV} {j:Nat} (h:aV r r'):aJ (.fptr r j) (.fptr r' j):=fun E u hv=>by
 cases hv with
 | fptr j us h1 h2 h3 h4 =>
  have:=h.vrs (E:=E.fz) (us:=us) ⟨h1.symm,h2⟩
  exact .fptr j us this.1.symm this.2 h3 h4
theorem eX.refl (r:List (List AV)):eX r r:=⟨rfl,fun _ _ _ h k=>by rw [h] at k; cases k; exact .refl _⟩
theorem eX.nil:eX [] []:=.refl _
theorem eX.cons {a b:List AV} {r r':List (List AV)} (h:aV a b) (k:eX r r'):eX (a::r) (b::r') :=
 ⟨by simp [k.1],fun i x y h1 h2=>by
  cases i with
  | zero=>simp at h1 h2; subst h1 h2; exact h
  | succ i=>exact k.2 i x y (by simpa using h1) (by simpa using h2)⟩
theorem eX.app {a b r r':List (List AV)} (h:eX a b) (k:eX r r'):eX (a++r) (b++r'):=by
 induction a generalizing b with
 | nil =>
  have:b=[]:=List.eq_nil_of_length_eq_zero h.1.symm
  subst this
  exact k
 | cons x a ih =>
  cases b with
  | nil=>exact absurd h.1 (by simp)
  | cons y b=>exact .cons (h.2 0 x y rfl rfl) (ih ⟨by simpa using h.1,fun i p q h1 h2=>h.2 (i + 1) p q (by simpa using h1) (by simpa using h2)⟩)
theorem aV.app {a b r r':List AV} (h:aV a b) (k:aV r r'):aV (a++r) (b++r'):=by
 induction a generalizing b with
 | nil =>
  have:b=[]:=List.eq_nil_of_length_eq_zero h.1.symm
  subst this
  exact k
 | cons x a ih =>
  cases b with
  | nil=>exact absurd h.1 (by simp)
  | cons y b=>exact .cons (h.2 0 x y rfl rfl) (ih ⟨by simpa using h.1,fun i p q h1 h2=>h.2 (i + 1) p q (by simpa using h1) (by simpa using h2)⟩)
theorem eX.flat {r r':List (List AV)} (h:eX r r'):aV r.flatten r'.flatten:=by
 induction r generalizing r' with
 | nil =>
  have:r'=[]:=List.eq_nil_of_length_eq_zero h.1.symm
  subst this
  exact .refl _
 | cons x a ih =>
  cases r' with
  | nil=>exact absurd h.1 (by simp)
  | cons y b =>
   have h1:=h.2 0 x y rfl rfl
   have h2:=ih (r':=b) ⟨by simpa using h.1,fun i p q h1 h2=>h.2 (i + 1) p q (by simpa using h1) (by simpa using h2)⟩
   rw [List.flatten_cons,List.flatten_cons]
   have app:∀ {a b r r':List AV},aV a b→aV r r'→aV (a++r) (b++r'):=by
    intro a b r r' h k
    induction a generalizing b with
    | nil =>
     have:b=[]:=List.eq_nil_of_length_eq_zero h.1.symm
     subst this
     exact k
    | cons x a ih =>
     cases b with
     | nil=>exact absurd h.1 (by simp)
     | cons y b=>exact .cons (h.2 0 x y rfl rfl) (ih ⟨by simpa using h.1,fun i p q h1 h2=>h.2 (i + 1) p q (by simpa using h1) (by simpa using h2)⟩)
   exact app h1 h2
theorem eX.lens {r r':List (List AV)} {sz:Nat} (h:eX r r') (hl:∀ x∈r,x.length=sz):∀ x∈r',x.length=sz:=by
 intro x hx
 obtain ⟨i,hi⟩:=List.getElem?_of_mem hx
 have hlt:i<r.length:=by rw [h.1]; exact (List.getElem?_eq_some_iff.1 hi).1
 rw [← (h.2 i _ x (List.getElem?_eq_getElem hlt) hi).1]
 exact hl _ (List.getElem_mem hlt)
theorem aJ.sl {r r':List (List AV)} (h:eX r r'):aJ (.sl r) (.sl r'):=fun E u hv=>by
 cases hv with
 | sln =>
  have:r'=[]:=List.eq_nil_of_length_eq_zero h.1.symm
  subst this
  exact .sln E
 | sle _ a cap =>
  have:r'=[]:=List.eq_nil_of_length_eq_zero h.1.symm
  subst this
  exact .sle E a cap
 | sl us h1 h2 h3 h4 h5 h6 h7 =>
  have hf:=h.flat
  have:=hf.vrs (E:=E.fz) (us:=us) ⟨h3.symm,h4⟩
  rw [h.1]
  exact .sl us h1 (h.lens h2) this.1.symm this.2 h5 h6 (by rw [← h.1]; exact h7)
theorem DX {ts:List Nat}:∀ {t:List AV} {i j:Nat} {c:AV},(Il ts i t)[j]?=some c→c=.bad∨t[j]?=some c
 | [],_,_,_,h=>by simp [Il] at h
 | x::xs,i,0,c,h=>by
  simp only [Il,List.getElem?_cons_zero,Option.some.injEq] at h
  split at h
  ·exact .inr (by rw [← h]; rfl)
  ·exact .inl h.symm
 | x::xs,i,j + 1,c,h=>by
  simp only [Il,List.getElem?_cons_succ] at h
  rw [List.getElem?_cons_succ]
  exact DX h
theorem DY {ts:List Nat}:∀ {t:List AV} {i:Nat},(Il ts i t).length=t.length
 | [],_=>rfl
 | x::xs,i=>by simp [Il,DY]
theorem Gq (ts:List Nat) (S:St):eV S { t:=Il ts 0 S.t,l:=S.l,o:=S.o,b:=S.b }:=fun _ E _ _ hM ht =>
 ⟨E,hM.congr rfl rfl rfl,by rw [DY]; exact ht.len,fun n c u h1 h2=>by
  rcases DX h1 with h | h
  ·rw [h]; exact .bad _ _
  ·exact ht.val n c u h h2,ht.df,ht.gt⟩
theorem z8 (d:Nat) (S:St):eV S (eM d S):=fun G E a w hM ht=>by
 obtain ⟨E1,h1,h2,_⟩:=qo hM ht d rfl
 exact ⟨E1,h1,h2⟩
theorem rI:∀ (ds:List Nat) (S:St),eV S (zV ds S)
 | [],S=>.refl S
 | d::ds,S=>(z8 d S).trans (rI ds _)
theorem E0 (i:Nat) (S:St):eV S (f6 i S):=fun _ _ _ _ hM ht =>
 let ⟨h1,h2⟩:=tO hM ht i
 ⟨_,h1,h2⟩
theorem wD:∀ (ds:List Nat) (S:St),eV S (Gf ds S)
 | [],S=>.refl S
 | d::ds,S=>(E0 d S).trans (wD ds _)
theorem oL:∀ {os:List Ob} {i:Nat} {x:Ob},zW os=true→os[i]?=some x→x=.dead
 | [],i,x,_,h=>by simp at h
 | .dead::os,0,x,_,h=>by simp at h; exact h.symm
 | .dead::os,i + 1,x,h,h1=>oL (os:=os) (i:=i) h (by simpa using h1)
 | .arr _ _ _::os,_,_,h,_=>by cases h
 | .mapo _ _::os,_,_,h,_=>by cases h
 | .own _ _ _ _::os,_,_,h,_=>by cases h
theorem E4 (n:Nat) (S:St):eV S (Kv n S):=fun _ E _ _ hM ht=>by
 unfold Kv
 split
 ·rename_i h
  rw [Bool.and_eq_true] at h
  have hb:=Nat.le_of_ble_eq_true h.2
  have hbl:=hM.bl
  refine ⟨E,⟨hM.hp,hM.os,hM.tape,hM.output,hM.size,hM.keep,hM.F0,hM.Flt,hM.Fnew,hM.own,hM.inj,hM.loc,fun id=>?_,fun id hid=>?_,?_,hM.szs,hM.pk,fun id=>?_⟩,ht⟩
  ·have h0:=hM.obj id
   show gz E (S.o.take n)[id]? _
   rw [List.getElem?_take]
   split
   ·exact h0
   ·rename_i hn
    cases hx:S.o[id]? with
    | none=>rw [hx] at h0; exact h0
    | some x =>
     have:x=.dead:=oL h.1 (i:=id - n) (by rw [List.getElem?_drop]; rw [show n + (id - n)=id by omega]; exact hx)
     rw [hx,this] at h0
     revert h0
     cases E.mu (.O id) with
     | none=>exact fun _=>trivial
     | some _=>exact fun h=>h.elim
  ·show (S.o.take n)[id]?=some .dead∨_
   have hid':id<S.b:=hid
   rw [List.getElem?_take,if_pos (by omega)]
   exact hM.old id hid
  ·show S.b≤(S.o.take n).length
   rw [List.length_take]
   omega
  ·have h0:=hM.ow id
   show eK E id (S.o.take n)[id]?
   rw [List.getElem?_take]
   split
   ·exact h0
   ·rename_i hn
    cases hx:S.o[id]? with
    | none=>rw [hx] at h0; exact h0
    | some x =>
     have:x=.dead:=oL h.1 (i:=id - n) (by rw [List.getElem?_drop]; rw [show n + (id - n)=id by omega]; exact hx)
     rw [hx,this] at h0
     exact h0
 ·exact ⟨E,hM,ht⟩
theorem wE {G:Gh} {E:Env} {S:St} {w:World} (hM:ap G pn E S w):E.mu (.O S.o.length)=none:=by
 have:=hM.obj S.o.length
 rw [List.getElem?_eq_none (Nat.le_refl _)] at this
 revert this
 cases E.mu (.O S.o.length) with
 | none=>exact fun _=>rfl
 | some _=>exact fun h=>h.elim
theorem BF {G:Gh} {E:Env} {S:St} {w:World} (hM:ap G pn E S w) (sz:Nat) (t:List AV):ap G pn ⟨E.F,aO E.mu (.O S.o.length) .virt,E.h⟩ { t:=t,l:=S.l,o:=S.o++[.arr true sz []],b:=S.b } w:=by
 have hbl:=hM.bl
 refine hM.addkey' (key:=.O S.o.length) (mv:=.virt) (fun _ _=>rfl) (fun _ h=>by cases h) (wE hM) (fun _ _ _ _ h=>by cases h) (fun _ _=>rfl) (fun id hid=>?_) rfl ?_ (fun id h=>?_) (fun _ h=>by cases h) (fun id h=>?_) ?_
 ·show (S.o++[_])[id]?=_
  by_cases h:id<S.o.length
  ·rw [List.getElem?_append_left h]
  ·have hne:id≠S.o.length:=fun e=>hid (by rw [e])
   rw [List.getElem?_eq_none (by simp; omega),List.getElem?_eq_none (by omega)]
 ·show S.b≤(S.o++[_]).length
  simp
  omega
 ·cases h
  exact hbl
 ·cases h
  show gz _ (S.o++[_])[S.o.length]? _
  rw [List.getElem?_append_right (Nat.le_refl _),Nat.sub_self]
  rfl
 ·exact hM.ow_push rfl rfl
theorem qL:∀ (ps:List (Nat×Nat)) (S:St),eV S (BE ps S)
 | [],S=>.refl S
 | (d,sz)::ps,S=>by
  unfold BE
  split
  ·rename_i hd
   refine eV.trans ?_ (qL ps _)
   intro G E a w hM ht
   refine ⟨_,BF hM sz _,?_⟩
   have hle:LE E ⟨E.F,aO E.mu (.O S.o.length) .virt,E.h⟩:=kX (wE hM)
   refine ⟨by simpa using ht.len,fun n c u h1 h2=>?_,ht.df,ht.gt.mono hle⟩
   have h1':(S.t.set d (.mf S.o.length))[n]?=some c:=h1
   rw [List.getElem?_set] at h1'
   split at h1'
   ·rename_i e
    subst e
    split at h1'
    ·cases h1'
     have hv:=ht.val d _ u hd h2
     cases hv
     exact .mfn (by show aO _ _ _ _=_; unfold aO; rw [if_pos rfl])
    ·cases h1'
   ·exact (ht.val n c u h1' h2).mono hle
  ·exact qL ps S
theorem nf:∀ (ps:List (Nat×Nat×Nat)) (S:St),eV S (yQ ps S)
 | [],S=>.refl S
 | (d,j,sz)::ps,S=>by
  unfold yQ
  split
  ·rename_i row hd
   split
   ·rename_i hj
    refine eV.trans ?_ (nf ps _)
    intro G E a w hM ht
    have hle:LE E ⟨E.F,aO E.mu (.O S.o.length) .virt,E.h⟩:=kX (wE hM)
    refine ⟨_,?_,ht.mono hle⟩
    have h0:=BF hM sz S.t
    refine ⟨h0.hp,h0.os,h0.tape,h0.output,h0.size,h0.keep,h0.F0,h0.Flt,h0.Fnew,h0.own,h0.inj,fun e=>?_,h0.obj,h0.old,h0.bl,h0.szs,(fun _ _ h=>by cases h),h0.ow⟩
    have h1:=h0.loc e
    show g_ pn _ (aQ (un S.l d (row.set j (.mf S.o.length))) e) e
    rw [kD hd]
    split
    ·rename_i e'
     subst e'
     have h1':g_ pn ⟨E.F,aO E.mu (.O S.o.length) .virt,E.h⟩ (aQ S.l d) d:=h1
     rw [hd] at h1'
     rcases h1' with ⟨b,h2,h3,h4,us,ty,h5,h6,h7⟩ | ⟨_,h2,_⟩
     ·refine .inl ⟨b,by simpa using h2,by simpa using h3,by simp,us,ty,h5,by simpa using h6,fun m c hc=>?_⟩
      have hf:[row.set j (.mf S.o.length)].flatten=row.set j (.mf S.o.length):=by simp
      have hf0:[row].flatten=row:=by simp
      rw [hf,List.getElem?_set] at hc
      split at hc
      ·rename_i e'
       subst e'
       split at hc
       ·cases hc
        obtain ⟨u,hu,hv⟩:=h7 j .nilsl (by rw [hf0]; exact hj)
        refine ⟨u,hu,?_⟩
        cases hv
        exact .mfn (by show aO _ _ _ _=_; unfold aO; rw [if_pos rfl])
       ·cases hc
      ·exact h7 m c (by rw [hf0]; exact hc)
     ·cases h2
    ·exact h1
   ·exact nf ps S
  ·exact nf ps S
theorem pA:∀ (ds:List Nat) (S:St),eV S (EX ds S)
 | [],S=>.refl S
 | d::ds,S=>by
  unfold EX
  split
  ·rename_i x hx
   split
   ·rename_i y hy
    refine eV.trans ?_ (pA ds _)
    intro G E a w hM ht
    obtain ⟨hS1,ht1⟩:=l3 (ids:=dK S.o 6 x) hM ht
    obtain ⟨hle2,hS2⟩:=hS1.freeze (F':=FD E (dK S.o 6 x)) (fun b h=>.inl h) (fun b h=>by
     rcases h with h | ⟨id,hid,o',s,n,hm⟩
     ·exact .inl h
     ·obtain ⟨h1,h2,h3⟩:=hM.own _ _ _ _ _ hm
      refine .inr ⟨h2,h3,fun k o'' s' n' h'=>?_⟩
      obtain ⟨h4,h5⟩:=jT h'
      exact h5 id hid (hM.inj _ _ _ _ _ _ _ _ _ h4 hm))
    have ht2:=ht1.mono hle2
    refine ⟨_,hS2.congr rfl rfl rfl,by simpa using ht2.len,fun n c u h1 h2=>?_,ht2.df,ht2.gt⟩
    have h1':((lI (dK S.o 6 x) S).t.set d y)[n]?=some c:=h1
    rw [List.getElem?_set] at h1'
    split at h1'
    ·rename_i e
     subst e
     split at h1'
     ·cases h1'
      have hv:=io hM 6 hy (ht.val d _ u hx h2) (ids:=dK S.o 6 x) (fun _ h=>h)
      exact hv.mono ⟨fun _ h=>h,fun _ _ _ h=>(by cases h),fun _ _=>rfl,fun _ _ _ _ _ _ h=>(by cases h)⟩
     ·cases h1'
    ·exact ht2.val n c u h1' h2
   ·exact pA ds S
  ·exact pA ds S
theorem Gr (W:Wk) (S:St):eV S (PD W S):=by
 unfold PD
 exact (Gq W.ts S).trans ((rI W.ls _).trans ((wD _ _).trans ((E4 _ _).trans ((qL _ _).trans (nf _ _)))))
theorem z_ (W:Wk) (S:St):eV S (wk W S):=(pA W.fz S).trans (Gr W _)
theorem BG:∀ {xs:List (Nat×AV)} {S:St} {K:St→Prop},Kw xs S K→∃ S',eV S S'∧K S'
 | [],S,K,h=>⟨S,.refl S,h⟩
 | (d,v)::xs,S,K,h=>by
  obtain ⟨a,ha,hl,h⟩:=bZ.1 h
  rw [eh] at h
  obtain ⟨S',h1,h2⟩:=BG h
  refine ⟨S',eV.trans ?_ h1,h2⟩
  intro G E act w hM ht
  refine ⟨E,hM.congr rfl rfl rfl,by simpa using ht.len,fun n c u h1 h2=>?_,ht.df,ht.gt⟩
  have h1':(S.t.set d v)[n]?=some c:=h1
  rw [List.getElem?_set] at h1'
  split at h1'
  ·rename_i e
   subst e
   split at h1'
   ·cases h1'
    exact hl _ _ (ht.val d _ u ha h2)
   ·cases h1'
  ·exact ht.val n c u h1' h2
theorem BH:∀ {xs:List (Nat×List AV)} {S:St} {K:St→Prop},Im xs S K→∃ S',eV S S'∧K S'
 | [],S,K,h=>⟨S,.refl S,h⟩
 | (d,r)::xs,S,K,h=>by
  unfold Im at h
  split at h
  ·rename_i row hd
   obtain ⟨hl,h⟩:=h
   rw [iO] at h
   obtain ⟨S',h1,h2⟩:=BH h
   refine ⟨S',eV.trans ?_ h1,h2⟩
   intro G E act w hM ht
   refine ⟨E,?_,ht⟩
   refine ⟨hM.hp,hM.os,hM.tape,hM.output,hM.size,hM.keep,hM.F0,hM.Flt,hM.Fnew,hM.own,hM.inj,fun e=>?_,hM.obj,hM.old,hM.bl,hM.szs,(fun _ _ h=>by cases h),hM.ow⟩
   have h1:=hM.loc e
   show g_ pn _ (aQ (un S.l d r) e) e
   rw [kD hd]
   split
   ·rename_i e'
    subst e'
    rw [hd] at h1
    rcases h1 with ⟨b,h2,h3,h4,us,ty,h5,h6,h7⟩ | ⟨_,h2,_⟩
    ·refine .inl ⟨b,by rw [← hl.1]; exact h2,by rw [← hl.1]; exact h3,by simp,us,ty,h5,by rw [← hl.1]; exact h6,fun m c hc=>?_⟩
     have hf:[r].flatten=r:=by simp
     have hf0:[row].flatten=row:=by simp
     rw [hf] at hc
     have hm:m<row.length:=by rw [hl.1]; exact (List.getElem?_eq_some_iff.1 hc).1
     obtain ⟨u,hu,hv⟩:=h7 m _ (by rw [hf0]; exact List.getElem?_eq_getElem hm)
     exact ⟨u,hu,hl.2 m _ c (List.getElem?_eq_getElem hm) hc _ _ hv⟩
    ·cases h2
   ·exact h1
  ·exact False.elim h
theorem BI:∀ {xs:List (Nat×List (List AV))} {S:St} {K:St→Prop},Io xs S K→∃ S',eV S S'∧K S'
 | [],S,K,h=>⟨S,.refl S,h⟩
 | (i,R)::xs,S,K,h=>by
  unfold Io at h
  split at h
  ·rename_i fl sz rows hi
   obtain ⟨hl,h⟩:=h
   rw [aC] at h
   obtain ⟨S',h1,h2⟩:=BI h
   refine ⟨S',eV.trans ?_ h1,h2⟩
   intro G E act w hM ht
   refine ⟨E,?_,ht⟩
   refine ⟨hM.hp,hM.os,hM.tape,hM.output,hM.size,hM.keep,hM.F0,hM.Flt,hM.Fnew,hM.own,hM.inj,hM.loc,fun id=>?_,fun id hid=>?_,by show S.b≤(S.o.set _ _).length; rw [List.length_set]; exact hM.bl,hM.szs,hM.pk,fun id=>?_⟩
   ·have h1:=hM.obj id
    show gz E (S.o.set i _)[id]? _
    rw [List.getElem?_set]
    split
    ·rename_i e
     subst e
     rw [if_pos (List.getElem?_eq_some_iff.1 hi).1]
     rw [hi] at h1
     revert h1
     cases E.mu (.O i) with
     | none=>exact fun h=>h
     | some mv =>
      cases mv with
      | virt =>
       intro h
       have h:rows=[]:=h
       subst h
       exact List.eq_nil_of_length_eq_zero hl.1.symm
      | blk b o s n =>
       rintro ⟨⟨h1,h2⟩,h3,h4,us,ty,h5,h6,h7⟩
       refine ⟨⟨h1,by rw [← hl.1]; exact h2⟩,h3,hl.lens h4,us,ty,h5,by rw [← hl.1]; exact h6,fun m c hc=>?_⟩
       have hf:=hl.flat
       have hm:m<rows.flatten.length:=by rw [hf.1]; exact (List.getElem?_eq_some_iff.1 hc).1
       obtain ⟨u,hu,hv⟩:=h7 m _ (List.getElem?_eq_getElem hm)
       exact ⟨u,hu,hf.2 m _ c (List.getElem?_eq_getElem hm) hc _ _ hv⟩
    ·exact h1
   ·have h1:=hM.old id hid
    show (S.o.set i _)[id]?=some .dead∨_
    rw [List.getElem?_set]
    split
    ·rename_i e
     subst e
     rcases h1 with h1 | h1
     ·rw [hi] at h1; cases h1
     ·exact .inr h1
    ·exact h1
   ·have h1:=hM.ow id
    show eK E id (S.o.set i _)[id]?
    rw [List.getElem?_set]
    split
    ·rename_i e
     subst e
     rw [if_pos (List.getElem?_eq_some_iff.1 hi).1]
     rw [hi] at h1
     exact h1
    ·exact h1
  ·exact False.elim h
theorem u5 {L:Le} {S:St} {K:St→Prop} (h:Mp L S K):∃ S',eV S S'∧K S':=by
 obtain ⟨S1,h1,h⟩:=BG h
 obtain ⟨S2,h2,h⟩:=BH h
 obtain ⟨S3,h3,h⟩:=BI h
 exact ⟨S3,h1.trans (h2.trans h3),h⟩
structure AE (C:Ctx):Prop where
 det:gB C
theorem aD.mono2 {α β:Type} {X:(α→β→Prop)→Prop} (h:ax X) {K K':α→β→Prop} (hx:X K) (hk:∀ r s,K r s→K' r s):X K':=by
 obtain ⟨r,s,h1,h2⟩:=h _ hx
 exact h2 _ (hk r s h1)
theorem aD.mono {α:Type} {X:(α→Prop)→Prop} (h:aD X) {K K':α→Prop} (hx:X K) (hk:∀ r,K r→K' r):X K':=by
 obtain ⟨r,h1,h2⟩:=h K hx
 exact h2 _ (hk r h1)
theorem ax.mono {α β:Type} {X:(α→β→Prop)→Prop} (h:ax X) {K K':α→β→Prop} (hx:X K) (hk:∀ a b,K a b→K' a b):X K':=by
 obtain ⟨a,b,h1,h2⟩:=h K hx
 exact h2 _ (hk a b h1)
theorem E5 {op:BinOp} {x y:Value} {K:Value→Prop} (h:Gg op x y K):vi op x y K:=by
 unfold Gg at h
 unfold vi
 split at h <;> first
  | exact av h.1 h.2
  | exact False.elim h
section
variable {C:Ctx} {A:fa} {pl:bw} {o:Oper}
theorem E6 {op:BinOp} {t:TypeId} {x y:AV} {k:AV→Prop} (h:Gi C A o op t x y k):Cf C.P op t x y k:=by
 unfold Gi at h
 split at h
 ·rename_i a b
  show yb C.P op t a b k
  unfold yb
  split at h
  ·rename_i hn
   rw [hn]
   dsimp only
   split at h
   ·exact h
   ·rename_i a b hne
    split
    ·exact (hne _ _ rfl rfl).elim
    ·exact E5 h
  ·rename_i c hc
   rw [hc]
   exact h
 ·rename_i as bs
  show (match uo as,uo bs with
  | some xs,some ys =>
   match nN C.P op t xs ys with
   | some (.bool b)=>k (.v (.bool b))
   | _=>ak 226
  | _,_=>ak 227)
  split at h
  ·rename_i xs ys h1 h2
   try rw [h1,h2]
   try dsimp only
   split at h
   ·rw [h.1]
    exact h.2
   ·exact False.elim h
  ·exact False.elim h
 ·exact False.elim h
theorem BJ {t:TypeId} {x ix:AV} {k:AV→Prop} (h:zY C A o t x ix k):qh C.P t x ix k:=by
 unfold zY at h
 unfold qh
 refine aD.mono ba h (fun i h'=>?_)
 clear h
 split at h'
 ·rename_i s hu
  rw [hu]
  dsimp only
  split at h'
  ·rw [h'.1]
   dsimp only
   have h2:=h'.2.2
   rw [h'.2.1] at h2
   exact h2
  ·exact False.elim h'
 ·rename_i len e cs hu
  rw [hu]
  dsimp only
  have h:=h'
  split at h
  ·rename_i inf hi
   rw [hi]
   exact av h.1 h.2
  ·exact False.elim h
 ·exact False.elim h'
theorem Gs {vs:List AV} {k:AV→Prop} (h:Kx C A pl o vs k):pop C pl o vs k:=by
 unfold Kx at h
 split at h
 ·exact h
 ·split at h
  ·rename_i ho
   unfold pop
   rw [ho]
   exact E6 h
  ·rename_i ho
   unfold pop
   rw [ho]
   exact BJ h
  ·exact False.elim h
theorem pB {len cap:Nat} {lo hi mx:Option Int} {k:Nat→Nat→Nat→Prop} (h:yR len cap lo hi mx k):sw len cap lo hi mx k:=by
 unfold yR at h
 unfold sw
 split at h <;> first
  | exact h
  | exact av h.1 h.2
  | exact False.elim h
theorem iv {t:TypeId} {x:AV} {lo hi mx:Option Int} {S:St} {k:AV→Prop} (h:lL C t x lo hi mx S k):jd C.P t x lo hi mx S k:=by
 unfold lL at h
 rw [Bool.and_comm (i1 mx) (i1 hi)] at h
 unfold jd
 split at h
 ·rename_i hu
  rw [hu]
  dsimp only
  split at h
  ·exact pB h
  ·exact False.elim h
 ·rename_i e hu
  rw [hu]
  dsimp only
  split at h
  ·rename_i i hi
   rw [hi]
   dsimp only
   obtain ⟨h0,h⟩:=ae h
   refine av h0 ?_
   split at h
   ·exact av h.1 (pB h.2)
   ·split at h
    ·rename_i ho
     dsimp only
     rw [ho]
     obtain ⟨h1,h⟩:=ae h
     exact av h1 (pB h)
    ·exact False.elim h
   ·split at h
    ·rename_i ho
     dsimp only
     rw [ho]
     obtain ⟨h1,h⟩:=ae h
     exact av h1 (pB h)
    ·exact False.elim h
   ·exact False.elim h
  ·exact False.elim h
 ·exact False.elim h
theorem uD {row:List AV} {t:TypeId} {x ix:AV} {S:St} {k:AV→Prop} (h:oJ C row t x ix S k):g9 C.P t x ix S k:=by
 unfold oJ at h
 unfold g9
 refine aD.mono ba h (fun i h=>?_)
 split at h
 ·rename_i e hu
  rw [hu]
  dsimp only
  split at h
  ·rename_i inf hi
   rw [hi]
   dsimp only
   split at h
   ·have h1:=h.1
    unfold CR at h1
    dsimp only
    rw [h1]
    exact h.2
   ·split at h
    ·rename_i ho
     dsimp only
     rw [ho]
     dsimp only
     have h1:=h.1
     unfold CR at h1
     rw [h1]
     exact h.2
    ·rename_i ho
     dsimp only
     rw [ho]
     obtain ⟨h1,h2,h3⟩:=ae h
     refine av ?_ h3
     rw [Bool.and_eq_true]
     exact ⟨h2,h1⟩
    ·exact False.elim h
   ·split at h
    ·rename_i ho
     dsimp only
     rw [ho]
     dsimp only
     refine av h.1 ?_
     rw [h.2.1]
     exact h.2.2
    ·exact False.elim h
   ·exact False.elim h
  ·exact False.elim h
 ·rename_i len e hu
  rw [hu]
  dsimp only
  split at h
  ·rename_i inf hi
   rw [hi]
   exact av h.1 h.2
  ·exact False.elim h
 ·exact False.elim h
theorem ua (hC:AE C) {fid:Nat} {as:List AV} {k:AV→Prop} (h:u4 C A o fid as k):C.pcall fid as k:=by
 unfold u4 at h
 split at h
 ·exact aD.mono (hC.det.pcall _ _) h.1 (fun _ e=>by rw [e]; exact h.2)
 ·exact h
theorem Gt (hC:AE C) {vs:List AV} {M:St} {k:AV→Prop} (h:Ky C A o vs M k):q8 C o vs M k:=by
 unfold Ky at h
 split at h
 ·rename_i ho
  split at h
  ·split at h
   ·split at h
    ·rename_i hob
     unfold q8
     rw [ho]
     dsimp only
     unfold FA
     dsimp only
     unfold xo
     dsimp only
     rw [hob]
     dsimp only
     rw [h.1]
     exact h.2
    ·exact False.elim h
   ·exact False.elim h
  ·exact h
 ·rename_i ho
  split at h
  ·exact h
  ·unfold q8
   rw [ho]
   split at h
   ·exact iv h
   ·exact aD.mono ba h (fun _ h=>iv h)
   ·exact aD.mono ba h (fun _ h=>iv h)
   ·exact aD.mono ba h (fun _ h=>aD.mono ba h (fun _ h=>iv h))
   ·exact aD.mono ba h (fun _ h=>aD.mono ba h (fun _ h=>iv h))
   ·exact aD.mono ba h (fun _ h=>aD.mono ba h (fun _ h=>aD.mono ba h (fun _ h=>iv h)))
   ·exact False.elim h
 ·rename_i ho
  split at h
  ·unfold q8
   rw [ho]
   exact uD h
  ·exact h
 ·rename_i ho
  split at h
  ·split at h
   ·rename_i hu
    split at h
    ·rename_i hob
     unfold q8
     rw [ho]
     dsimp only
     unfold pi
     rw [hu]
     dsimp only
     rw [hob]
     exact h.1 _ h.2
    ·exact False.elim h
   ·exact False.elim h
  ·exact h
 ·rename_i c ho
  split at h
  ·rename_i hcal
   split at h
   ·unfold q8
    rw [ho]
    dsimp only
    rw [hcal]
    dsimp only
    obtain ⟨h1,h⟩:=ae h
    exact av h1 (aD.mono (dv _ _) h (fun bs hb=>ua hC hb))
   ·exact False.elim h
  ·exact h
 ·exact h
theorem BK {S:St} {row:List AV} {a:AV} {cs:List AV} {K:St→Prop} (h:zZ S row a cs K):lV S a cs K:=by
 unfold zZ at h
 split at h
 ·unfold lV
  split at h
  ·rename_i ho
   dsimp only
   rw [ho]
   dsimp only
   rw [h.1]
   exact h.2
  ·exact False.elim h
 ·exact False.elim h
theorem BL {vs:List AV} {M:St} {k:AV→St→Prop} (h:Ip C A o vs M k):ye C o vs M k:=by
 unfold Ip at h
 split at h
 ·exact h
 ·split at h
  ·rename_i ho
   split at h
   ·unfold ye
    rw [ho]
    refine aD.mono bS h (fun cs h=>?_)
    split at h
    ·rename_i hi
     rw [hi]
     obtain ⟨h1,h⟩:=ae h
     exact av h1 (BK h)
    ·exact False.elim h
   ·exact h
  ·exact h
theorem qM {size:Nat} {S:St} {x:AV} {k:Bool→List (List AV)→Prop} (h:wv size S x k):kg size S x k:=by
 unfold wv at h
 unfold kg
 split at h <;> first
  | exact av h.1 h.2
  | exact h
  | exact False.elim h
theorem Aa {ts:List TypeId} {base x:AV} {S:St} {k:St→AV→Prop} (h:ww C.P ts base x S k):lD C.P ts base x S k:=by
 unfold ww at h
 unfold lD
 split at h
 ·split at h
  ·rename_i e hu
   dsimp only
   rw [hu]
   dsimp only
   split at h
   ·rename_i i hi
    rw [hi]
    dsimp only
    obtain ⟨h1,h⟩:=ae h
    refine av h1 ?_
    refine ax.mono dX (qM h) (fun fl src h=>?_)
    refine av h.1 ?_
    replace h:=h.2
    split at h
    ·exact av h.1 h.2
    ·exact av h.1 h.2
    ·split at h
     ·rename_i ho
      dsimp only
      rw [ho]
      obtain ⟨h1,h⟩:=ae h
      refine av ?_ h.2
      simp only [Bool.and_eq_true] at h1 ⊢
      exact ⟨⟨h1.1,h.1⟩,h1.2⟩
     ·exact False.elim h
    ·split at h
     ·rename_i ho
      dsimp only
      rw [ho]
      obtain ⟨h1,h2,h3,h⟩:=ae h
      refine av h1 ?_
      rw [h2]
      exact av h3 h
     ·exact False.elim h
    ·exact False.elim h
   ·exact False.elim h
  ·exact False.elim h
 ·exact False.elim h
theorem xJ {ts:List TypeId} {base x:AV} {k:AV→Prop} (h:sY C.P ts base x k):kM C.P ts base x k:=by
 unfold sY at h
 unfold kM
 split at h
 ·split at h
  ·rename_i e hu
   dsimp only
   rw [hu]
   dsimp only
   split at h
   ·rename_i i hi
    rw [hi]
    dsimp only
    obtain ⟨h1,h⟩:=ae h
    refine av h1 ?_
    refine ax.mono dX (qM h) (fun fl src h=>?_)
    obtain ⟨h2,h3,h4,h⟩:=ae h
    refine av ?_ h
    rw [h2,h3,h4]
    rfl
   ·exact False.elim h
  ·exact False.elim h
 ·exact False.elim h
theorem Gu {vs:List AV} {k:AV→Prop} (h:Kz C o vs k):Kg C o vs k:=by
 unfold Kz at h
 unfold Kg
 split at h
 ·rename_i c x y ho
  rw [ho]
  dsimp only
  split at h
  ·rename_i hc
   rw [hc]
   exact xJ h
  ·exact False.elim h
 ·exact False.elim h
theorem xK {ts:List TypeId} {base:AV} {n:Int} {S:St} {k:St→AV→Prop} (h:sZ C.P ts base n S k):kN C.P ts base n S k:=by
 unfold sZ at h
 unfold kN
 split at h
 ·split at h
  ·rename_i hu hv
   dsimp only
   rw [hu,hv]
   dsimp only
   split at h
   ·rename_i hi
    rw [hi]
    exact av h.1 h.2
   ·exact False.elim h
  ·exact False.elim h
 ·exact False.elim h
theorem nw {t:TypeId} {l c:AV} {S:St} {k:St→AV→Prop} (h:lM C.P t l c S k):br C.P t l c S k:=by
 unfold lM at h
 unfold br
 split at h
 ·rename_i hu
  rw [hu]
  dsimp only
  split at h
  ·rename_i hi
   rw [hi]
   dsimp only
   exact aD.mono ba h (fun _ h=>aD.mono ba h (fun _ h=>av h.1 h.2))
  ·exact False.elim h
 ·exact False.elim h
theorem CX (hC:AE C) {f:AV} {args:List AV} {S:St} {k:St→AV→Prop} (h:CU C A o f args S k):yd C f args S k:=by
 unfold CU at h
 unfold yd
 split at h
 ·dsimp only
  split at h
  ·rename_i hp
   rw [hp]
   exact aD.mono (dv _ _) h (fun bs hb=>ua hC hb)
  ·rename_i hp
   rw [hp]
   obtain ⟨h1,h⟩:=ae h
   refine av h1 ?_
   split at h
   ·exact ax.mono (hC.det.scall _ _ _) h.1 (fun r o' ⟨e1,e2⟩=>by subst e1 e2; exact h.2)
   ·exact h
 ·exact False.elim h
theorem nx {R:List (AV×AV)} {t:TypeId} {m key x:AV} {S:St} {K:St→Prop} (h:lN C.P R t m key x S K):eQ C.P t m key x S K:=by
 unfold lN at h
 unfold eQ
 split at h
 ·rename_i hu
  rw [hu]
  dsimp only
  split at h
  ·split at h
   ·rename_i fl es ho
    dsimp only
    rw [ho]
    dsimp only
    obtain ⟨h1,h2,h3⟩:=ae h
    refine av h1 ?_
    have:=h2 (fun es'=>bg (S.o.set _ (.mapo (fl&&dn 4 x) es')) fun o=>K { t:=S.t,l:=S.l,o:=o,b:=S.b }) h3
    exact this
   ·exact False.elim h
  ·exact False.elim h
 ·exact False.elim h
theorem CY {ts:List TypeId} {x y:AV} {M:St} {k:AV→St→Prop} (h:CS C.P ts x y M k):tD C.P ts x y M k:=by
 unfold CS at h
 unfold tD
 split at h
 ·split at h
  ·rename_i e hu
   dsimp only
   rw [hu]
   dsimp only
   split at h
   ·rename_i i hi
    rw [hi]
    dsimp only
    obtain ⟨h1,h⟩:=ae h
    refine av h1 ?_
    refine ax.mono dX (qM h) (fun fl src h=>?_)
    obtain ⟨h2,h⟩:=h
    obtain ⟨h3,h⟩:=ae h
    refine av (by rw [h2,h3]; rfl) ?_
    split at h
    ·split at h
     ·rename_i ho
      dsimp only
      rw [ho]
      exact h
     ·exact False.elim h
    ·split at h
     ·rename_i ho
      dsimp only
      rw [ho]
      obtain ⟨h1,h2,h⟩:=ae h
      exact av (by rw [h1,h2]; rfl) h
     ·exact False.elim h
    ·exact False.elim h
   ·exact False.elim h
  ·exact False.elim h
 ·exact False.elim h
theorem BM (hC:AE C) {S:St} {K:St→Prop} (h:Iq C A pl o S K):xp C pl o S K:=by
 unfold Iq at h
 split at h
 ·rename_i ho
  split at h
  ·unfold xp
   rw [ho]
   refine aD.mono b9 h (fun m h=>?_)
   refine aD.mono b9 h (fun k h=>?_)
   refine aD.mono b9 h (fun x h=>?_)
   exact nx h
  ·exact h
 ·rename_i ho
  split at h
  ·unfold xp
   rw [ho]
   refine aD.mono b9 h (fun m h=>?_)
   refine aD.mono b9 h (fun k h=>?_)
   refine aD.mono b9 h (fun x h=>?_)
   exact nx h
  ·exact h
 ·rename_i ho
  split at h
  ·unfold xp
   rw [ho]
   refine aD.mono b9 h (fun l h=>?_)
   refine aD.mono b9 h (fun c h=>?_)
   exact nw h
  ·exact h
 ·rename_i c ho
  split at h
  ·rename_i hcal
   split at h
   ·unfold xp
    rw [ho]
    dsimp only
    rw [hcal]
    dsimp only
    refine aD.mono a8 h (fun as h=>?_)
    split at h
    ·exact xK h
    ·rename_i x y hne
     split
     ·rename_i e
      cases e
      exact (hne _ _ rfl).elim
     ·rename_i e
      cases e
      exact Aa h
     ·rename_i h3
      exact (h3 _ _ rfl).elim
    ·exact False.elim h
   ·exact h
  ·rename_i hcal
   unfold xp
   rw [ho]
   dsimp only
   rw [hcal]
   dsimp only
   refine aD.mono a8 h (fun as h=>?_)
   split at h
   ·exact CY h
   ·exact False.elim h
  ·rename_i f hcal
   unfold xp
   rw [ho]
   dsimp only
   rw [hcal]
   dsimp only
   refine aD.mono b9 h (fun l h=>?_)
   refine aD.mono a8 h (fun c h=>?_)
   exact CX hC h
  ·exact h
 ·exact h
theorem lk {K:St→Prop} {S:St} (h:nG A o K S):K S:=by
 have h2:∀ {key:Nat} {S:St} {K:St→Prop},Gj A key S K→K S:=by
  intro key S K h
  unfold Gj at h
  split at h
  ·exact h
  ·split at h
   ·rename_i ho
    obtain ⟨h1,h⟩:=h
    subst h1
    rw [aC] at h
    have e:∀ {α:Type} {l:List α} {i:Nat} {x:α},l[i]?=some x→l.set i x=l:=by
     intro α l i x hx
     refine List.ext_getElem? (fun m=>?_)
     rw [List.getElem?_set]
     split
     ·rename_i e
      subst e
      rw [if_pos (List.getElem?_eq_some_iff.1 hx).1,hx]
     ·rfl
    rw [e ho] at h
    exact h
   ·exact False.elim h
 unfold nG at h
 unfold JJ at h
 split at h
 ·exact h2 h
 ·split at h
  ·exact h2 h
  ·rename_i v hv
   obtain ⟨a,ha,e,h⟩:=bZ.1 h
   subst e
   rw [eh,oy ha] at h
   exact h2 h
theorem yT {S:St} {K:St→Prop} (h:Gk C A pl o S K):Es C pl o S K:=aD.mono a8 h (fun _ h=>Gs h)
theorem yU (hC:AE C) {S:St} {K:St→Prop} (h:Gl C A o S K):Et C o S K:=aD.mono a8 h (fun _ h=>Gt hC h)
theorem E7 {S:St} {K:St→Prop} (h:JK C A o S K):Eu C o S K:=aD.mono a8 h (fun _ h=>BL h)
theorem p5 {row:Option (List (List AV))} {M:St} {id i:Nat} {k:AV→St→Prop} (h:pz row M id i k):fK M id i k:=by
 unfold pz at h
 unfold fK
 split at h
 ·rename_i hob
  rw [hob]
  dsimp only
  split at h
  ·obtain ⟨h1,h⟩:=h
   rw [h1]
   exact h
  ·obtain ⟨h1,h⟩:=h
   rw [h1]
   exact h
 ·exact h.elim
theorem xL {P:Program} {a:zX} {t:TypeId} {same:Bool} {M:St} {id i:Nat} {k:AV→St→Prop} (h:s0 P a t same M id i k):iK P t same M id i k:=by
 unfold s0 at h
 unfold iK
 split at h
 ·split at h
  ·rename_i hob
   rw [hob]
   exact av h.1 h.2
  ·exact h.elim
 ·exact p5 h
theorem wF {P:Program} {t:TypeId} {M:St} {id i:Nat} {v:AV} {K:St→Prop} (h:qK P t M id i v K):gx P t M id i v K:=by
 unfold qK at h
 unfold gx
 split at h
 ·rename_i hi hob
  rw [hi,hob]
  obtain ⟨h1,h2,h3⟩:=ae h
  refine av ?_ h3
  simp only [Bool.and_eq_true] at h1 h2 ⊢
  exact ⟨⟨⟨h1.1,h2.1⟩,h1.2⟩,h2.2⟩
 ·exact h.elim
theorem xM {P:Program} {a:zX} {t:TypeId} {l c:AV} {M:St} {k:AV→St→Prop} (h:s5 P a t l c M k):gO P t l c M k:=by
 unfold s5 at h
 unfold gO
 split at h
 ·rename_i hu
  rw [hu]
  dsimp only
  split at h
  ·rename_i hi he
   rw [hi,he]
   dsimp only
   split at h
   ·rename_i hi2
    rw [hi2]
    dsimp only
    refine jj h (fun n h=>?_)
    refine jj h (fun m h=>?_)
    obtain ⟨h1,h⟩:=h
    obtain ⟨h2,h⟩:=ae h
    refine av ?_ ?_
    ·simp only [Bool.and_eq_true] at h1 h2 ⊢
     exact ⟨⟨h1,h2.1⟩,h2.2⟩
    ·refine m3 h (fun z h=>?_)
     split at h
     ·obtain ⟨h3,h⟩:=h
      dsimp only
      rw [h3]
      exact h
     ·exact h.elim
   ·exact h.elim
  ·exact h.elim
 ·exact h.elim
theorem xN {P:Program} {a:zX} {t:TypeId} {m key:AV} {ok:Bool} {M:St} {k:AV→St→Prop} (h:s9 P a t m key ok M k):iL P t m key ok M k:=by
 unfold s9 at h
 unfold iL
 split at h
 ·rename_i hu
  rw [hu]
  dsimp only
  split at h
  ·dsimp only
   split at h
   ·rename_i hob
    rw [hob]
    dsimp only
    split at h
    ·obtain ⟨h1,h2⟩:=h
     exact h1 (fun r=>match r with
      | some i=>fK M _ i fun a M'=>nQ ok a true fun r=>k r M'
      | none=>iI P _ ok fun r=>k r M) (p5 h2)
    ·obtain ⟨h1,h2⟩:=h
     exact h1 (fun r=>match r with
      | some i=>fK M _ i fun a M'=>nQ ok a true fun r=>k r M'
      | none=>iI P _ ok fun r=>k r M) h2
   ·exact h.elim
  ·exact h.elim
 ·exact h.elim
theorem rJ {P:Program} {a:zX} {t:TypeId} {m key x:AV} {M:St} {K:St→Prop} (h:rH P a t m key x M K):jH P t m key x M K:=by
 unfold rH at h
 unfold jH
 split at h
 ·rename_i hu
  rw [hu]
  dsimp only
  split at h
  ·rename_i id
   dsimp only
   split at h
   ·rename_i ks sz cells hole hob
    rw [hob]
    dsimp only
    obtain ⟨h1,h2,h3⟩:=ae h
    refine av h1 ?_
    have h4:=h2 (MD M id sz cells hole x K) h3
    refine aD.mono2 c_ h4 (fun kv r h5=>?_)
    obtain ⟨h6,h7⟩:=ae h5
    refine av h6 ?_
    cases r with
    | none=>exact h7
    | some i =>
     obtain ⟨h8,h9,h10⟩:=ae h7
     refine av ?_ h10
     rw [Bool.and_eq_true]
     exact ⟨h8,h9⟩
   ·exact h.elim
  ·exact h.elim
 ·exact h.elim
theorem uc {M:St} {x:AV} {X Y:Nat→Nat→Prop} (h:je M x X) (hk:∀ id i,X id i→Y id i):je M x Y:=by
 unfold je at h ⊢
 split at h
 ·split at h
  ·exact hk _ _ h
  ·exact h.elim
 ·exact h.elim
theorem yV {P:Program} {vs:List AV} {M:St} {k:AV→St→Prop} (h:DR P A pl o vs M k):lq P pl o vs M k:=by
 unfold DR at h
 split at h
 ·exact h
 ·split at h
  ·rename_i ho
   unfold lq
   rw [ho]
   exact uc h (fun _ _ h=>xL h)
  ·rename_i ho
   unfold lq
   rw [ho]
   exact uc h (fun _ _ h=>wF h)
  ·rename_i ho
   unfold lq
   rw [ho]
   exact xM h
  ·rename_i ho
   unfold lq
   rw [ho]
   exact xN h
  ·rename_i ho
   unfold lq
   rw [ho]
   exact rJ h
  ·rename_i ho
   unfold lq
   rw [ho]
   exact rJ h
  ·exact h.elim
theorem xO {S:St} {id:Nat} {K:St→Prop} (h:ta A S id K):iJ S id K:=by
 unfold ta at h
 split at h
 ·exact h
 ·unfold iJ
  split at h
  ·rename_i hob
   rw [hob]
   dsimp only
   split at h
   ·rename_i hk
    rw [hk]
    obtain ⟨h1,h2,h3,h4⟩:=ae h
    refine av ?_ ?_
    ·rw [Bool.and_eq_true]
     exact ⟨h1,h2⟩
    ·rw [h3]
     exact h4
   ·exact h.elim
  ·rename_i hob
   rw [hob]
   dsimp only
   obtain ⟨h2,h3,h4⟩:=h
   refine av h2 ?_
   rw [h3]
   exact h4
  ·exact h.elim
theorem rK:∀ {ids:List Nat} {S:St} {K:St→Prop},wx A ids S K→pm ids S K
 | [],_,_,h=>h
 | _::_,_,_,h=>aD.mono rA (xO h) (fun _ h=>rK h)
theorem Ab {S:St} {id:Nat} {K:St→Prop} (h:wy A S id K):kq S id K:=by
 unfold wy at h
 split at h
 ·exact h
 ·unfold kq
  split at h
  ·rename_i hob
   rw [hob]
   dsimp only
   rw [h.1]
   exact h.2
  ·exact h.elim
theorem p6:∀ {ids:List Nat} {S:St} {K:St→Prop},tc A ids S K→mn ids S K
 | [],_,_,h=>h
 | _::_,_,_,h=>aD.mono tU (Ab h) (fun _ h=>p6 h)
theorem wG {id:Nat} {S:St} {K:St→Prop} (h:wz A pl id S K):lF pl id S K:=by
 unfold wz at h
 unfold lF
 split at h
 ·rename_i hc
  rw [hc]
  exact h
 ·rename_i hc
  rw [hc]
  dsimp only
  refine aD.mono (ou _ _) (rK h) (fun S1 h=>?_)
  split at h
  ·rename_i hc
   rw [hc]
   exact h
  ·rename_i hc
   rw [hc]
   exact p6 h
theorem CZ (hC:AE C) {vs:List AV} {M:St} {k:AV→St→Prop} (h:CV C A o vs M k):lG C o vs M k:=by
 unfold CV at h
 split at h
 ·rename_i t X Y l c ho
  split at h
  ·unfold lG
   rw [ho]
   exact nw h
  ·exact h
 ·rename_i c fid first cap as ho
  unfold lG
  rw [ho]
  dsimp only
  split at h
  ·rename_i x hcal
   rw [hcal]
   obtain ⟨h1,h⟩:=ae h
   refine av h1 ?_
   split at h
   ·obtain ⟨h2,h3⟩:=h
    obtain ⟨r0,o0,⟨e1,e2⟩,h4⟩:=hC.det.scall _ _ _ _ h2
    subst e1 e2
    exact h4 _ h3
   ·exact h
  ·exact h.elim
 ·rename_i hne hne2
  have h':=BL h
  unfold lG
  split
  ·rename_i t X Y l c ho
   exact absurd rfl (hne t X Y l c ho)
  ·rename_i c fid first cap as ho
   exact absurd rfl (hne2 c fid first cap as ho)
  ·exact h'
theorem E8 (hC:AE C) {vs:List AV} {M:St} {k:AV→St→Prop} (h:Gm C A pl o vs M k):mU C pl o vs M k:=by
 unfold Gm at h
 unfold mU
 split at h
 ·rename_i hw
  rw [hw]
  exact yV h
 ·rename_i hw
  rw [hw]
  exact CZ hC h
theorem C0 (hC:AE C) {S:St} {K:St→Prop} (h:Gn C A pl o S K):pO C pl o S K:=aD.mono a8 h (fun _ h=>E8 hC h)
theorem E9 {S:St} {K:St→Prop} (h:JL C A pl o S K):zm C pl o S K:=aD.mono a8 h (fun _ h=>yV h)
theorem E_ {S:St} {K:St→Prop} (h:JM C o S K):Ev C o S K:=aD.mono a8 h (fun _ h=>Gu h)
theorem Gv (hC:AE C) {S:St} {K:St→Prop} (h:KA C A pl o S K):zn C pl o S K:=by
 refine aD.mono (Bj hC.det) (K:=nG A o K) ?_ (fun _ h=>lk h)
 unfold KA at h
 unfold zn
 split at h
 ·rename_i hc
  rw [hc]
  exact yT h
 ·rename_i hc
  rw [hc]
  exact yU hC h
 ·rename_i hc
  rw [hc]
  exact E7 h
 ·rename_i h0 h1 h2
  have:=BM hC h
  split
  ·exact absurd (by assumption) h0
  ·exact absurd (by assumption) h1
  ·exact absurd (by assumption) h2
  ·exact this
theorem DZ (hC:AE C) {S:St} {K:St→Prop} (h:ME C A pl o S K):FM C pl o S K:=by
 unfold ME at h
 unfold FM
 split at h
 ·rename_i hw
  rw [hw]
  exact aD.mono Bh (E9 h) (fun _ h=>lk h)
 ·rename_i hw
  rw [hw]
  exact Gv hC h
theorem BN (hC:AE C) {S:St} {K:St→Prop} (h:Gp C A pl o S K):xl C pl o S K:=by
 unfold Gp at h
 split at h
 ·rename_i hc
  refine aD.mono (iR hC.det) (K:=nG A o K) ?_ (fun _ h=>lk h)
  unfold xl
  rw [hc]
  exact yT h
 ·rename_i hc
  refine aD.mono (iR hC.det) (K:=nG A o K) ?_ (fun _ h=>lk h)
  unfold xl
  rw [hc]
  exact yU hC h
 ·rename_i hc
  refine aD.mono (iR hC.det) (K:=nG A o K) ?_ (fun _ h=>lk h)
  unfold xl
  rw [hc]
  exact C0 hC h
 ·rename_i hc
  unfold xl
  rw [hc]
  exact h
 ·rename_i hc
  refine aD.mono (iR hC.det) (K:=nG A o K) ?_ (fun _ h=>lk h)
  unfold xl
  rw [hc]
  exact E_ h
 ·rename_i h0 h1 h2 h4 h5
  refine aD.mono (iR hC.det) (K:=nG A o K) ?_ (fun _ h=>lk h)
  unfold xl
  split
  ·exact absurd (by assumption) h0
  ·exact absurd (by assumption) h1
  ·exact absurd (by assumption) h2
  ·exact absurd (by assumption) h4
  ·exact absurd (by assumption) h5
  ·split at h
   ·exact False.elim h
   ·rename_i hb
    rw [hb]
    exact BM hC h
theorem Ir (hC:AE C) {all:Array Oper} {S:St} {K:St→Prop} (h:PE C A pl all o S K):ag C pl all o S K:=by
 unfold PE at h
 unfold ag
 split at h
 ·rename_i hg
  rw [hg]
  obtain ⟨h1,h⟩:=ae h
  exact av h1 (BN hC h)
 ·rename_i j want hg
  rw [hg]
  dsimp only
  split at h
  ·exact False.elim h
  ·rename_i d hd
   rw [hd]
   dsimp only
   refine ax.mono dT h (fun b S1 h=>?_)
   have key:∀ {S:St},bz (lW pl all o S) (Gp C A pl o S K)→uq C pl all o S K:=by
    intro S h
    obtain ⟨h1,h⟩:=ae h
    exact av h1 (BN hC h)
   unfold gsel at h ⊢
   split at h
   ·exact key h
   ·exact key h
   ·exact h
theorem D1 (hC:AE C) {ops:Array Oper} {i:Nat} {S:St} {K:St→Prop} (h:Mq C A pl ops i S K):Cb C pl ops i S K:=by
 unfold Mq at h
 unfold Cb
 split at h
 ·exact False.elim h
 ·rename_i o ho
  rw [ho]
  exact Ir hC h
theorem Gw {S2 S1:St} {X:Prop} (h:S2=S1∧X):tF S2 S1 X:=by
 unfold tF
 split
 ·exact h.2
 ·exact h
theorem Ac (hC:AE C) {ops:Array Oper} {ws:List Nat}:∀ {n a:Nat} {listed:Array Bool} {t:PT} {S:St} {K:St→Prop},oK pl ops ws n a listed=some t→oT C A pl ops t none S K→lX C pl ops ws n listed S K
 | 0,a,listed,t,S,K,hp,h=>by
  unfold oK at hp
  unfold lX
  split at hp
  ·cases hp
   rename_i hr
   rw [hr]
   exact h
  ·cases hp
 | n + 1,a,listed,t,S,K,hp,h=>by
  unfold oK at hp
  unfold lX
  split at hp
  ·cases hp
   rename_i hr
   rw [hr]
   exact h
  ·rename_i r rs hr
   rw [hr]
   dsimp only
   have step:∀ {k b:Nat} {u:PT} {S:St} {K:St→Prop},oK pl ops ws n b (listed.setIfInBounds k true)=some u→(Mq C A pl ops k S fun S'=>oT C A pl ops u none S' K)→Cb C pl ops k S fun S'=>lX C pl ops ws n (listed.setIfInBounds k true) S' K :=
    fun hj h=>aD.mono (jL hC.det) (D1 hC h) (fun _ h=>Ac hC hj h)
   have alts:∀ {b:Nat} {is:List Nat} {u:PT} {S S1:St} {K:St→Prop} {X:Prop},yS (fun i=>oK pl ops ws n b (listed.setIfInBounds i true)) is=some u→oT C A pl ops u (some (S1,X)) S K →
     Ew (fun i K'=>Cb C pl ops i S fun S'=>lX C pl ops ws n (listed.setIfInBounds i true) S' K') is S1 X:=by
    intro b is
    induction is with
    | nil =>
     intro u S S1 K X hu h
     unfold yS at hu
     cases hu
     exact h
    | cons i is ih =>
     intro u S S1 K X hu h
     unfold yS at hu
     split at hu
     ·rename_i v hv
      split at hu
      ·rename_i w hw
       cases hu
       refine aD.mono (aD.bind (jL hC.det) (fun S'=>gS hC.det _ _ _)) (step hv h) (fun S2 h=>?_)
       exact Gw ⟨h.1,ih hw h.2⟩
      ·cases hu
     ·cases hu
   split at hp
   ·rename_i k hk
    rw [hk]
    dsimp only
    split at hp
    ·cases hp
     rename_i u hj
     exact step hj h
    ·cases hp
   ·rename_i hk
    rw [hk]
    dsimp only
    split at hp
    ·split at hp
     ·cases hp
      rename_i u hj
      refine aD.mono (aD.bind (jL hC.det) (fun S'=>gS hC.det _ _ _)) (step hj h) (fun _ h=>?_)
      exact h
     ·cases hp
    ·split at hp
     ·rename_i b _ _
      unfold yS at hp
      split at hp
      ·rename_i v hv
       split at hp
       ·rename_i w hw
        cases hp
        refine aD.mono (aD.bind (jL hC.det) (fun S'=>gS hC.det _ _ _)) (step hv h) (fun S1 h=>?_)
        exact alts hw h
       ·cases hp
      ·cases hp
     ·cases hp
theorem Gx (hC:AE C) {ops:Array Oper} {ws:List Nat}:∀ {n:Nat} {listed:Array Bool} {t:PT} {S:St} {K:St→Prop},DU pl ops ws n listed=some t→oT C A pl ops t none S K→xr C pl ops ws n listed S K
 | 0,listed,t,S,K,hp,h=>Ac hC (n:=0) hp h
 | n + 1,listed,t,S,K,hp,h=>by
  unfold DU at hp
  unfold xr
  split at hp
  ·rename_i i hi
   rw [hi]
   dsimp only
   split at hp
   ·cases hp
    rename_i u hj
    exact aD.mono (jL hC.det) (D1 hC h) (fun _ h=>Gx hC hj h)
   ·cases hp
  ·rename_i hi
   rw [hi]
   exact Ac hC hp h
theorem Gy (hC:AE C) {ops:Array Oper} {t:PT} {S:St} {K:St→Prop} (hp:z7 pl ops=some t) (h:oT C A pl ops t none S K):AL C pl ops S K:=by
 unfold z7 at hp
 unfold AL
 split at hp
 ·cases hp
 ·rename_i hn
  refine av hn ?_
  split at hp
  ·rename_i hc
   rw [hc]
   exact Ac hC hp h
  ·rename_i hc
   rw [hc]
   exact Gx hC hp h
theorem u6:∀ {x y:PT},CQ x y=true→x=y
 | .done,.done,_=>rfl
 | .go i t,.go j u,h=>by
  unfold CQ at h
  rw [Bool.and_eq_true] at h
  rw [Nat.eq_of_beq_eq_true h.1,u6 h.2]
 | .alt i t r,.alt j u s,h=>by
  unfold CQ at h
  rw [Bool.and_eq_true,Bool.and_eq_true] at h
  rw [Nat.eq_of_beq_eq_true h.1,u6 h.2.1,u6 h.2.2]
 | .done,.go _ _,h=>by cases h
 | .done,.alt _ _ _,h=>by cases h
 | .go _ _,.done,h=>by cases h
 | .go _ _,.alt _ _ _,h=>by cases h
 | .alt _ _ _,.done,h=>by cases h
 | .alt _ _ _,.go _ _,h=>by cases h
end
open Go.RowKit (Below)
def aW (P:Program) (c:Code) (S:St) (K:Ex→St→Prop):Prop :=
 ∃ e S',(∀ (r:Option Nat) (G:Gh) (E:Env) (a:Act) (w:World) (Q:Exit→Act→World→Prop),ap G pn E S w→TR E S.t a→H5 G (fun e' S''=>e'=e∧S''=S') Q→c.wpIn (rd r) 0 P Q a w)∧K e S'
theorem aW.mono {P:Program} {c:Code} {S:St} {K K':Ex→St→Prop} (h:aW P c S K) (hk:∀ e S',K e S'→K' e S'):aW P c S K' :=
 let ⟨e,S',h1,h2⟩:=h
 ⟨e,S',h1,hk _ _ h2⟩
theorem Gz (cfg:qY):AE (oH cfg):=⟨oI cfg⟩
theorem BO {P:Program} {op:BinOp} {t e:TypeId} {rows:List (List AV)} {E:Env} {u:Value} (hop:MF op=true) (hu:P.underlying t=some (.slice e)) (hx:VR E (.sl rows) u) (w:World) (X Y:Operand) :
  ∃ b,(do eqGuard op t X Y u (.slice none 0 0); binOp op t u (.slice none 0 0):Sem Value).run P w=.ok (.bool b) w∧((b=DT op∧rows=[])∨b=!(DT op)):=by
 have h0:∃ b,(∀ d:Nat,(Op.equalIn (d + 1) t u (.slice none 0 0)).run P w=.ok b w)∧((b=true∧rows=[])∨b=false):=by
  cases hx with
  | sln=>exact ⟨true,fun d=>by unfold Op.equalIn; rw [Sem.run_bind,run_underlying hu]; rfl,.inl ⟨rfl,rfl⟩⟩
  | sle _ a cap=>exact ⟨false,fun d=>by unfold Op.equalIn; rw [Sem.run_bind,run_underlying hu]; rfl,.inr rfl⟩
  | sl us h1 h2 h3 h4 h5 h6 h7=>exact ⟨false,fun d=>by unfold Op.equalIn; rw [Sem.run_bind,run_underlying hu]; rfl,.inr rfl⟩
 obtain ⟨b,hb,hr⟩:=h0
 have hn:FP u=true:=by cases hx <;> rfl
 have he:(Op.equal t u (.slice none 0 0)).run P w=.ok b w:=sG hb
 rw [jg hn]
 cases op with
 | eql =>
  refine ⟨b,?_,hr⟩
  have:binOp .eql t u (.slice none 0 0)=(do pure (.bool (← Op.equal t u (.slice none 0 0)))):=by cases hx <;> rfl
  simp [this,he]
 | neq =>
  refine ⟨!b,?_,?_⟩
  ·have:binOp .neq t u (.slice none 0 0)=(do pure (.bool (!(← Op.equal t u (.slice none 0 0))))):=by cases hx <;> rfl
   simp [this,he]
  ·rcases hr with ⟨rfl,hr⟩ | rfl
   ·exact .inl ⟨rfl,hr⟩
   ·exact .inr rfl
 | _=>cases hop
section
variable {G:Gh} {C:Ctx} {A:fa} {pl:bw}
theorem ng (hO:AE C) (hC:eC C) {rr:Option Nat} {all:Array Oper} {Q:Exit→Act→World→Prop}:∀ {ops:List Oper} {E:Env} {S:St} {w:World} {a:Act} {K:St→Prop},ap G pn E S w→TR E S.t a→z3 C A pl all ops S K →
  (∀ S' E' a' w',K S'→ap G pn E' S' w'→TR E' S'.t a'→Q .normal a' w')→wpListIn (rd rr) 0 C.P all Q ops a w
 | [],E,S,w,a,K,hM,ht,h,hQ=>hQ _ _ _ _ h hM ht
 | o::rest,E,S,w,a,K,hM,ht,h,hQ=>by
  have step:∀ {S1:St},ap G pn E S1 w→TR E S1.t a→Region.wanted o (yielded all a.tmps)=true→(ME C A pl o S1 fun S'=>z3 C A pl all rest S' K)→wpListIn (rd rr) 0 C.P all Q (o::rest) a w:=by
   intro S1 hM1 ht1 hw h
   unfold wpListIn
   rw [if_pos hw]
   refine DG (F1 (DZ hO h)) (yA hC hM1 ht1 (DZ hO h) _ _ (fun S' E' a' w' hk hS htr=>?_))
   exact ng hO hC hS htr hk hQ
  unfold z3 at h
  split at h
  ·rename_i hg
   have hw:Region.wanted o (yielded all a.tmps)=true:=by unfold Region.wanted; rw [hg]
   split at h
   ·unfold wpListIn
    rw [if_pos hw]
    unfold JN at h
    split at h
    ·rename_i op t x yt ho
     split at h
     ·rename_i e hu
      obtain ⟨c,h,hc⟩:=eE h ht
      split at h
      ·rename_i rows
       obtain ⟨hop,h1,h2⟩:=ae h
       obtain ⟨b,hrun,hbr⟩:=BO hop hu hc w x (.const (.slice none 0 0))
       have hex:(execOp a.eval o).run C.P w=.ok (.value (.bool b)) w:=by
        have:(execOp a.eval o)=(do pure (.value (← (do eqGuard op t x (.const (.slice none 0 0)) (a.eval x) (.slice none 0 0); binOp op t (a.eval x) (.slice none 0 0):Sem Value)))):=by
         unfold execOp
         rw [ho]
         simp [Act.eval]
        rw [this,Sem.run_bind,hrun]
        rfl
       refine DG (fun c hc=>by rw [ho] at hc; cases hc) (ei hex ?_)
       have h3:bE o.dst (.v (.bool b)) S fun S'=>z3 C A pl all rest S' K:=by
        rcases hbr with ⟨rfl,hr⟩ | rfl
        ·exact h1 hr
        ·exact h2
       rw [aK] at h3
       exact ng hO hC (hM.congr cQ cR cX) (ht.put (.v _ _ rfl)) h3 hQ
      ·exact False.elim h
     ·exact False.elim h
    ·exact False.elim h
   ·exact step hM ht hw h
  ·rename_i j want hg
   split at h
   ·exact False.elim h
   ·rename_i d hd
    obtain ⟨b,S1,h,hb,hM1,ht1⟩:=m4 hM ht h
    rcases od hg (qy hd hb) h with ⟨hw,h⟩ | ⟨hw,h⟩
    ·exact step hM1 ht1 hw h
    ·rw [aK] at h
     unfold wpListIn
     rw [if_neg (by rw [hw]; exact fun h=>by cases h)]
     exact ⟨fun _ _=>trivial,ng hO hC (hM1.congr cQ cR cX) (ht1.put (vQ _)) h hQ⟩
end
theorem BP {A:xI} {id:Nat} {S:St} {K:St→Prop} (h:EZ A id S K):∃ S',eV S S'∧K S':=by
 unfold EZ at h
 split at h
 ·exact u5 h
 ·exact ⟨S,.refl S,h⟩
theorem ud {cfg:qY} (hmix:cfg.P.follows .mixedOrders=true) {A:xI} {pl:bw}:∀ (c:Code) {S:St} {K:Ex→St→Prop},aA pl A.ord c=true→t_ (oH cfg) (aW cfg.P) A pl c S K →
  ∀ (r:Option Nat) (G:Gh) (E:Env) (a:Act) (w:World) (Q:Exit→Act→World→Prop),ap G pn E S w→TR E S.t a→H5 G K Q→c.wpIn (rd r) 0 cfg.P Q a w:=by
 have hC:=Gz cfg
 intro c
 induction c with
 | skip=>exact fun _ h r G E a w Q hM ht hQ=>wpIn_skip (hQ .nrm _ E _ _ h hM ht)
 | region id ops draw =>
  intro S K hB h r G E a w Q hM ht hQ
  cases draw with
  | false =>
   refine wpIn_region_list (ng hC (mC cfg) hM ht h (fun S' E' a' w' hk hS htr=>?_))
   obtain ⟨S3,E3,hk,hS,htr⟩:=oa hS htr (wG hk)
   obtain ⟨S2,hw,hk⟩:=BP hk
   obtain ⟨E2,hM2,ht2⟩:=hw G E3 a' w' hS htr
   exact hQ .nrm _ _ _ _ hk hM2 ht2
  | true =>
   refine py hmix pl id ops S (fun e S'=>e=.nrm∧EZ A id S' (K .nrm)) ?_ r G E a w Q hM ht (fun e S' E' a' w' hk hS htr=>?_)
   ·unfold aA at hB
    have h':(match qZ A.ord id with
    | some is=>bz (yg pl ops) (AM (oH cfg).P (cP ops.toList) S fun S1=>oT (oH cfg) (EY A id) pl ops is none S1 fun S'=>mo (cP ops.toList) S' (wz (EY A id) pl id S' fun S''=>EZ A id S'' (K .nrm)))
    | none=>ak 440):=h
    split at hB
    ·rename_i is js h1 h2
     rw [h1] at h'
     dsimp only at h'
     obtain ⟨h3,h'⟩:=ae h'
     refine av h3 ?_
     refine aD.mono Bl h' (fun S1 h=>?_)
     rw [u6 hB] at h
     refine aD.mono (Bo hC.det) (Gy hC h2 h) (fun S' h=>?_)
     obtain ⟨h4,h5⟩:=px h
     exact h5 _ (aD.mono sT (wG h4) (fun S'' h=>⟨rfl,h⟩))
    ·cases hB
   ·obtain ⟨rfl,hk⟩:=hk
    obtain ⟨S2,hw,hk⟩:=BP hk
    obtain ⟨E2,hM2,ht2⟩:=hw G E' a' w' hS htr
    exact hQ .nrm _ _ _ _ hk hM2 ht2
 | seq x y ihx ihy =>
  intro S K hB h r G E a w Q hM ht hQ
  unfold aA at hB
  rw [Bool.and_eq_true] at hB
  refine wpIn_seq (ihx hB.1 h r G E a w _ hM ht (fun e S' E' a' w' hk hS htr=>?_))
  cases e with
  | nrm =>
   dsimp only at hk
   split at hk
   ·obtain ⟨S2,h1,⟨e2,S3,h2,h3,h4⟩,h5⟩:=u5 hk
    subst h3 h4
    obtain ⟨E2,hM2,ht2⟩:=((z_ _ _).trans h1) G E' a' w' hS htr
    refine h2 r G E2 a' w' Q hM2 ht2 (fun e' S'' E'' a'' w'' he hS' ht'=>?_)
    obtain ⟨rfl,rfl⟩:=he
    exact hQ _ _ _ _ _ h5 hS' ht'
   ·exact ihy hB.2 hk r G E' a' w' Q hS htr hQ
  | ex i=>exact hQ (.ex i) _ _ _ _ hk hS htr
  | ret=>exact hQ .ret _ _ _ _ hk hS htr
 | cond c x y ihx ihy =>
  intro S K hB h r G E a w Q hM ht hQ
  unfold aA at hB
  rw [Bool.and_eq_true] at hB
  obtain ⟨b,S1,h1,h2,h3,h4⟩:=tS hM ht h
  cases b with
  | true=>exact wpIn_cond_true h2 (ihx hB.1 h1 r G E a w Q h3 h4 hQ)
  | false=>exact wpIn_cond_false h2 (ihy hB.2 h1 r G E a w Q h3 h4 hQ)
 | block id c ih =>
  intro S K hB h r G E a w Q hM ht hQ
  refine wpIn_block (ih hB h r G E a w _ hM ht (fun e S' E' a' w' hk hS htr=>?_))
  cases e with
  | nrm=>exact hQ .nrm _ _ _ _ hk hS htr
  | ret=>exact hQ .ret _ _ _ _ hk hS htr
  | ex i =>
   show Exit.inBlock id Q (.exit i) a' w'
   unfold Exit.inBlock
   dsimp only at hk
   split at hk
   ·rename_i hb
    have:=Nat.eq_of_beq_eq_true hb
    subst this
    simp only [if_pos]
    exact hQ .nrm _ _ _ _ hk hS htr
   ·rename_i hb
    have hne:¬ i=id:=fun e=>by subst e; simp at hb
    simp only [if_neg hne]
    exact hQ (.ex i) _ _ _ _ hk hS htr
 | loop c ih =>
  intro S K hB h r G E a w Q hM ht hQ
  have h':(match qZ A.lps (wA c) with
  | some (W,L,e,S1)=>Mp L (wk W S) fun S2=>((oH cfg).loop pl c S2 fun e' S'=>e'=e∧S'=S1)∧K e S1
  | none=>(oH cfg).loop pl c S K):=h
  split at h'
  ·obtain ⟨S2,h1,h2,h3⟩:=u5 h'
   obtain ⟨E2,hM2,ht2⟩:=((z_ _ _).trans h1) G E a w hM ht
   refine mD cfg pl c S2 _ h2 r G E2 a w Q hM2 ht2 (fun e' S'' E'' a'' w'' he hS' ht'=>?_)
   obtain ⟨rfl,rfl⟩:=he
   exact hQ _ _ _ _ _ h3 hS' ht'
  ·exact mD cfg pl c S K h' r G E a w Q hM ht hQ
 | exit id=>exact fun _ h r G E a w Q hM ht hQ=>wpIn_exit (hQ (.ex id) _ E _ _ h hM ht)
 | ret=>exact fun _ h r G E a w Q hM ht hQ=>wpIn_ret (hQ .ret _ E _ _ h hM ht)
 | _=>exact fun _ h=>False.elim h
theorem aW.of {cfg:qY} (hmix:cfg.P.follows .mixedOrders=true) {pl:bw} {c:Code} {S S1:St} {e:Ex} {K:Ex→St→Prop} {A:xI} {we:List (Nat×(Wk×Le))} (hB:aA pl A.ord c=true)
  (h:wC (oH cfg) (aW cfg.P) A pl we c S (fun e' S'=>e'=e∧S'=S1)) (hk:K e S1):aW cfg.P c S K:=by
 refine ⟨e,S1,fun r G E a w Q hM ht hQ=>?_,hk⟩
 refine ud hmix c hB h r G E a w Q hM ht (fun e' S' E' a' w' hk hS htr=>?_)
 dsimp only at hk
 split at hk
 ·obtain ⟨S2,h1,rfl,rfl⟩:=u5 hk
  obtain ⟨E2,hM2,ht2⟩:=((z_ _ _).trans h1) G E' a' w' hS htr
  exact hQ _ _ _ _ _ ⟨rfl,rfl⟩ hM2 ht2
 ·obtain ⟨rfl,rfl⟩:=hk
  exact hQ _ _ _ _ _ ⟨rfl,rfl⟩ hS htr
theorem cD.round {cfg:qY} {pl:bw} {c:Code} {S:St} {K:Ex→St→Prop}
  (h:aW cfg.P c S fun e S'=>match e with
   | .nrm=>cD cfg.P pl c S' K
   | .ex i=>K (.ex i) S'
   | .ret=>K .ret S'):cD cfg.P pl c S K:=by
 obtain ⟨e1,S1,h2,h1⟩:=h
 have run:∀ (e:Ex) (S3:St) (n:Nat),(∀ (r:Option Nat) (G:Gh) (E:Env) (a:Act) (w:World) (Q:Exit→Act→World→Prop),ap G pn E S1 w→TR E S1.t a→H5 G (fun e' S''=>e'=e∧S''=S3) Q→Exit.then (Code.roundsIn (rd r) 0 cfg.P c Q n) Q (Kp e1) a w) →
   ∀ (r:Option Nat) (G:Gh) (E:Env) (a:Act) (w:World) (Q:Exit→Act→World→Prop),ap G pn E S w→TR E S.t a→H5 G (fun e' S''=>e'=e∧S''=S3) Q→Code.roundsIn (rd r) 0 cfg.P c Q (n + 1) a w:=by
  intro e S3 n hn r G E a w Q hM ht hQ
  refine h2 r G E a w _ hM ht (fun e' S' E' a' w' hk hS htr=>?_)
  obtain ⟨rfl,rfl⟩:=hk
  exact hn r G E' a' w' Q hS htr hQ
 cases e1 with
 | nrm =>
  obtain ⟨n,e,S',hl,hk⟩:=h1
  exact ⟨n + 1,e,S',run e S' n (fun r G E a w Q hM ht hQ=>hl r G E a w Q hM ht hQ),hk⟩
 | ex i=>exact ⟨1,.ex i,S1,run _ _ 0 (fun r G E a w Q hM ht hQ=>hQ _ _ _ _ _ ⟨rfl,rfl⟩ hM ht),h1⟩
 | ret=>exact ⟨1,.ret,S1,run _ _ 0 (fun r G E a w Q hM ht hQ=>hQ _ _ _ _ _ ⟨rfl,rfl⟩ hM ht),h1⟩
def rk {σ τ:Type} (Sf:σ→St) (out:τ→Ex×St) (r:σ⊕τ) (e:Ex) (S':St):Prop :=
 match r with
 | .inl s'=>e=.nrm∧S'=Sf s'
 | .inr t=>e≠.nrm∧e=(out t).1∧S'=(out t).2
theorem cS {σ τ:Type} {Sf:σ→St} {out:τ→Ex×St} {s:σ}:rk Sf out (.inl s) .nrm (Sf s):=⟨rfl,rfl⟩
theorem co {σ τ:Type} {Sf:σ→St} {out:τ→Ex×St} {t:τ} {e:Ex} {S:St} (h:out t=(e,S)) (hne:e≠.nrm):rk Sf out (.inr t) e S:=by
 show e≠.nrm∧e=(out t).1∧S=(out t).2
 rw [h]
 exact ⟨hne,rfl,rfl⟩
def pk {τ:Type} (out:τ→Ex×St) (t:τ) (e:Ex) (S':St):Prop:=e=(out t).1∧S'=(out t).2
theorem ki {τ:Type} {out:τ→Ex×St} {t:τ} {e:Ex} {S:St} (h:out t=(e,S)):pk out t e S:=by
 show e=(out t).1∧S=(out t).2
 rw [h]
 exact ⟨rfl,rfl⟩
theorem cD.iter {cfg:qY} {pl:bw} {c:Code} {σ τ:Type} {step:σ→Option (σ⊕τ)} (Sf:σ→St) (out:τ→Ex×St)
  (hs:∀ s r,step s=some r→aW cfg.P c (Sf s) (rk Sf out r)):∀ (n:Nat) (s:σ) (t:τ),A.iter step n s=some t→cD cfg.P pl c (Sf s) fun e S'=>e=(out t).1∧S'=(out t).2
 | 0,s,t,h=>by cases h
 | n + 1,s,t,h=>by
  unfold A.iter at h
  split at h
  ·cases h
  ·rename_i s' hs'
   refine cD.round ((hs s _ hs').mono fun e S' h1=>?_)
   obtain ⟨rfl,rfl⟩:=h1
   exact cD.iter Sf out hs n s' t h
  ·rename_i t' ht'
   cases h
   refine cD.round ((hs s _ ht').mono fun e S' h1=>?_)
   obtain ⟨h0,h1,h2⟩:=h1
   cases e with
   | nrm=>exact absurd rfl h0
   | ex i=>exact ⟨h1,h2⟩
   | ret=>exact ⟨h1,h2⟩
theorem az.le {P:Program} {f:Nat} {as as':List AV} {K:AV→Prop} (h:az P f as' K) (hl:aV as as'):az P f as K:=by
 obtain ⟨r,⟨h1,h2⟩,h3⟩:=h
 exact ⟨r,⟨h1,fun F w us hF hg hv=>h2 F w us hF hg (hl.vrs hv)⟩,h3⟩
theorem az.to {P:Program} {f:Nat} {as:List AV} {r:AV} (h:az P f as fun x=>aJ x r):az P f as fun x=>x=r:=by
 obtain ⟨x,⟨h1,h2⟩,h3⟩:=h
 refine ⟨r,⟨h1,fun F w us hF hg hv=>(h2 F w us hF hg hv).mono ?_⟩,rfl⟩
 rintro e w' ⟨v,F',h4,h5,h6⟩
 exact ⟨v,F',h4,h3 _ _ h5,h6⟩
theorem ue {cfg:qY} (hN:lJ cfg.P) (hmix:cfg.P.follows .mixedOrders=true) {A:xI} {f:Nat} {args:List AV} {o:List Ob} {K:AV→St→Prop} (hB:aA (cfg.pol f) A.ord (al cfg.P f)=true) (h:DV (oH cfg) (aW cfg.P) A f args o K) :
  rh cfg.P f∧∀ (G:Gh) (E:Env) (w:World) (us:Array Value),ap G pn E (H4 o o.length) w→Cc E→bX E args us.toList→Calls cfg.P f us w fun e w'=>∃ v r S' E',K r S'∧e=.returned v∧ap G pn E' S' w'∧VR E' r v:=by
 unfold DV at h
 split at h
 ·rename_i fn hf
  split at h
  ·rename_i c hb
   have hb0:cfg.P.funcs[f]?=some fn:=hf
   refine ⟨⟨fn,c,hb0,hb,hN f fn hb0⟩,fun G E w us hM hg hv=>?_⟩
   refine vP.1 (callsIn_of_wp (F:=rd none) (n:=0) hb0 hb trivial ?_)
   have hl:args.length=us.size:=by simpa using hv.1
   unfold al at hB
   rw [hb0] at hB
   dsimp only at hB
   rw [hb] at hB
   refine ud hmix c hB h none G E _ w _ (hM.congr rfl rfl rfl) ⟨?_,fun n c' u h1 h2=>?_,rfl,hg⟩ (fun e S' E' a' w' hk hS htr=>?_)
   ·simp [vS,hl]
   ·dsimp only at h1 h2
    by_cases hn:n<args.length
    ·rw [List.getElem?_append_left hn] at h1
     rw [Array.getElem?_append_left (by omega)] at h2
     exact hv.2 n c' u h1 (by simpa using h2)
    ·rw [List.getElem?_append_right (by omega)] at h1
     rw [vR h1]
     exact .bad _ _
   ·cases e with
    | ex i=>exact False.elim hk
    | nrm =>
     obtain ⟨r,u,hk',hr,hrun⟩:=jK hS htr hk
     exact ⟨htr.df,u,hrun,u,r,S',E',hk',rfl,hS,hr⟩
    | ret =>
     obtain ⟨r,u,hk',hr,hrun⟩:=jK hS htr hk
     exact ⟨htr.df,u,hrun,u,r,S',E',hk',rfl,hS,hr⟩
  ·exact False.elim h
 ·exact False.elim h
theorem az.ofO {cfg:qY} (hN:lJ cfg.P) (hmix:cfg.P.follows .mixedOrders=true) {A:xI} {f:Nat} {args:List AV} {r:AV} (hB:aA (cfg.pol f) A.ord (al cfg.P f)=true) (h:DW (oH cfg) (aW cfg.P) A f args (fun x=>aJ x r)):az cfg.P f args (fun x=>x=r):=by
 obtain ⟨h1,h2⟩:=ue hN hmix hB h
 refine ⟨r,⟨h1,fun F w us hF hg hv=>?_⟩,rfl⟩
 have hM:ap { w0:=w,M:=fun _=>False,F:=F,mu:=fun _=>none } pn ⟨F,fun _=>none,w.heap⟩ (H4 [] 0) w :=
  ⟨rfl,rfl,rfl,rfl,Nat.le_refl _,fun _ _ _=>rfl,fun _ h=>h,hF,fun _ h _=>.inl h,fun _ _ _ _ _ h=>(by cases h),fun _ _ _ _ _ _ _ _ _ h _=>(by cases h),fun _=>rfl,fun _=>trivial,fun _ h=>(by cases h),Nat.le_refl _,fun _ _=>rfl,fun _ _ h=>(by cases h),fun _ _=>rfl⟩
 refine (h2 _ _ w us hM hg hv).mono ?_
 rintro e w' ⟨v,c,S',E',hk,rfl,hS,hr⟩
 unfold zk at hk
 split at hk
 ·rename_i b hb
  rw [cn] at hk
  have hd:=io hS _ hb hr (ids:=dK S'.o 6 c) (fun i hi=>hi)
  refine ⟨v,FD E' (dK S'.o 6 c),rfl,?_,⟨hS.os,hS.tape,hS.output,hS.size,fun b' hb'=>hS.keep b' hb' (fun h=>h)⟩,fun b' h=>.inl (hS.F0 b' h),FQ hS,fun b' h hlt=>?_⟩
  ·have e:(⟨FD E' (dK S'.o 6 c),fun _=>none,w'.heap⟩:Env)=E'.fd (dK S'.o 6 c):=by
    unfold Env.fd
    rw [hS.hp]
   rw [e]
   exact hk _ _ hd
  ·rcases h with h | ⟨id,_,o',s,n,h⟩
   ·rcases hS.Fnew b' h hlt with h3 | h3
    ·exact h3
    ·exact h3.elim
   ·rcases (hS.own _ _ _ _ _ h).2.2 with h3 | h3
    ·exact h3.elim
    ·have h3:w.heap.size≤b':=h3
     omega
 ·exact False.elim hk
theorem SD.ofO {cfg:qY} (hN:lJ cfg.P) (hmix:cfg.P.follows .mixedOrders=true) {A:xI} {f:Nat} {args:List AV} {o o1:List Ob} {r1:AV} {K:AV→List Ob→Prop} (hB:aA (cfg.pol f) A.ord (al cfg.P f)=true) (h:CW (oH cfg) (aW cfg.P) A f args o (fun r o'=>r=r1∧o'=o1)) (hk:K r1 o1):SD cfg.P f args o K:=by
 obtain ⟨h1,h2⟩:=ue hN hmix hB h
 refine ⟨r1,o1,⟨h1,fun E w us hM hg hv=>(h2 _ E w us hM hg hv).mono ?_⟩,hk⟩
 rintro e w' ⟨v,r,S',E',hk,rfl,hS,hr⟩
 obtain ⟨hb,rfl,rfl⟩:=ae hk
 simp only [Bool.and_eq_true] at hb
 have:=hS.obj_only
 rw [Nat.eq_of_beq_eq_true hb.2] at this
 exact ⟨v,r,S'.o,E'.ob,⟨rfl,rfl⟩,rfl,this,kW 4 hb.1 hr⟩
def aR (k:IntKind) (x:Int):AV:=.v (.int k x)
def JO (x:Bool):AV:=.v (.bool x)
def RR (x:ByteArray):AV:=.v (.string x)
def ep {α:Type} (f:α→List AV) (l:List α):AV:=.sl (l.map f)
def bT {α:Type} (f:α→List AV) (x:α):AV:=.agg (f x)
def l7 (k:IntKind) (x:Int):List AV:=[.v (.int k x)]
def ez (x:Bool):List AV:=[.v (.bool x)]
def RS (x:ByteArray):List AV:=[.v (.string x)]
def et {α:Type} (f:α→List AV) (l:List α):List AV:=[.sl (l.map f)]
def dr {α β:Type} (f:α→AV) (g:β→AV) (e:α×β):AV×AV:=(f e.1,g e.2)
def BQ {α:Type} (f:α→List AV):Option α→AV
 | none=>.nilp
 | some x=>.fptr (f x) 0
def RU {α:Type} (f:α→List AV) (x:Option α):List AV:=[BQ f x]
theorem xm {k:IntKind} {a b:Int} (h:(a==b)=true):AV.v (.int k a)=AV.v (.int k b):=by rw [eq_of_beq h]
theorem j8 {i:Nat}:Ex.ex i≠Ex.nrm:=fun h=>by cases h
theorem fT:Ex.ret≠Ex.nrm:=fun h=>by cases h
theorem u7 {α:Type} (f:α→List AV) (l:List α):AV.v (.int .i64 (((l.map f).length:Nat):Int))=AV.v (.int .i64 (l.length:Int)):=by rw [List.length_map]
theorem nh {α:Type} (f:α→List AV) {l:List α} {i:Int} {x:α} (h:aw l i=some x):CR (l.map f) i=some (f x):=by
 unfold aw at h
 unfold CR
 split
 ·rename_i h0
  rw [if_pos h0] at h
  rw [List.getElem?_map,h]
  rfl
 ·rename_i h0
  rw [if_neg h0] at h
  cases h
theorem pC {α:Type} (f:α→List AV) {l:List α} {i:Int} {x:α} (h:aw l i=some x):(l.map f)[i.toNat]?=some (f x):=by
 unfold aw at h
 split at h
 ·rw [List.getElem?_map,h]
  rfl
 ·cases h
theorem BR {α:Type} (f:α→List AV) (l:List α) {sz:Nat} (hf:∀ x,Nat.beq (f x).length sz=true):di sz (l.map f)=true:=by
 cases l with
 | nil=>rfl
 | cons x l=>exact hf x
theorem C1 {α:Type} (f:α→List AV) (l:List α) (hf:∀ x,(f x).all lU=true):a5 (l.map f)=true:=by
 unfold a5
 rw [List.all_eq_true]
 intro r hr
 obtain ⟨x,_,rfl⟩:=List.mem_map.1 hr
 exact hf x
theorem pD {α:Type} (f:α→List AV) (l m:List α):l.map f++m.map f=(l++m).map f:=List.map_append.symm
theorem fC {α:Type} (f:α→List AV) (l:List α) (i:Nat) (x:α):(l.map f).set i (f x)=(l.set i x).map f:=(List.map_set).symm
theorem ku {α:Type} (f:α→List AV) (n:Nat) (x:α):List.replicate n (f x)=(List.replicate n x).map f:=List.map_replicate.symm
theorem Is {α:Type} (f:α→List AV) (l:List α) (i off a b:Nat):AV.msl i off (a + (l.map f).length) (b - (l.map f).length)=AV.msl i off (a + l.length) (b - l.length):=by rw [List.length_map]
theorem D2 {α:Type} (f:α→List AV) (l:List α) (i off a b:Nat):AV.msl i off a ((l.map f).length - b)=AV.msl i off a (l.length - b):=by rw [List.length_map]
theorem BS {α:Type} (f:α→List AV) (l:List α) (i off a b:Nat):AV.msl i off ((l.map f).length - a) b=AV.msl i off (l.length - a) b:=by rw [List.length_map]
theorem It {α:Type} (f:α→List AV) (l m:List α) (a:Nat):(l.map f).take a++(m.map f++(l.map f).drop (a + (m.map f).length))=(l.take a++(m++l.drop (a + m.length))).map f:=by
 rw [List.length_map,List.map_append,List.map_append,List.map_take,List.map_drop]
theorem Fa {α:Type} {f:α→List AV} {l:List α} {k:Nat} (h:Nat.ble l.length k=true):Nat.ble (l.map f).length k=true:=by rw [List.length_map]; exact h
theorem Fb {α:Type} {f:α→List AV} {l:List α} {k:Nat} (h:Nat.ble k l.length=true):Nat.ble k (l.map f).length=true:=by rw [List.length_map]; exact h
theorem JP {α:Type} (f:α→List AV) (l:List α) (a b:Nat):AV.sl (((l.map f).drop a).take b)=AV.sl (((l.drop a).take b).map f):=by rw [List.map_take,List.map_drop]
theorem KD {α:Type} (f:α→List AV) (l:List α) (a b:Nat):aJ (.sl (((l.map f).drop a).take b)) (.sl (((l.drop a).take b).map f)):=by rw [JP]; exact aJ.refl _
theorem Ad {α:Type} {f:α→List AV} {l:List α} {h:Int} (e:(decide (0≤h)&&decide (h≤(l.length:Int)))=true):(decide (0≤h)&&decide (h≤(((l.map f).length:Nat):Int)))=true:=by rw [List.length_map]; exact e
theorem GA {α:Type} {f:α→List AV} {l:List α} {a h:Int} (e:(decide (0≤a)&&decide (a≤h)&&decide (h≤(l.length:Int)))=true):(decide (0≤a)&&decide (a≤h)&&decide (h≤(((l.map f).length:Nat):Int)))=true:=by rw [List.length_map]; exact e
theorem Iu {α:Type} (f:α→List AV) {l:List α} (h:l.map f=[]):aJ .nilsl (.sl (l.map f)):=by rw [h]; exact aJ.nil
theorem KF {α:Type} (f:α→List AV) (n:Nat) {z:List AV} {x:α} (h:aV z (f x)):eX (List.replicate n z) ((List.replicate n x).map f):=by
 rw [List.map_replicate]
 refine ⟨by simp,fun i a b h1 h2=>?_⟩
 rw [List.getElem?_replicate] at h1 h2
 split at h1
 ·cases h1
  rename_i hi
  rw [if_pos hi] at h2
  cases h2
  exact h
 ·cases h1
theorem Iv (n i off a b:Nat) (z:List AV):AV.msl i off a ((List.replicate n z).length - b)=AV.msl i off a (n - b):=by rw [List.length_replicate]
theorem u9 {α:Type} {f:α→List AV} {l:List α} {k m:Nat} (h:Nat.ble (l.length * k) m=true):Nat.ble ((l.map f).length * k) m=true:=by rw [List.length_map]; exact h
theorem mE {α:Type} {f:α→List AV} {l:List α} {k m n:Nat} (h:Nat.ble ((l.length + n) * k) m=true):Nat.ble (((l.map f).length + n) * k) m=true:=by rw [List.length_map]; exact h
theorem Fc {α:Type} {f:α→List AV} {l l':List α} {k m:Nat} (h:Nat.ble ((l.length + l'.length) * k) m=true):Nat.ble (((l.map f).length + (l'.map f).length) * k) m=true:=by rw [List.length_map,List.length_map]; exact h
def mF {α:Type} (f:α→List AV) (c:Option (List α)):Option (List (List AV)):=c.map fun l=>l.map f
section
variable {α:Type} (f:α→List AV)
theorem KG {cs:List (Option (List α))} {i:Nat} {x:Option (List α)} {r:List α} (h:cs[i]?=some x) (h1:x=some r):(cs.map (mF f))[i]?=some (some (r.map f)):=by
 rw [List.getElem?_map,h,h1]
 rfl
theorem KH {cs:List (Option (List α))} {i:Nat} {x:Option (List α)} (h:cs[i]?=some x) (h1:x=none):(cs.map (mF f))[i]?=some none:=by
 rw [List.getElem?_map,h,h1]
 rfl
theorem JQ {cs:List (Option (List α))} {i:Nat} {x:Option (List α)} (h:cs[i]?=some x):Nat.blt i (cs.map (mF f)).length=true:=by
 have:i<cs.length:=(List.getElem?_eq_some_iff.1 h).1
 rw [List.length_map]
 exact Nat.blt_eq.mpr this
theorem xP (i:Nat):Nat.beq i i=true:=Nat.beq_refl i
theorem GB (cs:List (Option (List α))) (i:Nat) (r:List α):(cs.map (mF f)).set i (some (r.map f))=(cs.set i (some r)).map (mF f):=by
 rw [List.map_set]
 rfl
theorem KI (cs:List (Option (List α))) (r:List α):(cs.map (mF f)++[none]).set (cs.map (mF f)).length (some (r.map f))=(cs++[some r]).map (mF f):=by
 rw [List.set_append_right _ _ (Nat.le_refl _),Nat.sub_self,List.map_append]
 rfl
theorem KJ (cs:List (Option (List α))):Nat.blt (cs.map (mF f)).length (cs.map (mF f)++[none]).length=true:=by
 rw [List.length_append]
 exact Nat.blt_eq.mpr (Nat.lt_succ_self _)
theorem MH {κ:Type} (kf:κ→AV):∀ (ks:List κ) (cs:List (Option (List α))),nF cs=true→lE (ks.map kf) (cs.map (mF f))=(AF ks cs).map (dr kf (ep f))
 | [],_,_=>by cases ‹List (Option (List α))› <;> rfl
 | _::_,[],_=>rfl
 | k::ks,c::cs,h=>by
  unfold nF at h
  rw [Bool.and_eq_true] at h
  obtain ⟨r,rfl⟩:=Option.isSome_iff_exists.1 h.1
  show (kf k,AV.sl (r.map f))::lE (ks.map kf) (cs.map (mF f))=_
  rw [MH kf ks cs h.2]
  rfl
end
theorem ni {α:Type} {P:Program} (c:Prop) [Decidable c] (x y:Sem α):aF P (if c then x else y)=if c then aF P x else aF P y:=by
 split <;> rfl
def KL (f:Nat→Option Bool):List Nat→Option Bool
 | []=>some true
 | i::is=>match f i with
  | some e=>match KL f is with
   | some s=>some (e&&s)
   | none=>none
  | none=>none
def Fe (P:Program):Nat→TypeId→Value→Value→Option Bool
 | 0,_,_,_=>none
 | n + 1,t,x,y =>
  match P.underlying t,x,y with
  | some .bool,.bool a,.bool b=>some (a==b)
  | some (.int _),.int k a,.int k' b=>if k=k' then some (a==b) else none
  | some .string,.string a,.string b=>some (a.toList==b.toList)
  | some (.struct fs),.agg xs,.agg ys=>match P.stoodInHeld t with
   | true=>none
   | false => fs.toList.foldr (fun f (r : Option Bool × Bool) => match f.name == "_", aF P (part f.type xs f.offset), aF P (part f.type ys f.offset) with
     | false,some a,some b=>match Fe P n f.type a b,r with
      | some e,(_,false)=>(some e,true)
      | some e,(some s,true)=>(some (e&&s),true)
      | _,_=>(none,true)
     | _,_,_=>(none,true)) (some true,false) |>.1
  | some (.array len e),.agg xs,.agg ys=>match aF P (sizeOf e) with
   | some m=>KL (fun i=>match aF P (part e xs (i * m)),aF P (part e ys (i * m)) with
    | some a,some b=>Fe P n e a b
    | _,_=>none) (List.range' 0 len)
   | none=>none
  | _,_,_=>none
theorem fU {P:Program} {t:TypeId} {d:TypeDesc} (h:P.underlying t=some d):aF P (underlying t)=some d:=by
 unfold underlying
 simp [a7,program,aF,h]
 rfl
theorem Ff {P:Program} {t:TypeId} {fs:Array Field} {xs ys:Array Value} {d:Nat} (ht:P.underlying t=some (.struct fs)) (hp:P.stoodInHeld t=false) :
  aF P (Op.equalIn (d + 1) t (.agg xs) (.agg ys))=aF P (Op.eqFields d xs ys fs.toList):=by
 simp only [Op.equalIn,a7,fU ht,Option.bind_some]
 have hprog:aF P program=some P:=rfl
 simp only [a7,hprog,Option.bind_some,hp,Bool.false_eq_true,if_false]
 rw [← Array.forIn_toList]
 generalize fs.toList=l
 clear ht
 induction l with
 | nil=>rfl
 | cons f l ih =>
  simp only [List.forIn_cons,Op.eqFields,a7,ni]
  split
  ·try simp only [a7]
   generalize aF P (part f.type xs f.offset)=r1
   cases r1 with
   | none=>rfl
   | some a =>
    simp only [Option.bind_some]
    generalize aF P (part f.type ys f.offset)=r2
    cases r2 with
    | none=>rfl
    | some b =>
     simp only [Option.bind_some]
     generalize aF P (Op.equalIn d f.type a b)=r3
     cases r3 with
     | none=>rfl
     | some r =>
      cases r
      ·rfl
      ·simp only [Option.bind_some]
       exact ih
  ·exact ih
def u_ (d:Nat) (e:TypeId) (m:Nat) (xs ys:Array Value):List Nat→Sem Bool
 | []=>pure true
 | i::is=>do
  if !(← Op.equalIn d e (← part e xs (i * m)) (← part e ys (i * m))) then return false
  u_ d e m xs ys is
theorem GC {P:Program} {t e:TypeId} {len m:Nat} {xs ys:Array Value} {d:Nat} (ht:P.underlying t=some (.array len e)) (hm:aF P (sizeOf e)=some m) :
  aF P (Op.equalIn (d + 1) t (.agg xs) (.agg ys))=aF P (u_ d e m xs ys (List.range' 0 len)):=by
 simp only [Op.equalIn,a7,fU ht,Option.bind_some,hm]
 simp only [Std.Legacy.Range.forIn_eq_forIn_range',Std.Legacy.Range.size,Nat.sub_zero,Nat.add_one_sub_one,Nat.div_one]
 generalize List.range' 0 len=l
 clear ht
 induction l with
 | nil=>rfl
 | cons i l ih =>
  simp only [List.forIn_cons,u_,a7,ni]
  generalize aF P (part e xs (i * m))=r1
  cases r1 with
  | none=>rfl
  | some a =>
   simp only [Option.bind_some]
   generalize aF P (part e ys (i * m))=r2
   cases r2 with
   | none=>rfl
   | some b =>
    simp only [Option.bind_some]
    generalize aF P (Op.equalIn d e a b)=r3
    cases r3 with
    | none=>rfl
    | some r =>
     cases r
     ·rfl
     ·simp only [Option.bind_some]
      exact ih
theorem pE {P:Program}:∀ (n d:Nat) {t:TypeId} {x y:Value} {b:Bool},n≤d→Fe P n t x y=some b→aF P (Op.equalIn d t x y)=some b
 | 0,_,_,_,_,_,_,h=>by cases h
 | n + 1,0,_,_,_,_,hd,_=>by omega
 | n + 1,d + 1,t,x,y,b,hd,h=>by
  unfold Fe at h
  split at h
  ·rename_i hu
   cases h
   simp only [Op.equalIn,a7,fU hu,Option.bind_some]
   rfl
  ·rename_i hu
   split at h
   ·rename_i hk
    cases h
    simp only [Op.equalIn,a7,fU hu,Option.bind_some]
    rw [if_pos hk]
    rfl
   ·cases h
  ·rename_i hu
   cases h
   simp only [Op.equalIn,a7,fU hu,Option.bind_some,← beq_toListBytes]
   rfl
  ·rename_i fs xs ys hu
   split at h
   ·cases h
   ·rename_i hp
    rw [Ff hu hp]
    have key : ∀ (l : List Field) (r : Option Bool) (m : Bool), l.foldr (fun f (r : Option Bool × Bool) => match f.name == "_", aF P (part f.type xs f.offset), aF P (part f.type ys f.offset) with
     | false,some a,some b=>match Fe P n f.type a b,r with
      | some e,(_,false)=>(some e,true)
      | some e,(some s,true)=>(some (e&&s),true)
      | _,_=>(none,true)
     | _,_,_=>(none,true)) (some true,false)=(r,m)→(m=false→l=[])∧∀ b,r=some b→aF P (Op.eqFields d xs ys l)=some b:=by
     intro l
     induction l with
     | nil =>
      intro r m h
      cases h
      exact ⟨fun _=>rfl,fun b hb=>by cases hb; rfl⟩
     | cons f l ih =>
      intro r m h
      rw [List.foldr_cons] at h
      generalize hq:(l.foldr _ (some true,false):Option Bool×Bool)=q at h
      obtain ⟨r',m'⟩:=q
      obtain ⟨ih1,ih2⟩:=ih r' m' hq
      split at h
      ·rename_i a b hn ha hb
       have hn' : f.name ≠ "_" := by simpa using hn
       have step:∀ e,Fe P n f.type a b=some e→aF P (Op.eqFields d xs ys (f::l))=match e with | true=>aF P (Op.eqFields d xs ys l) | false=>some false:=by
        intro e he
        simp only [Op.eqFields]
        rw [if_pos hn']
        simp only [a7,ha,hb,Option.bind_some,pE n d (by omega) he]
        cases e <;> rfl
       cases hv:Fe P n f.type a b with
       | none =>
        rw [hv] at h
        cases h
        exact ⟨fun h=>(by cases h),fun b' hb'=>(by cases hb')⟩
       | some e =>
        rw [hv] at h
        cases m' with
        | false =>
         cases h
         refine ⟨fun h=>(by cases h),fun b' hb'=>?_⟩
         cases hb'
         rw [step e hv,ih1 rfl]
         cases e <;> rfl
        | true =>
         cases r' with
         | none =>
          cases h
          exact ⟨fun h=>(by cases h),fun b' hb'=>(by cases hb')⟩
         | some s =>
          cases h
          refine ⟨fun h=>(by cases h),fun b' hb'=>?_⟩
          cases hb'
          rw [step e hv,ih2 s rfl]
          cases e <;> rfl
      ·cases h
       exact ⟨fun h=>(by cases h),fun b' hb'=>(by cases hb')⟩
    generalize hq:(fs.toList.foldr _ (some true,false):Option Bool×Bool)=q at h
    obtain ⟨r,m⟩:=q
    exact (key _ r m hq).2 b h
  ·rename_i len e xs ys hu
   split at h
   ·rename_i m hm
    rw [GC hu hm]
    generalize List.range' 0 len=l at h ⊢
    induction l generalizing b with
    | nil =>
     cases h
     rfl
    | cons i l ih =>
     unfold KL at h
     split at h
     ·rename_i c hc
      split at hc
      ·rename_i u v h1 h2
       split at h
       ·rename_i s hs
        cases h
        simp only [u_,a7,h1,h2,Option.bind_some,pE n d (by omega) hc]
        cases c
        ·rfl
        ·exact ih _ hs
       ·cases h
      ·cases hc
     ·cases h
   ·cases h
  ·cases h
theorem yW {P:Program} {t:TypeId} {xs ys:List Value} {b:Bool} (hg:P.eqGuardType P.depth t=false) (h:Fe P 16 t (.agg xs.toArray) (.agg ys.toArray)=some b):nN P .eql t xs ys=some (.bool b):=by
 unfold nN
 have h1:aF P (eqGuard .eql t (.tmp 0) (.tmp 0) (.agg xs.toArray) (.agg ys.toArray))=some ():=by
  simp [eqGuard,a7,program,aF,hg]
  rfl
 have h2:aF P (binOp .eql t (.agg xs.toArray) (.agg ys.toArray))=some (.bool b):=by
  have:=pE (P:=P) 16 10000 (by omega) h
  simp only [binOp,Op.equal,Op.maxDepth]
  rw [a7,this]
  rfl
 rw [a7,h1]
 exact h2
structure uf (P:Program) (kt:TypeId) {κ:Type} (kf:κ→AV) (kv:κ→Value) (beq:κ→κ→Bool):Prop where
 tok:∀ k,tE (kf k)=some (kv k)
 eqv:∀ a b,Fe P 16 kt (kv a) (kv b)=some (beq a b)
 chk:∀ e k,aF P (Instr.checkKey e 10000 kt (kv k))=some ()
 sam:∀ a b,beq a b=true→Instr.sameBits 10000 (kv b) (kv a)=true
def Ae:List Bool→Nat→Option Nat
 | [],_=>none
 | true::_,i=>some i
 | false::bs,i=>Ae bs (i + 1)
theorem wH {P:Program} {kt:TypeId} {x:Value}:∀ {es:List MapEntry} {bs:List Bool} {i:Nat},es.length=bs.length→(∀ (j:Nat) (e:MapEntry) (b:Bool),es[j]?=some e→bs[j]?=some b→Fe P 16 kt x e.key=some b) →
  ∃ r,aF P (Instr.findAsking kt x es i)=some r∧r.map (·.1)=Ae bs i
 | [],[],i,_,_=>⟨none,rfl,rfl⟩
 | [],_::_,_,h,_=>by simp at h
 | _::_,[],_,h,_=>by simp at h
 | e::es,b::bs,i,hl,hv=>by
  have h0:=pE (P:=P) 16 10000 (by omega) (hv 0 e b rfl rfl)
  unfold Instr.findAsking
  rw [a7]
  have h1:aF P (Op.equal kt x e.key)=some b:=h0
  rw [h1,Option.bind_some,ni]
  cases b with
  | true=>exact ⟨some (i,e.val),rfl,rfl⟩
  | false=>exact wH (es:=es) (bs:=bs) (i:=i + 1) (by simpa using hl) (fun j e' b' h2 h3=>hv (j + 1) e' b' (by simpa using h2) (by simpa using h3))
theorem D3 {P:Program} {kt:TypeId} {x:Value} {d:TypeDesc} (hd:P.underlying kt=some d):∀ {es:List MapEntry} {bs:List Bool} {i:Nat} {r:Option (Nat×Value)},es.length=bs.length→(∀ (j:Nat) (e:MapEntry) (b:Bool),es[j]?=some e→bs[j]?=some b→Fe P 16 kt x e.key=some b) →
  Instr.findNow d x es i=some r→r.map (·.1)=Ae bs i
 | [],[],i,r,_,_,h=>by cases h; rfl
 | [],_::_,_,_,h,_,_=>by simp at h
 | _::_,[],_,_,h,_,_=>by simp at h
 | e::es,b::bs,i,r,hl,hv,h=>by
  have h0:=hv 0 e b rfl rfl
  have hs:∀ c,Instr.sameNow d x e.key=some c→c=b:=by
   intro c hc
   unfold Fe at h0
   rw [hd] at h0
   generalize e.key=y at h0 hc
   unfold Instr.sameNow at hc
   split at hc
   ·dsimp only at h0
    split at hc
    ·rename_i hk
     rw [if_pos hk] at h0
     rw [hc] at h0
     exact Option.some.inj h0
    ·cases hc
   ·dsimp only at h0
    rw [beq_toListBytes] at hc
    rw [hc] at h0
    exact Option.some.inj h0
   ·dsimp only at h0
    rw [hc] at h0
    exact Option.some.inj h0
   ·cases hc
  unfold Instr.findNow at h
  split at h
  ·rename_i hc
   cases h
   rw [← hs _ hc]
   rfl
  ·rename_i hc
   rw [← hs _ hc]
   exact D3 hd (es:=es) (bs:=bs) (i:=i + 1) (by simpa using hl) (fun j e' b' h2 h3=>hv (j + 1) e' b' (by simpa using h2) (by simpa using h3)) h
  ·cases h
theorem Iw {P:Program} {kt:TypeId} {x:Value} {es:List MapEntry} {bs:List Bool} {d:TypeDesc} (hd:P.underlying kt=some d) (hl:es.length=bs.length) (hv:∀ (j:Nat) (e:MapEntry) (b:Bool),es[j]?=some e→bs[j]?=some b→Fe P 16 kt x e.key=some b) :
  ∃ r,aF P (Instr.findKey kt x es)=some r∧r.map (·.1)=Ae bs 0:=by
 unfold Instr.findKey
 rw [a7,fU hd,Option.bind_some]
 split
 ·rename_i r hr
  exact ⟨r,rfl,D3 hd hl hv hr⟩
 ·exact wH hl hv
theorem wI {κ β:Type} {kf:κ→AV} {kv:κ→Value} {vf:β→AV} (ht:∀ k,tE (kf k)=some (kv k)):∀ l:List (κ×β),keysOf (l.map (dr kf vf))=some (l.map fun e=>({ key:=kv e.1,val:=.bool false,born:=0 }:MapEntry))
 | []=>rfl
 | e::l=>by
  show (match tE (kf e.1),keysOf (l.map (dr kf vf)) with
   | some x,some xs=>some (({ key:=x,val:=.bool false,born:=0 }:MapEntry)::xs)
   | _,_=>none)=_
  rw [ht,wI ht l]
  rfl
theorem td {P:Program} {kt:TypeId} {κ β:Type} {kf:κ→AV} {kv:κ→Value} {beq:κ→κ→Bool} {vf:β→AV} (hd:(P.underlying kt).isSome=true) (hk:uf P kt kf kv beq) (l:List (κ×β)) (k:κ) {K:Value→Option Nat→Prop}
  (h:K (kv k) (Ae (l.map fun e=>beq k e.1) 0)):cK P kt (kf k) (l.map (dr kf vf)) K:=by
 obtain ⟨d,hd⟩:=Option.isSome_iff_exists.1 hd
 unfold cK
 rw [hk.tok,wI hk.tok]
 dsimp only
 rw [hk.chk]
 obtain ⟨r,h1,h2⟩:=Iw (P:=P) (x:=kv k) (es:=l.map fun e=>({ key:=kv e.1,val:=.bool false,born:=0 }:MapEntry)) (bs:=l.map fun e=>beq k e.1) hd (by simp) (fun j e b h1 h2=>by
  rw [List.getElem?_map,Option.map_eq_some_iff] at h1 h2
  obtain ⟨x,h3,rfl⟩:=h1
  obtain ⟨y,h4,rfl⟩:=h2
  rw [h3] at h4
  cases h4
  exact hk.eqv _ _)
 rw [h1]
 dsimp only
 rw [h2]
 exact h
theorem wJ {κ β:Type} {beq:κ→κ→Bool} {k:κ}:∀ (l:List (κ×β)) (i:Nat),(Ae (l.map fun e=>beq k e.1) i=none∧kj beq l k=none)∨∃ j e,Ae (l.map fun e=>beq k e.1) i=some (i + j)∧l[j]?=some e∧beq k e.1=true∧kj beq l k=some e.2
 | [],i=>.inl ⟨rfl,rfl⟩
 | e::l,i=>by
  rw [List.map_cons]
  cases hb:beq k e.1 with
  | true=>exact .inr ⟨0,e,rfl,rfl,hb,by unfold kj; rw [if_pos hb]⟩
  | false =>
   have hg:kj beq (e::l) k=kj beq l k:=by
    show (if beq k e.1=true then some e.2 else kj beq l k)=_
    rw [if_neg (by rw [hb]; exact Bool.false_ne_true)]
   rcases wJ (β:=β) (beq:=beq) (k:=k) l (i + 1) with ⟨h1,h2⟩ | ⟨j,e',h1,h2,h3,h4⟩
   ·exact .inl ⟨h1,hg.trans h2⟩
   ·exact .inr ⟨j + 1,e',by rw [show i + (j + 1)=i + 1 + j by omega]; exact h1,h2,h3,hg.trans h4⟩
def Pl (P:Program) (kt e:TypeId) {κ β:Type} (kf:κ→AV) (beq:κ→κ→Bool) (vf:β→AV) (z:β) (l:List (κ×β)) (k:κ):Prop :=
 ∀ k':AV→Prop,k' (vf ((kj beq l k).getD z))→cK P kt (kf k) (l.map (dr kf vf)) fun _ r=>eJ P e false (l.map (dr kf vf)) r k'
def Mr (P:Program) (kt e:TypeId) {κ β:Type} (kf:κ→AV) (beq:κ→κ→Bool) (vf:β→AV) (z:β) (l:List (κ×β)) (k:κ):Prop :=
 ∀ k':AV→Prop,k' (.tup [vf ((kj beq l k).getD z),.v (.bool (kj beq l k).isSome)])→cK P kt (kf k) (l.map (dr kf vf)) fun _ r=>eJ P e true (l.map (dr kf vf)) r k'
def Pm (P:Program) (kt:TypeId) {κ β:Type} (kf:κ→AV) (beq:κ→κ→Bool) (vf:β→AV) (l:List (κ×β)) (k:κ) (v:β):Prop :=
 ∀ K':List (AV×AV)→Prop,K' ((Mt beq l k v).map (dr kf vf))→cK P kt (kf k) (l.map (dr kf vf)) fun kv' r=>bz (qi P kt kv') (
     match r with
     | some i=>bz (Instr.sameBits 10000 (((l.map (dr kf vf))[i]?.bind fun e=>tE e.1).getD (.bool false)) kv') (K' ((l.map (dr kf vf)).set i (kf k,vf v)))
     | none=>K' (l.map (dr kf vf)++[(kf k,vf v)]))
def va (P:Program) (kt e:TypeId) (ok:Bool) {κ β:Type} (kf:κ→AV) (vf:β→AV) (l:List (κ×β)) (k:κ) (a:AV):Prop :=
 ∀ k':AV→Prop,k' a→cK P kt (kf k) (l.map (dr kf vf)) fun _ r=>eJ P e ok (l.map (dr kf vf)) r k'
theorem Ix {P:Program} {kt e:TypeId} {ok:Bool} {κ β:Type} {kf:κ→AV} {kv:κ→Value} {beq:κ→κ→Bool} {vf:β→AV} (hd:(P.underlying kt).isSome=true) (hk:uf P kt kf kv beq) (z:AV) (hz:∀ k',iI P e ok k'=k' z) (l:List (κ×β)) (k:κ) (h:kj beq l k=none):va P kt e ok kf vf l k z:=by
 intro k' hz'
 refine td hd hk l k ?_
 rcases wJ (β:=β) (beq:=beq) (k:=k) l 0 with ⟨h1,h2⟩ | ⟨j,en,h1,h2,h3,h4⟩
 ·rw [h1]
  show iI P e ok k'
  rw [hz]
  exact hz'
 ·rw [h] at h4
  cases h4
theorem Iy {P:Program} {kt e:TypeId} {ok:Bool} {κ β:Type} {kf:κ→AV} {kv:κ→Value} {beq:κ→κ→Bool} {vf:β→AV} (hd:(P.underlying kt).isSome=true) (hk:uf P kt kf kv beq) (l:List (κ×β)) (k:κ) {v:β} (h:kj beq l k=some v):va P kt e ok kf vf l k (match ok with | true=>.tup [vf v,.v (.bool true)] | false=>vf v):=by
 intro k' hk'
 refine td hd hk l k ?_
 rcases wJ (β:=β) (beq:=beq) (k:=k) l 0 with ⟨h1,h2⟩ | ⟨j,en,h1,h2,h3,h4⟩
 ·rw [h] at h2
  cases h2
 ·rw [h1]
  show eJ P e ok _ (some (0 + j)) k'
  unfold eJ
  dsimp only
  rw [Nat.zero_add,List.getElem?_map,h2]
  rw [h] at h4
  cases h4
  cases ok with
  | true=>exact hk'
  | false=>exact hk'
theorem yX {κ:Type} (kf:κ→AV):∀ ks:List κ,eU (ks.map kf)=(ks.map fun k=>(k,())).map (dr kf fun _=>AV.bad)
 | []=>rfl
 | k::ks=>by
  show (kf k,AV.bad)::eU (ks.map kf)=_
  rw [yX kf ks]
  rfl
theorem wL {κ:Type} {beq:κ→κ→Bool} {k:κ}:∀ (ks:List κ) (i:Nat),Ae ((ks.map fun k=>(k,())).map fun e=>beq k e.1) i=(dM beq ks k).map (i + ·)
 | [],_=>rfl
 | e::ks,i=>by
  rw [List.map_cons,List.map_cons]
  cases hb:beq k e with
  | true =>
   show some i=_
   unfold dM
   rw [if_pos hb]
   rfl
  | false =>
   show Ae ((ks.map fun k=>(k,())).map fun e=>beq k e.1) (i + 1)=_
   rw [wL ks (i + 1)]
   have hk:dM beq (e::ks) k=(if beq k e=true then some 0 else (dM beq ks k).map (· + 1)):=rfl
   rw [hk,if_neg (by rw [hb]; exact Bool.false_ne_true),Option.map_map]
   congr 1
   funext j
   show i + 1 + j=i + (j + 1)
   omega
theorem yY {κ:Type} {beq:κ→κ→Bool} {k:κ}:∀ {ks:List κ} {j:Nat},dM beq ks k=some j→∃ e,ks[j]?=some e∧beq k e=true
 | [],_,h=>by cases h
 | e::ks,j,h=>by
  unfold dM at h
  split at h
  ·rename_i hb
   cases h
   exact ⟨e,rfl,hb⟩
  ·rw [Option.map_eq_some_iff] at h
   obtain ⟨j',h1,rfl⟩:=h
   obtain ⟨e',h2,h3⟩:=yY h1
   exact ⟨e',by simpa using h2,h3⟩
def GD (P:Program) (kt:TypeId) {κ:Type} (kf:κ→AV) (ks:List κ) (k:κ) (r:Option Nat):Prop:=∀ K':Option Nat→Prop,K' r→cK P kt (kf k) (eU (ks.map kf)) fun _ r=>K' r
def D4 (P:Program) (kt:TypeId) {κ:Type} (kf:κ→AV) (ks:List κ) (k:κ) (r:Option Nat) (ks':List AV):Prop:=∀ K':Option Nat→List AV→Prop,K' r ks'→cK P kt (kf k) (eU (ks.map kf)) fun kv r=>bz (qi P kt kv) (match r with
     | some i=>bz (Instr.sameBits 10000 (((ks.map kf)[i]?.bind tE).getD (.bool false)) kv) (K' (some i) ((ks.map kf).set i (kf k)))
     | none=>K' none (ks.map kf++[kf k]))
section
variable {P:Program} {kt:TypeId} {κ:Type} {kf:κ→AV} {kv:κ→Value} {beq:κ→κ→Bool}
theorem KM (hd:(P.underlying kt).isSome=true) (hk:uf P kt kf kv beq) (ks:List κ) (k:κ) {K:Value→Option Nat→Prop} (h:K (kv k) (dM beq ks k)):cK P kt (kf k) (eU (ks.map kf)) K:=by
 rw [yX]
 refine td hd hk (ks.map fun k=>(k,())) k ?_
 rw [wL]
 have:(dM beq ks k).map (0 + ·)=dM beq ks k:=by
  cases dM beq ks k with
  | none=>rfl
  | some j=>show some (0 + j)=_; rw [Nat.zero_add]
 rw [this]
 exact h
theorem Iz (hd:(P.underlying kt).isSome=true) (hk:uf P kt kf kv beq) (ks:List κ) (k:κ) {r:Option Nat} (h:dM beq ks k=r):∀ K':Option Nat→Prop,K' r→cK P kt (kf k) (eU (ks.map kf)) fun _ r=>K' r:=fun _ hK=>KM hd hk ks k (h.symm▸hK)
theorem IA (hd:(P.underlying kt).isSome=true) (hk:uf P kt kf kv beq) (ks:List κ) (k:κ) (h:dM beq ks k=none):∀ K':Option Nat→List AV→Prop,K' none ((ks++[k]).map kf)→cK P kt (kf k) (eU (ks.map kf)) fun kv r=>bz (qi P kt kv) (match r with
     | some i=>bz (Instr.sameBits 10000 (((ks.map kf)[i]?.bind tE).getD (.bool false)) kv) (K' (some i) ((ks.map kf).set i (kf k)))
     | none=>K' none (ks.map kf++[kf k])):=by
 intro K' hK
 refine KM hd hk ks k ?_
 refine av (by unfold qi; rw [hk.chk]) ?_
 rw [h]
 rw [List.map_append] at hK
 exact hK
theorem IB (hd:(P.underlying kt).isSome=true) (hk:uf P kt kf kv beq) (he:∀ a b,beq a b=true→a=b) (ks:List κ) (k:κ) {i:Nat} (h:dM beq ks k=some i):∀ K':Option Nat→List AV→Prop,K' (some i) (ks.map kf)→cK P kt (kf k) (eU (ks.map kf)) fun kv r=>bz (qi P kt kv) (match r with
     | some i=>bz (Instr.sameBits 10000 (((ks.map kf)[i]?.bind tE).getD (.bool false)) kv) (K' (some i) ((ks.map kf).set i (kf k)))
     | none=>K' none (ks.map kf++[kf k])):=by
 intro K' hK
 refine KM hd hk ks k ?_
 refine av (by unfold qi; rw [hk.chk]) ?_
 obtain ⟨e,h1,h2⟩:=yY h
 have e1:=he _ _ h2
 subst e1
 rw [h]
 have hm:(ks.map kf)[i]?=some (kf k):=by rw [List.getElem?_map,h1]; rfl
 refine av ?_ ?_
 ·rw [hm]
  show Instr.sameBits 10000 ((tE (kf k)).getD (.bool false)) (kv k)=true
  rw [hk.tok]
  exact hk.sam _ _ h2
 ·have hset:(ks.map kf).set i (kf k)=ks.map kf:=by
   apply List.ext_getElem?
   intro j
   rw [List.getElem?_set]
   split
   ·rename_i hj
    subst hj
    rw [hm]
    split
    ·rfl
    ·rename_i hn
     exact absurd (List.getElem?_eq_some_iff.1 hm).1 hn
   ·rfl
  rw [hset]
  exact hK
end
def lO (H:Type) (P:Program) (t:TypeId) {α:Type} (f:α→List AV) (wf:α→Prop):Prop:=∀ (n:Nat) (d:DataW H),de P n t d=true→∃ x,aV (gT P n t d) (f x)∧wf x
def hJ (H:Type) (P:Program) (ts:List TypeId) {α:Type} (f:α→List AV) (wf:α→Prop):Prop:=∀ (n:Nat) (ds:List (DataW H)),ds.length=ts.length→((ts.zip ds).all fun x=>de P n x.1 x.2)=true→∃ x,aV ((ts.zip ds).flatMap fun x=>gT P n x.1 x.2) (f x)∧wf x
section
variable {H:Type} {P:Program} {t:TypeId}
theorem lO.int {k:IntKind} (hu:P.underlying t=some (.int k)):lO H P t (l7 k) (ya k):=by
 intro n d h
 cases n with
 | zero=>cases h
 | succ n =>
  unfold de at h
  rw [hu] at h
  cases d with
  | lit l =>
   cases l with
   | int k' m =>
    have h:(decide (k'=k)&&(Lit.int k m).wf)=true:=h
    rw [Bool.and_eq_true] at h
    obtain ⟨h1,h2⟩:=h
    have h1:=of_decide_eq_true h1
    subst h1
    have h2:(decide (k'.min≤m)&&decide (m≤k'.max))=true:=h2
    rw [Bool.and_eq_true] at h2
    refine ⟨m,?_,of_decide_eq_true h2.1,of_decide_eq_true h2.2⟩
    unfold gT
    rw [hu]
    exact aV.refl _
   | _=>cases h
  | _=>cases h
theorem lO.bool (hu:P.underlying t=some .bool):lO H P t ez (fun _=>True):=by
 intro n d h
 cases n with
 | zero=>cases h
 | succ n =>
  unfold de at h
  rw [hu] at h
  cases d with
  | lit l =>
   cases l with
   | bool b =>
    refine ⟨b,?_,trivial⟩
    unfold gT
    rw [hu]
    exact aV.refl _
   | _=>cases h
  | _=>cases h
theorem lO.slice {e:TypeId} (hu:P.underlying t=some (.slice e)) {α:Type} {f:α→List AV} {wf:α→Prop} (he:lO H P e f wf):lO H P t (et f) (fun l=>l.length≤maxLen∧∀ x∈l,wf x):=by
 intro n d h
 cases n with
 | zero=>cases h
 | succ n =>
  unfold de at h
  rw [hu] at h
  cases d with
  | nil =>
   refine ⟨[],?_,by simp [maxLen],fun x hx=>by cases hx⟩
   unfold gT
   rw [hu]
   exact aV.cons aJ.nil aV.nil
  | slice xs sp =>
   have h:(decide (xs.length≤maxLen)&&xs.all (de P n e))=true:=h
   rw [Bool.and_eq_true] at h
   obtain ⟨h1,h2⟩:=h
   have key:∀ xs:List (DataW H),xs.all (de P n e)=true→∃ l:List α,eX (xs.map (gT P n e)) (l.map f)∧l.length=xs.length∧∀ x∈l,wf x:=by
    intro xs
    induction xs with
    | nil=>exact fun _=>⟨[],eX.nil,rfl,fun x hx=>by cases hx⟩
    | cons x xs ih =>
     intro h
     rw [List.all_cons,Bool.and_eq_true] at h
     obtain ⟨y,hy1,hy2⟩:=he n x h.1
     obtain ⟨l,hl1,hl2,hl3⟩:=ih h.2
     refine ⟨y::l,eX.cons hy1 hl1,by simp [hl2],fun z hz=>?_⟩
     rcases List.mem_cons.1 hz with rfl | hz
     ·exact hy2
     ·exact hl3 z hz
   obtain ⟨l,hl1,hl2,hl3⟩:=key xs h2
   refine ⟨l,?_,by rw [hl2]; exact of_decide_eq_true h1,hl3⟩
   unfold gT
   rw [hu]
   exact aV.cons (aJ.sl hl1) aV.nil
  | _=>cases h
theorem hJ.nil:hJ H P [] (fun _:Unit=>[]) (fun _=>True):=fun _ _ _ _=>⟨(),aV.nil,trivial⟩
theorem hJ.cons {ts:List TypeId} {α β:Type} {f:α→List AV} {wf:α→Prop} {g:β→List AV} {wg:β→Prop} (h:lO H P t f wf) (hs:hJ H P ts g wg):hJ H P (t::ts) (fun x:α×β=>f x.1++g x.2) (fun x=>wf x.1∧wg x.2):=by
 intro n ds hl ha
 cases ds with
 | nil=>simp at hl
 | cons d ds =>
  rw [List.zip_cons_cons,List.all_cons,Bool.and_eq_true] at ha
  obtain ⟨x,h1,h2⟩:=h n d ha.1
  obtain ⟨y,h3,h4⟩:=hs n ds (by simpa using hl) ha.2
  refine ⟨(x,y),?_,h2,h4⟩
  rw [List.zip_cons_cons,List.flatMap_cons]
  exact h1.app h3
theorem lO.struct {fs:Array Field} (hu:P.underlying t=some (.struct fs)) {α:Type} {g:α→List AV} {wg:α→Prop} (h:hJ H P (fs.toList.map (·.type)) g wg):lO H P t g wg:=by
 intro n d hd
 cases n with
 | zero=>cases hd
 | succ n =>
  unfold de at hd
  rw [hu] at hd
  cases d with
  | agg ds =>
  have hd:(Nat.beq ds.length fs.size&&(fs.toList.zip ds).all fun x=>de P n x.1.type x.2)=true:=hd
  rw [Bool.and_eq_true] at hd
  obtain ⟨h1,h2⟩:=hd
  have hlen:=Nat.eq_of_beq_eq_true h1
  obtain ⟨x,h3,h4⟩:=h n ds (by simpa using hlen) (by
   rw [List.zip_map_left,List.all_map]
   exact h2)
  refine ⟨x,?_,h4⟩
  unfold gT
  rw [hu]
  dsimp only
  rw [List.zip_map_left,List.flatMap_map] at h3
  exact h3
  | _=>cases hd
theorem lO.conv {α β:Type} {f:α→List AV} {wf:α→Prop} {g:β→List AV} {wg:β→Prop} (h:lO H P t f wf) (φ:α→β) (hf:∀ x,f x=g (φ x)) (hw:∀ x,wf x→wg (φ x)):lO H P t g wg:=fun n d hd=>by
 obtain ⟨x,h1,h2⟩:=h n d hd
 exact ⟨φ x,by rw [← hf]; exact h1,hw x h2⟩
theorem lO.argS {fs:Array Field} (hu:P.underlying t=some (.struct fs)) {α:Type} {f:α→List AV} {wf:α→Prop} (h:lO H P t f wf) {n:Nat} {d:DataW H} (hd:de P n t d=true):∃ x,aJ (p0 P n t d) (.agg (f x))∧wf x:=by
 obtain ⟨x,h1,h2⟩:=h n d hd
 refine ⟨x,?_,h2⟩
 unfold p0
 rw [hu]
 exact aJ.agg h1
theorem lO.arg1 (hs:lj P t=false) {α:Type} {f:α→List AV} {wf:α→Prop} {g:α→AV} (h:lO H P t f wf) (hg:∀ x,f x=[g x]) {n:Nat} {d:DataW H} (hd:de P n t d=true):∃ x,aJ (p0 P n t d) (g x)∧wf x:=by
 obtain ⟨x,h1,h2⟩:=h n d hd
 refine ⟨x,?_,h2⟩
 rw [hg] at h1
 unfold lj at hs
 unfold p0
 split
 ·rename_i fs hu
  rw [hu] at hs
  cases hs
 ·generalize gT P n t d=r at h1
  cases r with
  | nil=>exact absurd h1.1 (by simp)
  | cons a r=>exact h1.2 0 a _ rfl rfl
end
end A
end Go.Proofs.YtomahedcdcnnhaaGreatDoor
