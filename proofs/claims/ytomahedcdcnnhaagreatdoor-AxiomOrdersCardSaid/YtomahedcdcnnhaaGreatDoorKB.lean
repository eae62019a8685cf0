/- The evaluator with answers; contracts out of it. Nothing is claimed here of the program. -/
import Derived.Test.YtomahedcdcnnhaaGreatDoorK6
import Derived.Test.YtomahedcdcnnhaaGreatDoorM0
import Derived.Laws.StructEq
namespace Go.Proofs.YtomahedcdcnnhaaGreatDoor
namespace A
open Go
def sB {α:Type}:List (Nat×α)→Nat→Option α
 | [],_=>none
 | (d,x)::xs,e=>match Nat.beq d e with | true=>some x | false=>sB xs e
structure Wk where
 ts:List Nat
 ls:List Nat
 no:Nat
 pr:List (Nat×Nat)
 pl:List (Nat×Nat×Nat)
 fz:List Nat
def J2 (ts:List Nat):Nat→List AV→List AV
 | _,[]=>[]
 | i,x::xs=>(match fP ts i with | true=>x | false=>.bad)::J2 ts (i + 1) xs
def Bl:List Nat→St→St
 | [],S=>S
 | d::ds,S=>Bl ds (fo d S)
def HS:Nat→Nat→List Nat
 | _,0=>[]
 | i,n + 1=>i::HS (i + 1) n
def HT:List Nat→St→St
 | [],S=>S
 | i::is,S=>HT is (gG i S)
def Bm:List Ob→Bool
 | []=>true
 | .dead::os=>Bm os
 | _=>false
def Mr (n:Nat) (S:St):St :=
 match Bm (S.o.drop n)&&Nat.ble S.b n with
 | true=>{ t:=S.t,l:=S.l,o:=S.o.take n,b:=S.b }
 | false=>S
def CZ:List (Nat×Nat)→St→St
 | [],S=>S
 | (d,sz)::ps,S=>match S.t[d]? with
  | some .nilsl=>CZ ps { t:=S.t.set d (.mf S.o.length),l:=S.l,o:=S.o++[.arr true sz []],b:=S.b }
  | _=>CZ ps S
def Am:List (Nat×Nat×Nat)→St→St
 | [],S=>S
 | (d,j,sz)::ps,S=>match aR S.l d with
  | some row=>match row[j]? with
   | some .nilsl=>Am ps { t:=S.t,l:=vM S.l d (row.set j (.mf S.o.length)),o:=S.o++[.arr true sz []],b:=S.b }
   | _=>Am ps S
  | none=>Am ps S
def GG:List Nat→St→St
 | [],S=>S
 | d::ds,S=>match S.t[d]? with
  | some a=>match E_ S.o 6 a with
   | some b=>GG ds { t:=(mM (dX S.o 6 a) S).t.set d b,l:=(mM (dX S.o 6 a) S).l,o:=(mM (dX S.o 6 a) S).o,b:=(mM (dX S.o 6 a) S).b }
   | none=>GG ds S
  | none=>GG ds S
def SF (W:Wk) (S:St):St :=
 Am W.pl (CZ W.pr (Mr W.no (HT (HS W.no (S.o.length - W.no)) (Bl W.ls { t:=J2 W.ts 0 S.t,l:=S.l,o:=S.o,b:=S.b }))))
def wk (W:Wk) (S:St):St:=SF W (GG W.fz S)
def ce (a b:AV):Prop:=∀ E u,VR E a u→VR E b u
def dE (r r':List AV):Prop:=r.length=r'.length∧∀ (i:Nat) (a b:AV),r[i]?=some a→r'[i]?=some b→ce a b
def fF (r r':List (List AV)):Prop:=r.length=r'.length∧∀ (i:Nat) (a b:List AV),r[i]?=some a→r'[i]?=some b→dE a b
structure Le where
 ts:List (Nat×AV)
 ls:List (Nat×List AV)
 os:List (Nat×List (List AV))
def Ms:List (Nat×AV)→St→(St→Prop)→Prop
 | [],S,K=>K S
 | (d,v)::xs,S,K=>rp S.t d fun a=>ce a v∧tW S.t d v fun t=>Ms xs { t:=t,l:=S.l,o:=S.o,b:=S.b } K
def J3:List (Nat×List AV)→St→(St→Prop)→Prop
 | [],S,K=>K S
 | (d,r)::xs,S,K=>match aR S.l d with
  | some row=>dE row r∧pu (vM S.l d r) fun l=>J3 xs { t:=S.t,l:=l,o:=S.o,b:=S.b } K
  | none=>ak 450
def J4:List (Nat×List (List AV))→St→(St→Prop)→Prop
 | [],S,K=>K S
 | (i,R)::xs,S,K=>match S.o[i]? with
  | some (.arr fl sz rows)=>fF rows R∧bf (S.o.set i (.arr fl sz R)) fun o=>J4 xs { t:=S.t,l:=S.l,o:=o,b:=S.b } K
  | _=>ak 451
def OG (L:Le) (S:St) (K:St→Prop):Prop:=Ms L.ts S fun S=>J3 L.ls S fun S=>J4 L.os S K
structure Bn where
 at_:Option Nat
 row:Option (List (List AV))
 ks:List AV
 cs:List (Option (List (List AV)))
structure fK where
 dem:List Nat
 chk:List Nat
 row:List (Nat×List AV)
 val:List (Nat×AV)
 call:List (Nat×AV)
 sto:List (Nat×(AV×List Ob))
 obr:List (Nat×(Nat×List (List AV)))
 mpr:List (Nat×List (AV×AV))
 own:List (Nat×Bn)
inductive PT where
 | done
 | go (i:Nat) (t:PT)
 | alt (i:Nat) (t r:PT)
def ei:List Nat→PT
 | []=>.done
 | i::is=>.go i (ei is)
def Sl:PT→List Nat
 | .done=>[0]
 | .go i t=>1::i::Sl t
 | .alt i t r=>2::i::(Sl t++Sl r)
def Ek:PT→PT→Bool
 | .done,.done=>true
 | .go i t,.go j u=>Nat.beq i j&&Ek t u
 | .alt i t r,.alt j u s=>Nat.beq i j&&(Ek t u&&Ek r s)
 | _,_=>false
structure zj where
 ord:List (Nat×PT)
 reg:List (Nat×fK)
 wr:List (Nat×Le)
 lps:List (Nat×(Wk×Le×Ex×St))
 cut:List (Nat×(Wk×Le×Ex×St))
def GH (A:zj) (id:Nat):fK :=
 match sB A.reg id with
 | some R=>R
 | none=>⟨[],[],[],[],[],[],[],[],[]⟩
def keyOf (o:Oper):Nat :=
 match o.dst with
 | some d=>d
 | none=>match o.op with
  | .store _ (.tmp t) _=>t + 1000000
  | .mapUpdate _ (.tmp t) _ _=>t + 1000000
  | .insert _ (.tmp t) _ _=>t + 1000000
  | _=>0
def DC (rows:List (List AV)) (i:Int):Option (List AV):=if 0≤i then rows[i.toNat]? else none
def HU (op:BinOp) (x y:Value) (K:Value→Prop):Prop :=
 match op,x,y with
 | .quo,.int k a,.int k' b=>(decide (k=k')&&!(b==0))=true∧K (.int k (k.wrap (a.tdiv b)))
 | .rem,.int k a,.int k' b=>(decide (k=k')&&!(b==0))=true∧K (.int k (a.tmod b))
 | .shl,.int k a,.int _ b=>decide (0≤b)=true∧K (.int k (k.wrap (a * 2 ^ (min b.toNat k.bits))))
 | .shr,.int k a,.int _ b=>decide (0≤b)=true∧K (.int k (a.fdiv (2 ^ (min b.toNat k.bits))))
 | .add,.string a,.string b=>decide (((a.size + b.size:Nat):Int)≤9223372036854775807)=true∧K (.string (a++b))
 | _,_,_=>ak 20
def HV (C:Ctx) (A:fK) (o:Oper) (op:BinOp) (t:TypeId) (x y:AV) (k:AV→Prop):Prop :=
 match x,y with
 | .v a,.v b=>match JP op a b with
  | none=>match a,b with
   | .bool x,.bool y=>B3 C.P op t x y k
   | a,b=>HU op a b fun c=>k (.v c)
  | some c=>k (.v c)
 | .agg as,.agg bs=>match vN as,vN bs with
  | some xs,some ys=>match sB A.val (keyOf o) with
   | some (.v (.bool b))=>pw C.P op t xs ys=some (.bool b)∧k (.v (.bool b))
   | _=>ak 400
  | _,_=>ak 401
 | _,_=>ak 402
def Bo (C:Ctx) (A:fK) (o:Oper) (t:TypeId) (x ix:AV) (k:AV→Prop):Prop :=
 intOf ix fun i =>
 match C.P.underlying t,x with
 | some .string,.v (.string s)=>match sB A.val (keyOf o) with
  | some (.v (.int .u8 n))=>(if 0≤i then s[i.toNat]? else none)=some (UInt8.ofNat n.toNat)∧(n=((UInt8.ofNat n.toNat).toNat:Int)∧k (.v (.int .u8 n)))
  | _=>ak 403
 | some (.array len e),.agg cs=>match C.P.info? e with
  | some inf=>(decide (0≤i)&&decide (i<len))=true∧jk C.P e cs (i.toNat * inf.size) k
  | none=>ak 404
 | _,_=>ak 405
def Mt (C:Ctx) (A:fK) (pl:bz) (o:Oper) (vs:List AV) (k:AV→Prop):Prop :=
 match fP A.chk (keyOf o) with
 | false=>pop C pl o vs k
 | true=>match o.op,vs with
  | .binOp op t _ _ _,[a,b]=>HV C A o op t a b k
  | .index t _ _,[a,i]=>Bo C A o t a i k
  | _,_=>ak 406
def Ao (len cap:Nat) (lo hi mx:Option Int) (k:Nat→Nat→Nat→Prop):Prop :=
 match lo,hi,mx with
 | none,none,none=>k 0 len cap
 | some l,none,none=>(decide (0≤l)&&decide (l≤len))=true∧k l.toNat len cap
 | none,some h,none=>(decide (0≤h)&&decide (h≤cap))=true∧k 0 h.toNat cap
 | some l,some h,none=>(decide (0≤l)&&decide (l≤h)&&decide (h≤cap))=true∧k l.toNat h.toNat cap
 | none,some h,some m=>(decide (0≤h)&&decide (h≤m)&&decide (m≤cap))=true∧k 0 h.toNat m.toNat
 | some l,some h,some m=>(decide (0≤l)&&decide (l≤h)&&decide (h≤m)&&decide (m≤cap))=true∧k l.toNat h.toNat m.toNat
 | _,_,_=>ak 63
def mP (C:Ctx) (t:TypeId) (x:AV) (lo hi mx:Option Int) (S:St) (k:AV→Prop):Prop :=
 match C.P.underlying t with
 | some .string =>
  match x,mx with
  | .v (.string s),none=>Ao s.size s.size lo hi none fun l h _=>k (.v (.string (s.extract l h)))
  | _,_=>ak 64
 | some (.slice e) =>
  match C.P.info? e with
  | some i=>bA (Nat.blt 0 i.size) (
   match x with
   | .sl rows=>cH i.size rows=true∧Ao rows.length rows.length lo hi mx fun l h _ =>
    match lo,hi,jG mx&&jG hi with
    | _,_,true=>k .esl
    | none,none,_=>k (.sl rows)
    | _,none,_=>k (.sl (rows.drop l))
    | none,_,_=>k (.sl (rows.take h))
    | _,_,_=>k (.sl ((rows.drop l).take (h - l)))
   | .mf id=>match S.o[id]? with
    | some (.arr _ sz rows)=>bA (Nat.beq sz i.size) (Ao rows.length rows.length lo hi mx fun l h m =>
     match lo,hi,jG mx&&jG hi with
     | _,_,true=>k .esl
     | none,none,_=>k (.mf id)
     | _,none,_=>k (.msl id l (rows.length - l) 0)
     | _,_,_=>k (.msl id l (h - l) (m - h)))
    | _=>ak 65
   | .msl id off len ext=>match S.o[id]? with
    | some (.arr _ sz _)=>bA (Nat.beq sz i.size) (Ao len (len + ext) lo hi mx fun l h m =>
     match jG mx&&jG hi with
     | true=>k .esl
     | false=>k (.msl id (l + off) (h - l) (m - h)))
    | _=>ak 66
   | _=>ak 67)
  | none=>ak 68
 | _=>ak 69
def p6 (C:Ctx) (row:List AV) (t:TypeId) (x ix:AV) (S:St) (k:AV→Prop):Prop :=
 intOf ix fun i =>
 match C.P.underlying t with
 | some (.slice e) =>
  match C.P.info? e with
  | some inf =>
   match x with
   | .sl rows=>DC rows i=some row∧bA (Nat.beq row.length inf.size&&Nat.blt 0 inf.size) (k (.fptr row 0))
   | .mf id=>match S.o[id]? with
    | some (.arr _ _ rows)=>DC rows i=some row∧bA (Nat.beq row.length inf.size&&Nat.blt 0 inf.size) (k (.ptr (.O id) i.toNat 0))
    | some (.own none _ cells _)=>bA (Nat.beq inf.size 1) ((decide (0≤i)&&Nat.blt i.toNat cells.length)=true∧k (.ptr (.O id) i.toNat 0))
    | _=>ak 72
   | .msl id off len _=>match S.o[id]? with
    | some (.arr _ _ rows)=>(decide (0≤i)&&decide (i<len))=true∧(rows[i.toNat + off]?=some row∧bA (Nat.beq row.length inf.size&&Nat.blt 0 inf.size) (k (.ptr (.O id) (i.toNat + off) 0)))
    | _=>ak 74
   | _=>ak 75
  | none=>ak 76
 | some (.array len e) =>
  match C.P.info? e with
  | some inf=>(decide (0≤i)&&decide (i<len))=true∧(
   match x with
   | .ptr key a j=>k (.ptr key a (i.toNat * inf.size + j))
   | .fptr row j=>k (.fptr row (i.toNat * inf.size + j))
   | _=>ak 77)
  | none=>ak 78
 | _=>ak 79
def wx (C:Ctx) (A:fK) (o:Oper) (fid:Nat) (as:List AV) (k:AV→Prop):Prop :=
 match sB A.call (keyOf o) with
 | some r=>(C.pcall fid as fun x=>x=r)∧k r
 | none=>C.pcall fid as k
def Mu (C:Ctx) (A:fK) (o:Oper) (vs:List AV) (M:St) (k:AV→Prop):Prop :=
 match o.op,vs with
 | .load t _,[p]=>match sB A.row (keyOf o) with
  | some row=>match p with
   | .ptr (.O id) i j=>match M.o[id]? with
    | some (.arr _ _ rows)=>rows[i]?=some row∧jk C.P t row j k
    | _=>ak 410
   | _=>ak 411
  | none=>sE C o vs M k
 | .slice t _ lo hi mx,a::rest=>match fP A.chk (keyOf o) with
  | false=>sE C o vs M k
  | true=>match lo,hi,mx,rest with
   | none,none,none,[]=>mP C t a none none none M k
   | some _,none,none,[x]=>intOf x fun x=>mP C t a (some x) none none M k
   | none,some _,none,[y]=>intOf y fun y=>mP C t a none (some y) none M k
   | some _,some _,none,[x,y]=>intOf x fun x=>intOf y fun y=>mP C t a (some x) (some y) none M k
   | none,some _,some _,[y,z]=>intOf y fun y=>intOf z fun z=>mP C t a none (some y) (some z) M k
   | some _,some _,some _,[x,y,z]=>intOf x fun x=>intOf y fun y=>intOf z fun z=>mP C t a (some x) (some y) (some z) M k
   | _,_,_,_=>ak 202
 | .indexAddr t _ _,[a,i]=>match sB A.row (keyOf o) with
  | some row=>p6 C row t a i M k
  | none=>sE C o vs M k
 | .lookup t _ _ ok,[m,key]=>match sB A.call (keyOf o) with
  | some a=>match C.P.underlying t,m with
   | some (.map kt e),.mp id=>match M.o[id]? with
    | some (.mapo _ es)=>(∀ k':AV→Prop,k' a→cU C.P kt key es fun _ r=>fj C.P e ok es r k')∧k a
    | _=>ak 412
   | _,_=>ak 413
  | none=>sE C o vs M k
 | .call c,vs=>match c.callee with
  | .value _=>match vs with
   | .fn fid first cap::as=>bA (C.pure fid) (jH M.o (first++as++cap) fun bs=>wx C A o fid bs fun r=>bA (wM 4 r||((first++as++cap).flatMap (dX M.o 6)).isEmpty) (k r))
   | _=>ak 205
  | _=>sE C o vs M k
 | _,_=>sE C o vs M k
def Bp (S:St) (row:List AV) (a:AV) (cs:List AV) (K:St→Prop):Prop :=
 match a with
 | .ptr (.O id) i j =>
  match S.o[id]? with
  | some (.arr fl sz rows)=>rows[i]?=some row∧bA (Nat.ble (j + cs.length) row.length&&cs.all (wm 4)) (ji (splice row j cs) fun row'=>bf (S.o.set id (.arr (fl&&cs.all (dv 4)) sz (rows.set i row'))) fun o=>K { t:=S.t,l:=S.l,o:=o,b:=S.b })
  | _=>ak 18
 | _=>ak 19
def J5 (C:Ctx) (A:fK) (o:Oper) (vs:List AV) (M:St) (k:AV→St→Prop):Prop :=
 match sB A.row (keyOf o) with
 | none=>zG C o vs M k
 | some row=>match o.op,vs with
  | .store t _ _,[p,y]=>match p with
   | .ptr (.O _) _ _=>nV y fun cs=>match C.P.info? t with
    | some i=>bA (Nat.beq cs.length i.size) (Bp M row p cs fun M'=>k .bad M')
    | none=>ak 208
   | _=>zG C o vs M k
  | _,_=>zG C o vs M k
def xW (size:Nat) (S:St) (x:AV) (k:Bool→List (List AV)→Prop):Prop :=
 match x with
 | .nilsl | .esl=>k true []
 | .sl rows=>cH size rows=true∧k true rows
 | .mf id=>match S.o[id]? with | some (.arr fl sz rows)=>bA (Nat.beq sz size) (k fl rows) | _=>ak 45
 | .msl id off len _=>match S.o[id]? with | some (.arr fl sz rows)=>bA (Nat.beq sz size) (k fl ((rows.drop off).take len)) | _=>ak 46
 | .v (.string s)=>bA (Nat.beq size 1) (k true (s.data.toList.map fun b=>[.v (.int .u8 b.toNat)]))
 | _=>ak 47
def xX (P:Program) (ts:List TypeId) (base x:AV) (S:St) (k:St→AV→Prop):Prop :=
 match ts with
 | [t0,t1] =>
  match P.underlying t0 with
  | some (.slice e) =>
   match P.info? e with
   | some i=>bA (Nat.blt 0 i.size&&Nat.blt 0 i.bytes&&Lr i&&(match P.underlying t1 with | some (.slice _) | some .string=>true | _=>false)) (xW i.size S x fun fl src=>aT src=true∧(
     match base with
     | .nilsl | .esl=>Nat.ble (src.length * i.bytes) 140737488355328=true∧(bf (S.o++[.arr fl i.size src]) fun o=>k { t:=S.t,l:=S.l,o:=o,b:=S.b } (.mf S.o.length))
     | .mf id=>match S.o[id]? with
      | some (.arr fl' sz rows)=>bA (Nat.beq sz i.size&&(fl||!fl')) (Nat.ble ((rows.length + src.length) * i.bytes) 140737488355328=true∧qT S id (.arr (fl'&&fl) sz (rows++src)) fun S' id'=>k S' (.mf id'))
      | _=>ak 48
     | .msl id off len ext=>match S.o[id]? with
      | some (.arr fl' sz rows)=>bA (Nat.beq sz i.size&&(fl||!fl')) (Nat.ble src.length ext=true∧(Nat.ble (off + len + ext) rows.length=true ∧
        bf (S.o.set id (.arr (fl'&&fl) sz (rows.take (off + len)++(src++rows.drop (off + len + src.length))))) fun o=>k { t:=S.t,l:=S.l,o:=o,b:=S.b } (.msl id off (len + src.length) (ext - src.length))))
      | _=>ak 49
     | _=>ak 50))
   | none=>ak 51
  | _=>ak 52
 | _=>ak 53
def uD (P:Program) (ts:List TypeId) (base x:AV) (k:AV→Prop):Prop :=
 match ts with
 | [t0,t1] =>
  match P.underlying t0 with
  | some (.slice e) =>
   match P.info? e with
   | some i=>bA (Nat.blt 0 i.size&&Nat.blt 0 i.bytes&&Lr i&&(match P.underlying t1 with | some (.slice _) | some .string=>true | _=>false)) (xW i.size Si x fun fl src=>bA fl (aT src=true∧(Nat.ble (src.length * i.bytes) 140737488355328=true∧(
     match base with
     | .nilsl | .esl=>k (.sl src)
     | _=>ak 254))))
   | none=>ak 255
  | _=>ak 256
 | _=>ak 257
def Mv (C:Ctx) (o:Oper) (vs:List AV) (k:AV→Prop):Prop :=
 match o.op,vs with
 | .call c,[x,y]=>match c.callee with
  | .builtin .append=>uD C.P c.argTypes.toList x y k
  | _=>ak 258
 | _,_=>ak 259
def uE (P:Program) (ts:List TypeId) (base:AV) (n:Int) (S:St) (k:St→AV→Prop):Prop :=
 match ts with
 | [t0,t1] =>
  match P.underlying t0,P.underlying t1 with
  | some (.slice e),some (.int _) =>
   match P.info? e with
   | some i=>(Nat.blt 0 i.size&&Nat.blt 0 i.bytes&&decide (0<n)&&decide (n * i.bytes≤140737488355328)&&decide (n≤140737488355328))=true∧(cP P e fun z=>bA (z.all (dv 2)) (
     match base with
     | .nilsl | .esl=>bf (S.o++[.arr true i.size (List.replicate n.toNat z)]) fun o=>k { t:=S.t,l:=S.l,o:=o,b:=S.b } (.mf S.o.length)
     | _=>ak 250))
   | none=>ak 251
  | _,_=>ak 252
 | _=>ak 253
def mQ (P:Program) (t:TypeId) (l c:AV) (S:St) (k:St→AV→Prop):Prop :=
 match P.underlying t with
 | some (.slice e) =>
  match P.info? e with
  | some i=>intOf l fun l=>intOf c fun c=>(decide (0≤l)&&decide (l≤c)&&decide (i.bytes * c≤140737488355328)&&decide (c≤140737488355328)&&Nat.blt 0 i.size)=true ∧
    (cP P e fun z=>bA (z.all (dv 2)) (bf (S.o++[.arr true i.size (List.replicate l.toNat z)]) fun o=>k { t:=S.t,l:=S.l,o:=o,b:=S.b } (.mf S.o.length)))
  | none=>ak 61
 | _=>ak 62
def El (P:Program) (ts:List TypeId) (x y:AV) (M:St) (k:AV→St→Prop):Prop :=
 match ts with
 | t::_ =>
  match P.underlying t with
  | some (.slice e) =>
   match P.info? e with
   | some i=>bA (Nat.blt 0 i.size) (xW i.size M y fun fl src=>aT src=true∧bA (!(OP y)) (
     match x with
     | .mf id=>match M.o[id]? with
      | some (.arr fl' sz rows)=>bA (Nat.beq sz i.size) (bf (M.o.set id (.arr (fl'&&fl) sz (src.take rows.length++rows.drop src.length))) fun o=>k (.v (.int .i64 ((min src.length rows.length:Nat):Int))) { t:=M.t,l:=M.l,o:=o,b:=M.b })
      | _=>ak 243
     | .msl id off len _=>match M.o[id]? with
      | some (.arr fl' sz rows)=>bA (Nat.beq sz i.size) (Nat.ble (off + len) rows.length=true∧(bf (M.o.set id (.arr (fl'&&fl) sz (rows.take off++(src.take len++rows.drop (off + min src.length len))))) fun o=>k (.v (.int .i64 ((min src.length len:Nat):Int))) { t:=M.t,l:=M.l,o:=o,b:=M.b }))
      | _=>ak 244
     | _=>ak 245))
   | none=>ak 246
  | _=>ak 247
 | []=>ak 248
def Em (C:Ctx) (A:fK) (o:Oper) (f:AV) (args:List AV) (S:St) (k:St→AV→Prop):Prop :=
 match f with
 | .fn fid first cap =>
  match C.pure fid with
  | true=>jH S.o (first++args++cap) fun as=>wx C A o fid as fun r =>
    match wM 4 r with
    | true=>k S r
    | false=>gW ((first++args++cap).flatMap (dX S.o 6)) S fun S'=>k S' r
  | false=>bA ((first++args++cap).all (wm 4)) (match sB A.sto (keyOf o) with
   | some (r,o')=>(C.scall fid (first++args++cap) S.o fun r' o''=>r'=r∧o''=o')∧kW (bR S.o o' 0) S.t S.l fun t l=>k { t:=t,l:=l,o:=o',b:=S.b } r
   | none=>C.scall fid (first++args++cap) S.o fun r o'=>kW (bR S.o o' 0) S.t S.l fun t l=>k { t:=t,l:=l,o:=o',b:=S.b } r)
 | _=>ak 97
def mR (P:Program) (R:List (AV×AV)) (t:TypeId) (m key x:AV) (S:St) (K:St→Prop):Prop :=
 match P.underlying t with
 | some (.map kt _) =>
  match m with
  | .mp id=>match S.o[id]? with
   | some (.mapo fl es)=>bA (wm 4 x) ((∀ K':List (AV×AV)→Prop,K' R→cU P kt key es fun kv r=>bA (ru P kt kv) (
     match r with
     | some i=>bA (Instr.sameBits 10000 ((es[i]?.bind fun e=>u9 e.1).getD (.bool false)) kv) (K' (es.set i (key,x)))
     | none=>K' (es++[(key,x)])))∧bf (S.o.set id (.mapo (fl&&dv 4 x) R)) fun o=>K { t:=S.t,l:=S.l,o:=o,b:=S.b })
   | _=>ak 106
  | _=>ak 107
 | _=>ak 108
def J6 (C:Ctx) (A:fK) (pl:bz) (o:Oper) (S:St) (K:St→Prop):Prop :=
 match o.op with
 | .mapUpdate t m key x=>match sB A.mpr (keyOf o) with
  | some R=>cL S m fun m=>cL S key fun key=>cL S x fun x=>mR C.P R t m key x S fun S'=>bG o.dst .bad S' K
  | none=>yS C pl o S K
 | .insert t m key x=>match sB A.mpr (keyOf o) with
  | some R=>cL S m fun m=>cL S key fun key=>cL S x fun x=>mR C.P R t m key x S fun S'=>bG o.dst .bad S' K
  | none=>yS C pl o S K
 | .makeSlice t l c=>match fP A.chk (keyOf o) with
  | true=>cL S l fun l=>cL S c fun c=>mQ C.P t l c S fun S' a=>bG o.dst a S' K
  | false=>yS C pl o S K
 | .call c=>match c.callee with
  | .builtin .append=>match fP A.chk (keyOf o) with
   | true=>dH S c.args.toList fun as=>match as with
    | [x,.v (.int _ n)]=>uE C.P c.argTypes.toList x n S fun S' r=>bG o.dst r S' K
    | [x,y]=>xX C.P c.argTypes.toList x y S fun S' r=>bG o.dst r S' K
    | _=>ak 210
   | false=>yS C pl o S K
  | .builtin .copy=>dH S c.args.toList fun as=>match as with
    | [x,y]=>El C.P c.argTypes.toList x y S fun r S'=>bG o.dst r S' K
    | _=>ak 249
  | .value f=>cL S f fun fv=>dH S c.args.toList fun as=>Em C A o fv as S fun S' r=>bG o.dst r S' K
  | _=>yS C pl o S K
 | _=>yS C pl o S K
def Lw (A:fK) (dst:Option Tmp) (S:St) (K:St→Prop):Prop :=
 match dst with
 | none=>K S
 | some d=>match sB A.val d with
  | none=>K S
  | some v=>rp S.t d fun a=>a=v∧tW S.t d v fun t=>K { t:=t,l:=S.l,o:=S.o,b:=S.b }
def HW (A:fK) (key:Nat) (S:St) (K:St→Prop):Prop :=
 match sB A.obr key with
 | none=>K S
 | some (id,R)=>match S.o[id]? with
  | some (.arr fl sz rows)=>rows=R∧bf (S.o.set id (.arr fl sz R)) fun o=>K { t:=S.t,l:=S.l,o:=o,b:=S.b }
  | _=>ak 430
def HX (C:Ctx) (A:fK) (pl:bz) (o:Oper) (S:St) (K:St→Prop):Prop :=
 dH S o.op.operands.toList fun vs=>Mt C A pl o vs fun r=>bG o.dst r S K
def HY (C:Ctx) (A:fK) (o:Oper) (S:St) (K:St→Prop):Prop :=
 dH S o.op.operands.toList fun vs=>Mu C A o vs (cV S) fun r=>bG o.dst r S K
def Lx (C:Ctx) (A:fK) (o:Oper) (S:St) (K:St→Prop):Prop :=
 dH S o.op.operands.toList fun vs=>J5 C A o vs (cV S) fun r M=>bG o.dst r (gr S M) K
def qF (row:Option (List (List AV))) (M:St) (id i:Nat) (k:AV→St→Prop):Prop :=
 match M.o[id]? with
 | some (.own ks sz cells none)=>match row with
  | none=>cells[i]?=some none∧k .nilsl M
  | some rows=>cells[i]?=some (some rows)∧bf (M.o.set id (.own ks sz cells (some (i,.mf M.o.length)))++[.arr true sz rows]) fun o=>k (.mf M.o.length) { t:=M.t,l:=M.l,o:=o,b:=M.b }
 | _=>ak 323
def uF (P:Program) (a:Bn) (t:TypeId) (same:Bool) (M:St) (id i:Nat) (k:AV→St→Prop):Prop :=
 match same with
 | true=>match M.o[id]? with
  | some (.own none _ cells (some (j,a)))=>(Nat.beq i j&&Nat.blt j cells.length)=true∧jk P t [a] 0 fun r=>k r M
  | _=>ak 324
 | false=>qF a.row M id i fun a M'=>jk P t [a] 0 fun r=>k r M'
def rZ (P:Program) (t:TypeId) (M:St) (id i:Nat) (v:AV) (K:St→Prop):Prop :=
 match P.info? t,M.o[id]? with
 | some inf,some (.own none sz cells hole)=>bA (t_ v&&Nat.beq inf.size 1) ((Nat.blt i cells.length&&cX hole i)=true∧(bf (M.o.set id (.own none sz cells (some (i,v)))) fun o=>K { t:=M.t,l:=M.l,o:=o,b:=M.b }))
 | _,_=>ak 325
def uG (P:Program) (a:Bn) (t:TypeId) (l c:AV) (M:St) (k:AV→St→Prop):Prop :=
 match P.underlying t with
 | some (.slice e) =>
  match P.info? e,P.underlying e with
  | some i,some (.slice e2)=>match P.info? e2 with
   | some i2=>intOf l fun l=>intOf c fun c=>(decide (0≤l)&&decide (l≤c)&&decide (i.bytes * c≤140737488355328)&&decide (c≤140737488355328)&&Nat.blt 0 i.size)=true∧bA (Nat.beq i.size 1&&Nat.blt 0 i2.size)
     (cP P e fun z=>match z with
      | [.nilsl]=>List.replicate l.toNat none=a.cs∧bf (M.o++[.own none i2.size a.cs none]) fun o=>k (.mf M.o.length) { t:=M.t,l:=M.l,o:=o,b:=M.b }
      | _=>ak 325)
   | none=>ak 326
  | _,_=>ak 61
 | _=>ak 62
def uH (P:Program) (a:Bn) (t:TypeId) (m key:AV) (ok:Bool) (M:St) (k:AV→St→Prop):Prop :=
 match P.underlying t with
 | some (.map kt e)=>match m with
  | .mp id=>match M.o[id]? with
   | some (.own (some ks) _ _ none)=>match a.at_ with
    | some i=>(∀ K':Option Nat→Prop,K' (some i)→cU P kt key (fD ks) fun _ r=>K' r)∧qF a.row M id i fun a M'=>pz ok a true fun r=>k r M'
    | none=>(∀ K':Option Nat→Prop,K' none→cU P kt key (fD ks) fun _ r=>K' r)∧jl P e ok fun r=>k r M
   | _=>ak 333
  | _=>ak 334
 | _=>ak 335
def OU (M:St) (id sz:Nat) (cells:List (Option (List (List AV)))) (hole:Option (Nat×AV)) (x:AV) (K:St→Prop) (r:Option Nat) (ks:List AV):Prop :=
 match r with
 | some i=>cX hole i=true∧(bf (M.o.set id (.own (some ks) sz cells (some (i,x)))) fun o=>K { t:=M.t,l:=M.l,o:=o,b:=M.b })
 | none=>match hole with
  | none=>bf (M.o.set id (.own (some ks) sz (cells++[none]) (some (cells.length,x)))) fun o=>K { t:=M.t,l:=M.l,o:=o,b:=M.b }
  | some _=>ak 339
def ta (P:Program) (a:Bn) (t:TypeId) (m key x:AV) (M:St) (K:St→Prop):Prop :=
 match P.underlying t with
 | some (.map kt _)=>match m with
  | .mp id=>match M.o[id]? with
   | some (.own (some ks) sz cells hole)=>bA (t_ x) ((∀ K':Option Nat→List AV→Prop,K' a.at_ a.ks→cU P kt key (fD ks) fun kv r=>bA (ru P kt kv) (match r with
     | some i=>bA (Instr.sameBits 10000 ((ks[i]?.bind u9).getD (.bool false)) kv) (K' (some i) (ks.set i key))
     | none=>K' none (ks++[key])))∧OU M id sz cells hole x K a.at_ a.ks)
   | _=>ak 340
  | _=>ak 341
 | _=>ak 342
def Ft (P:Program) (A:fK) (pl:bz) (o:Oper) (vs:List AV) (M:St) (k:AV→St→Prop):Prop :=
 match sB A.own (keyOf o) with
 | none=>mz P pl o vs M k
 | some a=>match o.op,vs with
  | .load t _,[p]=>jU M p fun id i=>uF P a t (Fa pl o) M id i k
  | .store t _ _,[p,v]=>jU M p fun id i=>rZ P t M id i v fun M'=>k .bad M'
  | .makeSlice t _ _,[l,c]=>uG P a t l c M k
  | .lookup t _ _ ok,[m,key]=>uH P a t m key ok M k
  | .mapUpdate t _ _ _,[m,key,x]=>ta P a t m key x M fun M'=>k .bad M'
  | .insert t _ _ _,[m,key,x]=>ta P a t m key x M fun M'=>k .bad M'
  | _,_=>ak 343
def uI (A:fK) (S:St) (id:Nat) (K:St→Prop):Prop :=
 match sB A.own (id + 2000000) with
 | none=>jm S id K
 | some a=>match S.o[id]? with
  | some (.own ks sz cells (some (j,.mf k)))=>match S.o[k]? with
   | some (.arr true sz' rows)=>bA (Nat.beq sz' sz) (Nat.blt j cells.length=true∧(cells.set j (some rows)=a.cs∧gW [k] S fun S1=>bf (S1.o.set id (.own ks sz a.cs none)) fun o=>K { t:=S1.t,l:=S1.l,o:=o,b:=S1.b }))
   | _=>ak 320
  | some (.own ks sz cells (some (j,.nilsl)))=>Nat.blt j cells.length=true∧(cells.set j none=a.cs∧(bf (S.o.set id (.own ks sz a.cs none)) fun o=>K { t:=S.t,l:=S.l,o:=o,b:=S.b }))
  | _=>ak 321
def xY (A:fK):List Nat→St→(St→Prop)→Prop
 | [],S,K=>K S
 | id::ids,S,K=>uI A S id fun S'=>xY A ids S' K
def xZ (A:fK) (S:St) (id:Nat) (K:St→Prop):Prop :=
 match sB A.mpr (id + 2000000) with
 | none=>lw S id K
 | some R=>match S.o[id]? with
  | some (.own (some ks) _ cells none)=>mI ks cells=R∧(bf (S.o.set id (.mapo true R)) fun o=>K { t:=S.t,l:=S.l,o:=o,b:=S.b })
  | _=>ak 344
def uJ (A:fK):List Nat→St→(St→Prop)→Prop
 | [],S,K=>K S
 | id::ids,S,K=>xZ A S id fun S'=>uJ A ids S' K
def x_ (A:fK) (pl:bz) (id:Nat) (S:St) (K:St→Prop):Prop :=
 match fP pl.cl id with
 | false=>K S
 | true=>xY A (Hj S.o.length) S fun S1=>match fP pl.fr id with
  | false=>K S1
  | true=>uJ A (Hj S1.o.length) S1 K
def En (C:Ctx) (A:fK) (o:Oper) (vs:List AV) (M:St) (k:AV→St→Prop):Prop :=
 match o.op,vs with
 | .makeSlice t _ _,[l,c]=>match fP A.chk (keyOf o) with
  | true=>mQ C.P t l c M fun M' r=>k r M'
  | false=>mK C o vs M k
 | .call c,.fn fid first cap::as=>match c.callee with
  | .value _=>bA (!(C.pure fid)&&(first++as++cap).all (wm 4)) (match sB A.sto (keyOf o) with
   | some (r,o')=>(C.scall fid (first++as++cap) M.o fun r' o''=>r'=r∧o''=o')∧bA (bR M.o o' 0).isEmpty (k r { t:=M.t,l:=M.l,o:=o',b:=M.b })
   | none=>C.scall fid (first++as++cap) M.o fun r o'=>bA (bR M.o o' 0).isEmpty (k r { t:=M.t,l:=M.l,o:=o',b:=M.b }))
  | _=>ak 310
 | _,_=>J5 C A o vs M k
def HZ (C:Ctx) (A:fK) (pl:bz) (o:Oper) (vs:List AV) (M:St) (k:AV→St→Prop):Prop :=
 match gJ pl o with
 | true=>Ft C.P A pl o vs M k
 | false=>En C A o vs M k
def Ly (C:Ctx) (A:fK) (pl:bz) (o:Oper) (S:St) (K:St→Prop):Prop :=
 dH S o.op.operands.toList fun vs=>Ft C.P A pl o vs (cV S) fun r M=>bG o.dst r (gr S M) K
def H0 (C:Ctx) (A:fK) (pl:bz) (o:Oper) (S:St) (K:St→Prop):Prop :=
 dH S o.op.operands.toList fun vs=>HZ C A pl o vs (cV S) fun r M=>bG o.dst r (gr S M) K
def Lz (C:Ctx) (o:Oper) (S:St) (K:St→Prop):Prop :=
 dH S o.op.operands.toList fun vs=>Mv C o vs fun r=>bG o.dst r S K
def pi (A:fK) (o:Oper) (K:St→Prop) (S:St):Prop:=Lw A o.dst S fun S'=>HW A (keyOf o) S' K
def Mw (C:Ctx) (A:fK) (pl:bz) (o:Oper) (S:St) (K:St→Prop):Prop :=
 match Hl o with
 | 0=>HX C A pl o S (pi A o K)
 | 1=>HY C A o S (pi A o K)
 | 2=>Lx C A o S (pi A o K)
 | _=>J6 C A pl o S (pi A o K)
def OV (C:Ctx) (A:fK) (pl:bz) (o:Oper) (S:St) (K:St→Prop):Prop :=
 match gJ pl o with
 | true=>Ly C A pl o S (pi A o K)
 | false=>Mw C A pl o S K
def H1 (C:Ctx) (A:fK) (pl:bz) (o:Oper) (S:St) (K:St→Prop):Prop :=
 match gC pl o with
 | 0=>HX C A pl o S (pi A o K)
 | 1=>HY C A o S (pi A o K)
 | 2=>H0 C A pl o S (pi A o K)
 | 4=>match o.dst with
  | some d=>bG o.dst (.ptr (.L d) 0 0) S K
  | none=>ak 217
 | 5=>Lz C o S (pi A o K)
 | _=>match B6 pl o with
  | true=>ak 219
  | false=>J6 C A pl o S (pi A o K)
def OW (op:BinOp):Bool :=
 match op with
 | .eql | .neq=>true
 | _=>false
def Fu (op:BinOp):Bool :=
 match op with
 | .eql=>true
 | _=>false
def LA (P:Program) (o:Oper) (S:St) (K:St→Prop):Prop :=
 match o.op with
 | .binOp op t x (.const (.slice none 0 0)) _=>match P.underlying t with
  | some (.slice _)=>cL S x fun a=>match a with
   | .sl rows=>bA (OW op) ((rows=[]→bG o.dst (.v (.bool (Fu op))) S K)∧bG o.dst (.v (.bool (!(Fu op)))) S K)
   | _=>ak 460
  | _=>ak 461
 | _=>ak 462
def Bq (C:Ctx) (A:fK) (pl:bz) (all:Array Oper):List Oper→St→(St→Prop)→Prop
 | [],S,K=>K S
 | o::rest,S,K =>
  match o.guard with
  | none=>match fP A.dem (keyOf o) with
   | true=>LA C.P o S fun S'=>Bq C A pl all rest S' K
   | false=>OV C A pl o S fun S'=>Bq C A pl all rest S' K
  | some (j,want) =>
   match wR all j with
   | none=>ak 218
   | some d=>jp d S fun b S1=>gsel b want (OV C A pl o S1 fun S'=>Bq C A pl all rest S' K) (bG o.dst (.tup []) S1 fun S'=>Bq C A pl all rest S' K)
def SG (C:Ctx) (A:fK) (pl:bz) (all:Array Oper) (o:Oper) (S:St) (K:St→Prop):Prop :=
 match o.guard with
 | none=>bA (m5 pl all o S) (H1 C A pl o S K)
 | some (j,want) =>
  match wR all j with
  | none=>ak 218
  | some d=>jp d S fun b S1=>gsel b want (bA (m5 pl all o S1) (H1 C A pl o S1 K)) (bG o.dst (.tup []) S1 K)
def OH (C:Ctx) (A:fK) (pl:bz) (ops:Array Oper) (i:Nat) (S:St) (K:St→Prop):Prop :=
 match ops[i]? with
 | none=>ak 303
 | some o=>SG C A pl ops o S K
def oT (C:Ctx) (A:fK) (pl:bz) (ops:Array Oper):PT→Option (St×Prop)→St→(St→Prop)→Prop
 | .done,m,S,K=>match m with
  | none=>K S
  | some (_,X)=>X
 | .go i t,m,S,K=>match m with
  | none=>OH C A pl ops i S fun S'=>oT C A pl ops t none S' K
  | some (_,_)=>ak 305
 | .alt i t r,m,S,K=>match m with
  | none=>OH C A pl ops i S fun S'=>oT C A pl ops t none S' fun S1=>oT C A pl ops r (some (S1,K S1)) S K
  | some (S1,X)=>OH C A pl ops i S fun S'=>oT C A pl ops t none S' fun S2=>S2=S1∧oT C A pl ops r (some (S1,X)) S K
def Ap (f:Nat→Option PT):List Nat→Option PT
 | []=>some .done
 | i::is=>match f i with
  | some t=>match Ap f is with
   | some r=>some (.alt i t r)
   | none=>none
  | none=>none
def UX:List Nat→Bool
 | [_,_] | [_,_,_] | [_,_,_,_]=>true
 | _=>false
def p7 (pl:bz) (ops:Array Oper) (ws:List Nat):Nat→Nat→Array Bool→Option PT
 | 0,_,listed=>match Region.ready .any ops listed with
  | []=>some .done
  | _::_=>none
 | n + 1,a,listed =>
  match Region.ready .any ops listed with
  | []=>some .done
  | r::rs=>match pB pl ops ws listed (r::rs) with
   | some k=>match p7 pl ops ws n a (listed.setIfInBounds k true) with | some t=>some (.go k t) | none=>none
   | none=>match rs with
    | []=>match p7 pl ops ws n a (listed.setIfInBounds r true) with | some t=>some (.go r t) | none=>none
    | _::_=>match UX (r::rs),a with
     | true,a + 1=>Ap (fun i=>p7 pl ops ws n a (listed.setIfInBounds i true)) (r::rs)
     | _,_=>none
def Fv (pl:bz) (ops:Array Oper) (ws:List Nat):Nat→Array Bool→Option PT
 | 0,listed=>p7 pl ops ws 0 6 listed
 | n + 1,listed=>match pC ops listed (Region.ready .any ops listed) with
  | some i=>match Fv pl ops ws n (listed.setIfInBounds i true) with | some t=>some (.go i t) | none=>none
  | none=>p7 pl ops ws (n + 1) 6 listed
def Br (pl:bz) (ops:Array Oper):Option PT :=
 match Sj ops with
 | false=>none
 | true=>match pl.cl with
  | []=>p7 pl ops (bS ops.toList []) ops.size 3 (Array.replicate ops.size false)
  | _::_=>Fv pl ops (bS ops.toList []) ops.size (Array.replicate ops.size false)
def TX (pl:bz) (ops:Array Oper):Option (List Nat) :=
 match Br pl ops with
 | some t=>some (Sl t)
 | none=>none
def ax (pl:bz) (ord:List (Nat×PT)):Code→Bool
 | .region id ops true=>match sB ord id,Br pl ops with
  | some is,some js=>Ek is js
  | _,_=>false
 | .seq a b=>ax pl ord a&&ax pl ord b
 | .cond _ a b=>ax pl ord a&&ax pl ord b
 | .block _ c=>ax pl ord c
 | .loop c=>ax pl ord c
 | _=>true
def ya:Code→Nat
 | .region id _ _=>id
 | .seq a _=>ya a
 | .cond _ a _=>ya a
 | .block _ c=>ya c
 | .loop c=>ya c
 | _=>0
def GI (A:zj) (id:Nat) (S:St) (K:St→Prop):Prop :=
 match sB A.wr id with
 | some L=>OG L S K
 | none=>K S
def yb:Type:=Code→St→(Ex→St→Prop)→Prop
def vy (C:Ctx) (cd:yb) (A:zj) (pl:bz):Code→St→(Ex→St→Prop)→Prop
 | .skip,S,K=>K .nrm S
 | .region id ops draw,S,K =>
  match draw with
  | false=>Bq C (GH A id) pl ops ops.toList S fun S'=>x_ (GH A id) pl id S' fun S''=>GI A id S'' (K .nrm)
  | true=>match sB A.ord id with
   | some is=>bA (zI pl ops) (B8 C.P (cY ops.toList) S fun S1=>oT C (GH A id) pl ops is none S1 fun S'=>nz (cY ops.toList) S' (x_ (GH A id) pl id S' fun S''=>GI A id S'' (K .nrm)))
   | none=>ak 440
 | .seq a b,S,K=>vy C cd A pl a S fun e S'=>match e with
  | .nrm=>match sB A.cut (ya b) with
   | some (W,L,e1,S1)=>OG L (wk W S') fun S2=>cd b S2 (fun e' S3=>e'=e1∧S3=S1)∧K e1 S1
   | none=>vy C cd A pl b S' K
  | .ex i=>K (.ex i) S'
  | .ret=>K .ret S'
 | .cond c x y,S,K=>rq c S fun b S'=>match b with
  | true=>vy C cd A pl x S' K
  | false=>vy C cd A pl y S' K
 | .block id c,S,K=>vy C cd A pl c S fun e S'=>match e with
  | .ex i=>match Nat.beq i id with | true=>K .nrm S' | false=>K (.ex i) S'
  | .nrm=>K .nrm S'
  | .ret=>K .ret S'
 | .loop c,S,K=>match sB A.lps (ya c) with
  | some (W,L,e,S1)=>OG L (wk W S) fun S2=>(C.loop pl c S2 fun e' S'=>e'=e∧S'=S1)∧K e S1
  | none=>C.loop pl c S K
 | .exit id,S,K=>K (.ex id) S
 | .ret,S,K=>K .ret S
 | _,_,_=>ak 119
def sub:Code→List Nat→Code
 | c,[]=>c
 | .seq a _,0::p=>sub a p
 | .seq _ b,_::p=>sub b p
 | .cond _ a _,0::p=>sub a p
 | .cond _ _ b,_::p=>sub b p
 | .block _ c,_::p=>sub c p
 | .loop c,_::p=>sub c p
 | c,_=>c
def aj (P:Program) (f:Nat):Code :=
 match P.funcs[f]? with
 | some fn=>fn.body.getD .skip
 | none=>.skip
def Fw (C:Ctx) (cd:yb) (A:zj) (f:Nat) (args:List AV) (o:List Ob) (K:AV→St→Prop):Prop :=
 match C.P.funcs[f]? with
 | some fn=>match fn.body with
  | some c=>vy C cd A (C.pol f) c { t:=args++AP (fn.ntmps - args.length),l:=[],o:=o,b:=o.length } fun e S =>
    match e with
    | .ex _=>ak 120
    | _=>yU C.P S fn.results.toList fun rs=>B9 rs fun r=>K r S
  | none=>ak 121
 | none=>ak 122
def Fx (C:Ctx) (cd:yb) (A:zj) (f:Nat) (args:List AV) (K:AV→Prop):Prop :=
 Fw C cd A f args [] fun r S=>AJ S.o r K
def Eo (C:Ctx) (cd:yb) (A:zj) (f:Nat) (args:List AV) (o:List Ob) (K:AV→List Ob→Prop):Prop :=
 Fw C cd A f args o fun r S=>bA (wm 4 r&&Nat.beq S.b o.length) (K r S.o)
def fE (S S':St):Prop:=∀ (G:Gh) (E:Env) (a:Act) (w:World),ap G pn E S w→TR E S.t a→∃ E',ap G pn E' S' w∧TR E' S'.t a
def Mx:Ex→Nat
 | .nrm=>0
 | .ret=>1
 | .ex i=>i + 2
def yc (C:Ctx) (cd:yb) (A:zj) (pl:bz) (we:List (Nat×(Wk×Le))) (c:Code) (S:St) (K:Ex→St→Prop):Prop :=
 vy C cd A pl c S fun e S'=>match sB we (Mx e) with
  | some (W,L)=>OG L (wk W S') (K e)
  | none=>K e S'
def My:List (Nat×AV)→List AV→List AV
 | [],t=>t
 | (d,a)::xs,t=>My xs (t.set d a)
def TY:List (Nat×AV)→Nat→Nat→List AV
 | _,_,0=>[]
 | xs,i,n + 1=>(match sB xs i with | some a=>a | none=>.bad)::TY xs (i + 1) n
def ba (n:Nat) (ts:List (Nat×AV)) (l:List (Nat×List AV)) (o:List Ob) (b:Nat):St:={ t:=TY ts 0 n,l:=l,o:=o,b:=b }
theorem fE.refl (S:St):fE S S:=fun _ E _ _ h k=>⟨E,h,k⟩
theorem fE.trans {S S' S'':St} (h:fE S S') (k:fE S' S''):fE S S'':=fun G E a w hM ht=>by
 obtain ⟨E1,h1,h2⟩:=h G E a w hM ht
 exact k G E1 a w h1 h2
theorem ce.refl (a:AV):ce a a:=fun _ _ h=>h
theorem ce.ofEq {a b:AV} (h:a=b):ce a b:=by rw [h]; exact .refl _
theorem ce.trans {a b c:AV} (h:ce a b) (k:ce b c):ce a c:=fun _ _ hv=>k _ _ (h _ _ hv)
theorem ce.bad (a:AV):ce a .bad:=fun _ _ _=>.bad _ _
theorem ce.nil:ce .nilsl (.sl []):=fun E u h=>by cases h; exact .sln E
theorem ce.esl:ce .esl (.sl []):=fun E u h=>by
 cases h with
 | esln=>exact .sln E
 | esl _ a=>exact .sle E a 0
theorem dE.refl (r:List AV):dE r r:=⟨rfl,fun _ _ _ h k=>by rw [h] at k; cases k; exact .refl _⟩
theorem dE.nil:dE [] []:=.refl _
theorem dE.cons {a b:AV} {r r':List AV} (h:ce a b) (k:dE r r'):dE (a::r) (b::r') :=
 ⟨by simp [k.1],fun i x y h1 h2=>by
  cases i with
  | zero=>simp at h1 h2; subst h1 h2; exact h
  | succ i=>exact k.2 i x y (by simpa using h1) (by simpa using h2)⟩
theorem dE.vrs {r r':List AV} {E:Env} {us:List Value} (h:dE r r') (hv:ca E r us):ca E r' us :=
 ⟨by rw [← h.1]; exact hv.1,fun m c u h1 h2=>by
  have hm:m<r.length:=by rw [h.1]; exact (List.getElem?_eq_some_iff.1 h1).1
  exact h.2 m _ c (List.getElem?_eq_getElem hm) h1 _ _ (hv.2 m _ u (List.getElem?_eq_getElem hm) h2)⟩
theorem ce.agg {r r':List AV} (h:dE r r'):ce (.agg r) (.agg r'):=fun E u hv=>by
 obtain ⟨us,rfl,h1⟩:=hv.aggI
 exact ca.aggV (h.vrs h1)
theorem ce.tup {r r':List AV} (h:dE r r'):ce (.tup r) (.tup r'):=fun E u hv=>by
 obtain ⟨us,rfl,h1⟩:=hv.tupI
 have:=h.vrs h1
 exact .tup us (by simpa using this.1) (fun m c u h1 h2=>this.2 m c u h1 (by simpa using h2))
theorem ce.fptr {r r':List AV} {j:Nat} (h:dE r r'):ce (.fptr r j) (.fptr r' j):=fun E u hv=>by
 cases hv with
 | fptr j us h1 h2 h3 h4 =>
  have:=h.vrs (E:=E.fz) (us:=us) ⟨h1.symm,h2⟩
  exact .fptr j us this.1.symm this.2 h3 h4
theorem fF.refl (r:List (List AV)):fF r r:=⟨rfl,fun _ _ _ h k=>by rw [h] at k; cases k; exact .refl _⟩
theorem fF.nil:fF [] []:=.refl _
theorem fF.cons {a b:List AV} {r r':List (List AV)} (h:dE a b) (k:fF r r'):fF (a::r) (b::r') :=
 ⟨by simp [k.1],fun i x y h1 h2=>by
  cases i with
  | zero=>simp at h1 h2; subst h1 h2; exact h
  | succ i=>exact k.2 i x y (by simpa using h1) (by simpa using h2)⟩
theorem fF.app {a b r r':List (List AV)} (h:fF a b) (k:fF r r'):fF (a++r) (b++r'):=by
 induction a generalizing b with
 | nil =>
  have:b=[]:=List.eq_nil_of_length_eq_zero h.1.symm
  subst this
  exact k
 | cons x a ih =>
  cases b with
  | nil=>exact absurd h.1 (by simp)
  | cons y b=>exact .cons (h.2 0 x y rfl rfl) (ih ⟨by simpa using h.1,fun i p q h1 h2=>h.2 (i + 1) p q (by simpa using h1) (by simpa using h2)⟩)
theorem dE.app {a b r r':List AV} (h:dE a b) (k:dE r r'):dE (a++r) (b++r'):=by
 induction a generalizing b with
 | nil =>
  have:b=[]:=List.eq_nil_of_length_eq_zero h.1.symm
  subst this
  exact k
 | cons x a ih =>
  cases b with
  | nil=>exact absurd h.1 (by simp)
  | cons y b=>exact .cons (h.2 0 x y rfl rfl) (ih ⟨by simpa using h.1,fun i p q h1 h2=>h.2 (i + 1) p q (by simpa using h1) (by simpa using h2)⟩)
theorem fF.flat {r r':List (List AV)} (h:fF r r'):dE r.flatten r'.flatten:=by
 induction r generalizing r' with
 | nil =>
  have:r'=[]:=List.eq_nil_of_length_eq_zero h.1.symm
  subst this
  exact .refl _
 | cons x a ih =>
  cases r' with
  | nil=>exact absurd h.1 (by simp)
  | cons y b =>
   have h1:=h.2 0 x y rfl rfl
   have h2:=ih (r':=b) ⟨by simpa using h.1,fun i p q h1 h2=>h.2 (i + 1) p q (by simpa using h1) (by simpa using h2)⟩
   rw [List.flatten_cons,List.flatten_cons]
   have app:∀ {a b r r':List AV},dE a b→dE r r'→dE (a++r) (b++r'):=by
    intro a b r r' h k
    induction a generalizing b with
    | nil =>
     have:b=[]:=List.eq_nil_of_length_eq_zero h.1.symm
     subst this
     exact k
    | cons x a ih =>
     cases b with
     | nil=>exact absurd h.1 (by simp)
     | cons y b=>exact .cons (h.2 0 x y rfl rfl) (ih ⟨by simpa using h.1,fun i p q h1 h2=>h.2 (i + 1) p q (by simpa using h1) (by simpa using h2)⟩)
   exact app h1 h2
theorem fF.lens {r r':List (List AV)} {sz:Nat} (h:fF r r') (hl:∀ x∈r,x.length=sz):∀ x∈r',x.length=sz:=by
 intro x hx
 obtain ⟨i,hi⟩:=List.getElem?_of_mem hx
 have hlt:i<r.length:=by rw [h.1]; exact (List.getElem?_eq_some_iff.1 hi).1
 rw [← (h.2 i _ x (List.getElem?_eq_getElem hlt) hi).1]
 exact hl _ (List.getElem_mem hlt)
theorem ce.sl {r r':List (List AV)} (h:fF r r'):ce (.sl r) (.sl r'):=fun E u hv=>by
 cases hv with
 | sln =>
  have:r'=[]:=List.eq_nil_of_length_eq_zero h.1.symm
  subst this
  exact .sln E
 | sle _ a cap =>
  have:r'=[]:=List.eq_nil_of_length_eq_zero h.1.symm
  subst this
  exact .sle E a cap
 | sl us h1 h2 h3 h4 h5 h6 h7 =>
  have hf:=h.flat
  have:=hf.vrs (E:=E.fz) (us:=us) ⟨h3.symm,h4⟩
  rw [h.1]
  exact .sl us h1 (h.lens h2) this.1.symm this.2 h5 h6 (by rw [← h.1]; exact h7)
theorem Fy {ts:List Nat}:∀ {t:List AV} {i j:Nat} {c:AV},(J2 ts i t)[j]?=some c→c=.bad∨t[j]?=some c
 | [],_,_,_,h=>by simp [J2] at h
 | x::xs,i,0,c,h=>by
  simp only [J2,List.getElem?_cons_zero,Option.some.injEq] at h
  split at h
  ·exact .inr (by rw [← h]; rfl)
  ·exact .inl h.symm
 | x::xs,i,j + 1,c,h=>by
  simp only [J2,List.getElem?_cons_succ] at h
  rw [List.getElem?_cons_succ]
  exact Fy h
theorem Fz {ts:List Nat}:∀ {t:List AV} {i:Nat},(J2 ts i t).length=t.length
 | [],_=>rfl
 | x::xs,i=>by simp [J2,Fz]
theorem H2 (ts:List Nat) (S:St):fE S { t:=J2 ts 0 S.t,l:=S.l,o:=S.o,b:=S.b }:=fun _ E _ _ hM ht =>
 ⟨E,hM.congr rfl rfl rfl,by rw [Fz]; exact ht.len,fun n c u h1 h2=>by
  rcases Fy h1 with h | h
  ·rw [h]; exact .bad _ _
  ·exact ht.val n c u h h2,ht.df,ht.gt⟩
theorem Bs (d:Nat) (S:St):fE S (fo d S):=fun G E a w hM ht=>by
 obtain ⟨E1,h1,h2,_⟩:=rD hM ht d rfl
 exact ⟨E1,h1,h2⟩
theorem tc:∀ (ds:List Nat) (S:St),fE S (Bl ds S)
 | [],S=>.refl S
 | d::ds,S=>(Bs d S).trans (tc ds _)
theorem GJ (i:Nat) (S:St):fE S (gG i S):=fun _ _ _ _ hM ht =>
 let ⟨h1,h2⟩:=vj hM ht i
 ⟨_,h1,h2⟩
theorem yd:∀ (ds:List Nat) (S:St),fE S (HT ds S)
 | [],S=>.refl S
 | d::ds,S=>(GJ d S).trans (yd ds _)
theorem p8:∀ {os:List Ob} {i:Nat} {x:Ob},Bm os=true→os[i]?=some x→x=.dead
 | [],i,x,_,h=>by simp at h
 | .dead::os,0,x,_,h=>by simp at h; exact h.symm
 | .dead::os,i + 1,x,h,h1=>p8 (os:=os) (i:=i) h (by simpa using h1)
 | .arr _ _ _::os,_,_,h,_=>by cases h
 | .mapo _ _::os,_,_,h,_=>by cases h
 | .own _ _ _ _::os,_,_,h,_=>by cases h
theorem GK (n:Nat) (S:St):fE S (Mr n S):=fun _ E _ _ hM ht=>by
 unfold Mr
 split
 ·rename_i h
  rw [Bool.and_eq_true] at h
  have hb:=Nat.le_of_ble_eq_true h.2
  have hbl:=hM.bl
  refine ⟨E,⟨hM.hp,hM.os,hM.tape,hM.output,hM.size,hM.keep,hM.F0,hM.Flt,hM.Fnew,hM.own,hM.inj,hM.loc,fun id=>?_,fun id hid=>?_,?_,hM.szs,hM.pk,fun id=>?_⟩,ht⟩
  ·have h0:=hM.obj id
   show gZ E (S.o.take n)[id]? _
   rw [List.getElem?_take]
   split
   ·exact h0
   ·rename_i hn
    cases hx:S.o[id]? with
    | none=>rw [hx] at h0; exact h0
    | some x =>
     have:x=.dead:=p8 h.1 (i:=id - n) (by rw [List.getElem?_drop]; rw [show n + (id - n)=id by omega]; exact hx)
     rw [hx,this] at h0
     revert h0
     cases E.mu (.O id) with
     | none=>exact fun _=>trivial
     | some _=>exact fun h=>h.elim
  ·show (S.o.take n)[id]?=some .dead∨_
   have hid':id<S.b:=hid
   rw [List.getElem?_take,if_pos (by omega)]
   exact hM.old id hid
  ·show S.b≤(S.o.take n).length
   rw [List.length_take]
   omega
  ·have h0:=hM.ow id
   show fk E id (S.o.take n)[id]?
   rw [List.getElem?_take]
   split
   ·exact h0
   ·rename_i hn
    cases hx:S.o[id]? with
    | none=>rw [hx] at h0; exact h0
    | some x =>
     have:x=.dead:=p8 h.1 (i:=id - n) (by rw [List.getElem?_drop]; rw [show n + (id - n)=id by omega]; exact hx)
     rw [hx,this] at h0
     exact h0
 ·exact ⟨E,hM,ht⟩
theorem ye {G:Gh} {E:Env} {S:St} {w:World} (hM:ap G pn E S w):E.mu (.O S.o.length)=none:=by
 have:=hM.obj S.o.length
 rw [List.getElem?_eq_none (Nat.le_refl _)] at this
 revert this
 cases E.mu (.O S.o.length) with
 | none=>exact fun _=>rfl
 | some _=>exact fun h=>h.elim
theorem C0 {G:Gh} {E:Env} {S:St} {w:World} (hM:ap G pn E S w) (sz:Nat) (t:List AV):ap G pn ⟨E.F,aO E.mu (.O S.o.length) .virt,E.h⟩ { t:=t,l:=S.l,o:=S.o++[.arr true sz []],b:=S.b } w:=by
 have hbl:=hM.bl
 refine hM.addkey' (key:=.O S.o.length) (mv:=.virt) (fun _ _=>rfl) (fun _ h=>by cases h) (ye hM) (fun _ _ _ _ h=>by cases h) (fun _ _=>rfl) (fun id hid=>?_) rfl ?_ (fun id h=>?_) (fun _ h=>by cases h) (fun id h=>?_) ?_
 ·show (S.o++[_])[id]?=_
  by_cases h:id<S.o.length
  ·rw [List.getElem?_append_left h]
  ·have hne:id≠S.o.length:=fun e=>hid (by rw [e])
   rw [List.getElem?_eq_none (by simp; omega),List.getElem?_eq_none (by omega)]
 ·show S.b≤(S.o++[_]).length
  simp
  omega
 ·cases h
  exact hbl
 ·cases h
  show gZ _ (S.o++[_])[S.o.length]? _
  rw [List.getElem?_append_right (Nat.le_refl _),Nat.sub_self]
  rfl
 ·exact hM.ow_push rfl rfl
theorem r4:∀ (ps:List (Nat×Nat)) (S:St),fE S (CZ ps S)
 | [],S=>.refl S
 | (d,sz)::ps,S=>by
  unfold CZ
  split
  ·rename_i hd
   refine fE.trans ?_ (r4 ps _)
   intro G E a w hM ht
   refine ⟨_,C0 hM sz _,?_⟩
   have hle:LE E ⟨E.F,aO E.mu (.O S.o.length) .virt,E.h⟩:=l6 (ye hM)
   refine ⟨by simpa using ht.len,fun n c u h1 h2=>?_,ht.df,ht.gt.mono hle⟩
   have h1':(S.t.set d (.mf S.o.length))[n]?=some c:=h1
   rw [List.getElem?_set] at h1'
   split at h1'
   ·rename_i e
    subst e
    split at h1'
    ·cases h1'
     have hv:=ht.val d _ u hd h2
     cases hv
     exact .mfn (by show aO _ _ _ _=_; unfold aO; rw [if_pos rfl])
    ·cases h1'
   ·exact (ht.val n c u h1' h2).mono hle
  ·exact r4 ps S
theorem oH:∀ (ps:List (Nat×Nat×Nat)) (S:St),fE S (Am ps S)
 | [],S=>.refl S
 | (d,j,sz)::ps,S=>by
  unfold Am
  split
  ·rename_i row hd
   split
   ·rename_i hj
    refine fE.trans ?_ (oH ps _)
    intro G E a w hM ht
    have hle:LE E ⟨E.F,aO E.mu (.O S.o.length) .virt,E.h⟩:=l6 (ye hM)
    refine ⟨_,?_,ht.mono hle⟩
    have h0:=C0 hM sz S.t
    refine ⟨h0.hp,h0.os,h0.tape,h0.output,h0.size,h0.keep,h0.F0,h0.Flt,h0.Fnew,h0.own,h0.inj,fun e=>?_,h0.obj,h0.old,h0.bl,h0.szs,(fun _ _ h=>by cases h),h0.ow⟩
    have h1:=h0.loc e
    show iG pn _ (aR (vM S.l d (row.set j (.mf S.o.length))) e) e
    rw [lJ hd]
    split
    ·rename_i e'
     subst e'
     have h1':iG pn ⟨E.F,aO E.mu (.O S.o.length) .virt,E.h⟩ (aR S.l d) d:=h1
     rw [hd] at h1'
     rcases h1' with ⟨b,h2,h3,h4,us,ty,h5,h6,h7⟩ | ⟨_,h2,_⟩
     ·refine .inl ⟨b,by simpa using h2,by simpa using h3,by simp,us,ty,h5,by simpa using h6,fun m c hc=>?_⟩
      have hf:[row.set j (.mf S.o.length)].flatten=row.set j (.mf S.o.length):=by simp
      have hf0:[row].flatten=row:=by simp
      rw [hf,List.getElem?_set] at hc
      split at hc
      ·rename_i e'
       subst e'
       split at hc
       ·cases hc
        obtain ⟨u,hu,hv⟩:=h7 j .nilsl (by rw [hf0]; exact hj)
        refine ⟨u,hu,?_⟩
        cases hv
        exact .mfn (by show aO _ _ _ _=_; unfold aO; rw [if_pos rfl])
       ·cases hc
      ·exact h7 m c (by rw [hf0]; exact hc)
     ·cases h2
    ·exact h1
   ·exact oH ps S
  ·exact oH ps S
theorem qG:∀ (ds:List Nat) (S:St),fE S (GG ds S)
 | [],S=>.refl S
 | d::ds,S=>by
  unfold GG
  split
  ·rename_i x hx
   split
   ·rename_i y hy
    refine fE.trans ?_ (qG ds _)
    intro G E a w hM ht
    obtain ⟨hS1,ht1⟩:=m9 (ids:=dX S.o 6 x) hM ht
    obtain ⟨hle2,hS2⟩:=hS1.freeze (F':=FD E (dX S.o 6 x)) (fun b h=>.inl h) (fun b h=>by
     rcases h with h | ⟨id,hid,o',s,n,hm⟩
     ·exact .inl h
     ·obtain ⟨h1,h2,h3⟩:=hM.own _ _ _ _ _ hm
      refine .inr ⟨h2,h3,fun k o'' s' n' h'=>?_⟩
      obtain ⟨h4,h5⟩:=kJ h'
      exact h5 id hid (hM.inj _ _ _ _ _ _ _ _ _ h4 hm))
    have ht2:=ht1.mono hle2
    refine ⟨_,hS2.congr rfl rfl rfl,by simpa using ht2.len,fun n c u h1 h2=>?_,ht2.df,ht2.gt⟩
    have h1':((mM (dX S.o 6 x) S).t.set d y)[n]?=some c:=h1
    rw [List.getElem?_set] at h1'
    split at h1'
    ·rename_i e
     subst e
     split at h1'
     ·cases h1'
      have hv:=iT hM 6 hy (ht.val d _ u hx h2) (ids:=dX S.o 6 x) (fun _ h=>h)
      exact hv.mono ⟨fun _ h=>h,fun _ _ _ h=>(by cases h),fun _ _=>rfl,fun _ _ _ _ _ _ h=>(by cases h)⟩
     ·cases h1'
    ·exact ht2.val n c u h1' h2
   ·exact qG ds S
  ·exact qG ds S
theorem H3 (W:Wk) (S:St):fE S (SF W S):=by
 unfold SF
 exact (H2 W.ts S).trans ((tc W.ls _).trans ((yd _ _).trans ((GK _ _).trans ((r4 _ _).trans (oH _ _)))))
theorem Bt (W:Wk) (S:St):fE S (wk W S):=(qG W.fz S).trans (H3 W _)
theorem C1:∀ {xs:List (Nat×AV)} {S:St} {K:St→Prop},Ms xs S K→∃ S',fE S S'∧K S'
 | [],S,K,h=>⟨S,.refl S,h⟩
 | (d,v)::xs,S,K,h=>by
  obtain ⟨a,ha,hl,h⟩:=cf.1 h
  rw [eK] at h
  obtain ⟨S',h1,h2⟩:=C1 h
  refine ⟨S',fE.trans ?_ h1,h2⟩
  intro G E act w hM ht
  refine ⟨E,hM.congr rfl rfl rfl,by simpa using ht.len,fun n c u h1 h2=>?_,ht.df,ht.gt⟩
  have h1':(S.t.set d v)[n]?=some c:=h1
  rw [List.getElem?_set] at h1'
  split at h1'
  ·rename_i e
   subst e
   split at h1'
   ·cases h1'
    exact hl _ _ (ht.val d _ u ha h2)
   ·cases h1'
  ·exact ht.val n c u h1' h2
theorem C2:∀ {xs:List (Nat×List AV)} {S:St} {K:St→Prop},J3 xs S K→∃ S',fE S S'∧K S'
 | [],S,K,h=>⟨S,.refl S,h⟩
 | (d,r)::xs,S,K,h=>by
  unfold J3 at h
  split at h
  ·rename_i row hd
   obtain ⟨hl,h⟩:=h
   rw [jr] at h
   obtain ⟨S',h1,h2⟩:=C2 h
   refine ⟨S',fE.trans ?_ h1,h2⟩
   intro G E act w hM ht
   refine ⟨E,?_,ht⟩
   refine ⟨hM.hp,hM.os,hM.tape,hM.output,hM.size,hM.keep,hM.F0,hM.Flt,hM.Fnew,hM.own,hM.inj,fun e=>?_,hM.obj,hM.old,hM.bl,hM.szs,(fun _ _ h=>by cases h),hM.ow⟩
   have h1:=hM.loc e
   show iG pn _ (aR (vM S.l d r) e) e
   rw [lJ hd]
   split
   ·rename_i e'
    subst e'
    rw [hd] at h1
    rcases h1 with ⟨b,h2,h3,h4,us,ty,h5,h6,h7⟩ | ⟨_,h2,_⟩
    ·refine .inl ⟨b,by rw [← hl.1]; exact h2,by rw [← hl.1]; exact h3,by simp,us,ty,h5,by rw [← hl.1]; exact h6,fun m c hc=>?_⟩
     have hf:[r].flatten=r:=by simp
     have hf0:[row].flatten=row:=by simp
     rw [hf] at hc
     have hm:m<row.length:=by rw [hl.1]; exact (List.getElem?_eq_some_iff.1 hc).1
     obtain ⟨u,hu,hv⟩:=h7 m _ (by rw [hf0]; exact List.getElem?_eq_getElem hm)
     exact ⟨u,hu,hl.2 m _ c (List.getElem?_eq_getElem hm) hc _ _ hv⟩
    ·cases h2
   ·exact h1
  ·exact False.elim h
theorem C3:∀ {xs:List (Nat×List (List AV))} {S:St} {K:St→Prop},J4 xs S K→∃ S',fE S S'∧K S'
 | [],S,K,h=>⟨S,.refl S,h⟩
 | (i,R)::xs,S,K,h=>by
  unfold J4 at h
  split at h
  ·rename_i fl sz rows hi
   obtain ⟨hl,h⟩:=h
   rw [aC] at h
   obtain ⟨S',h1,h2⟩:=C3 h
   refine ⟨S',fE.trans ?_ h1,h2⟩
   intro G E act w hM ht
   refine ⟨E,?_,ht⟩
   refine ⟨hM.hp,hM.os,hM.tape,hM.output,hM.size,hM.keep,hM.F0,hM.Flt,hM.Fnew,hM.own,hM.inj,hM.loc,fun id=>?_,fun id hid=>?_,by show S.b≤(S.o.set _ _).length; rw [List.length_set]; exact hM.bl,hM.szs,hM.pk,fun id=>?_⟩
   ·have h1:=hM.obj id
    show gZ E (S.o.set i _)[id]? _
    rw [List.getElem?_set]
    split
    ·rename_i e
     subst e
     rw [if_pos (List.getElem?_eq_some_iff.1 hi).1]
     rw [hi] at h1
     revert h1
     cases E.mu (.O i) with
     | none=>exact fun h=>h
     | some mv =>
      cases mv with
      | virt =>
       intro h
       have h:rows=[]:=h
       subst h
       exact List.eq_nil_of_length_eq_zero hl.1.symm
      | blk b o s n =>
       rintro ⟨⟨h1,h2⟩,h3,h4,us,ty,h5,h6,h7⟩
       refine ⟨⟨h1,by rw [← hl.1]; exact h2⟩,h3,hl.lens h4,us,ty,h5,by rw [← hl.1]; exact h6,fun m c hc=>?_⟩
       have hf:=hl.flat
       have hm:m<rows.flatten.length:=by rw [hf.1]; exact (List.getElem?_eq_some_iff.1 hc).1
       obtain ⟨u,hu,hv⟩:=h7 m _ (List.getElem?_eq_getElem hm)
       exact ⟨u,hu,hf.2 m _ c (List.getElem?_eq_getElem hm) hc _ _ hv⟩
    ·exact h1
   ·have h1:=hM.old id hid
    show (S.o.set i _)[id]?=some .dead∨_
    rw [List.getElem?_set]
    split
    ·rename_i e
     subst e
     rcases h1 with h1 | h1
     ·rw [hi] at h1; cases h1
     ·exact .inr h1
    ·exact h1
   ·have h1:=hM.ow id
    show fk E id (S.o.set i _)[id]?
    rw [List.getElem?_set]
    split
    ·rename_i e
     subst e
     rw [if_pos (List.getElem?_eq_some_iff.1 hi).1]
     rw [hi] at h1
     exact h1
    ·exact h1
  ·exact False.elim h
theorem wy {L:Le} {S:St} {K:St→Prop} (h:OG L S K):∃ S',fE S S'∧K S':=by
 obtain ⟨S1,h1,h⟩:=C1 h
 obtain ⟨S2,h2,h⟩:=C2 h
 obtain ⟨S3,h3,h⟩:=C3 h
 exact ⟨S3,h1.trans (h2.trans h3),h⟩
structure BY (C:Ctx):Prop where
 det:g7 C
theorem aD.mono2 {α β:Type} {X:(α→β→Prop)→Prop} (h:ay X) {K K':α→β→Prop} (hx:X K) (hk:∀ r s,K r s→K' r s):X K':=by
 obtain ⟨r,s,h1,h2⟩:=h _ hx
 exact h2 _ (hk r s h1)
theorem aD.mono {α:Type} {X:(α→Prop)→Prop} (h:aD X) {K K':α→Prop} (hx:X K) (hk:∀ r,K r→K' r):X K':=by
 obtain ⟨r,h1,h2⟩:=h K hx
 exact h2 _ (hk r h1)
theorem ay.mono {α β:Type} {X:(α→β→Prop)→Prop} (h:ay X) {K K':α→β→Prop} (hx:X K) (hk:∀ a b,K a b→K' a b):X K':=by
 obtain ⟨a,b,h1,h2⟩:=h K hx
 exact h2 _ (hk a b h1)
theorem GL {op:BinOp} {x y:Value} {K:Value→Prop} (h:HU op x y K):wN op x y K:=by
 unfold HU at h
 unfold wN
 split at h <;> first
  | exact av h.1 h.2
  | exact False.elim h
section
variable {C:Ctx} {A:fK} {pl:bz} {o:Oper}
theorem GM {op:BinOp} {t:TypeId} {x y:AV} {k:AV→Prop} (h:HV C A o op t x y k):DF C.P op t x y k:=by
 unfold HV at h
 split at h
 ·rename_i a b
  show zD C.P op t a b k
  unfold zD
  split at h
  ·rename_i hn
   rw [hn]
   dsimp only
   split at h
   ·exact h
   ·rename_i a b hne
    split
    ·exact (hne _ _ rfl rfl).elim
    ·exact GL h
  ·rename_i c hc
   rw [hc]
   exact h
 ·rename_i as bs
  show (match vN as,vN bs with
  | some xs,some ys =>
   match pw C.P op t xs ys with
   | some (.bool b)=>k (.v (.bool b))
   | _=>ak 226
  | _,_=>ak 227)
  split at h
  ·rename_i xs ys h1 h2
   try rw [h1,h2]
   try dsimp only
   split at h
   ·rw [h.1]
    exact h.2
   ·exact False.elim h
  ·exact False.elim h
 ·exact False.elim h
theorem C4 {t:TypeId} {x ix:AV} {k:AV→Prop} (h:Bo C A o t x ix k):rt C.P t x ix k:=by
 unfold Bo at h
 unfold rt
 refine aD.mono a7 h (fun i h'=>?_)
 clear h
 split at h'
 ·rename_i s hu
  rw [hu]
  dsimp only
  split at h'
  ·rw [h'.1]
   dsimp only
   have h2:=h'.2.2
   rw [h'.2.1] at h2
   exact h2
  ·exact False.elim h'
 ·rename_i len e cs hu
  rw [hu]
  dsimp only
  have h:=h'
  split at h
  ·rename_i inf hi
   rw [hi]
   exact av h.1 h.2
  ·exact False.elim h
 ·exact False.elim h'
theorem H4 {vs:List AV} {k:AV→Prop} (h:Mt C A pl o vs k):pop C pl o vs k:=by
 unfold Mt at h
 split at h
 ·exact h
 ·split at h
  ·rename_i ho
   unfold pop
   rw [ho]
   exact GM h
  ·rename_i ho
   unfold pop
   rw [ho]
   exact C4 h
  ·exact False.elim h
theorem qH {len cap:Nat} {lo hi mx:Option Int} {k:Nat→Nat→Nat→Prop} (h:Ao len cap lo hi mx k):tY len cap lo hi mx k:=by
 unfold Ao at h
 unfold tY
 split at h <;> first
  | exact h
  | exact av h.1 h.2
  | exact False.elim h
theorem iY {t:TypeId} {x:AV} {lo hi mx:Option Int} {S:St} {k:AV→Prop} (h:mP C t x lo hi mx S k):jT C.P t x lo hi mx S k:=by
 unfold mP at h
 rw [Bool.and_comm (jG mx) (jG hi)] at h
 unfold jT
 split at h
 ·rename_i hu
  rw [hu]
  dsimp only
  split at h
  ·exact qH h
  ·exact False.elim h
 ·rename_i e hu
  rw [hu]
  dsimp only
  split at h
  ·rename_i i hi
   rw [hi]
   dsimp only
   obtain ⟨h0,h⟩:=ae h
   refine av h0 ?_
   split at h
   ·exact av h.1 (qH h.2)
   ·split at h
    ·rename_i ho
     dsimp only
     rw [ho]
     obtain ⟨h1,h⟩:=ae h
     exact av h1 (qH h)
    ·exact False.elim h
   ·split at h
    ·rename_i ho
     dsimp only
     rw [ho]
     obtain ⟨h1,h⟩:=ae h
     exact av h1 (qH h)
    ·exact False.elim h
   ·exact False.elim h
  ·exact False.elim h
 ·exact False.elim h
theorem vZ {row:List AV} {t:TypeId} {x ix:AV} {S:St} {k:AV→Prop} (h:p6 C row t x ix S k):iF C.P t x ix S k:=by
 unfold p6 at h
 unfold iF
 refine aD.mono a7 h (fun i h=>?_)
 split at h
 ·rename_i e hu
  rw [hu]
  dsimp only
  split at h
  ·rename_i inf hi
   rw [hi]
   dsimp only
   split at h
   ·have h1:=h.1
    unfold DC at h1
    dsimp only
    rw [h1]
    exact h.2
   ·split at h
    ·rename_i ho
     dsimp only
     rw [ho]
     dsimp only
     have h1:=h.1
     unfold DC at h1
     rw [h1]
     exact h.2
    ·rename_i ho
     dsimp only
     rw [ho]
     obtain ⟨h1,h2,h3⟩:=ae h
     refine av ?_ h3
     rw [Bool.and_eq_true]
     exact ⟨h2,h1⟩
    ·exact False.elim h
   ·split at h
    ·rename_i ho
     dsimp only
     rw [ho]
     dsimp only
     refine av h.1 ?_
     rw [h.2.1]
     exact h.2.2
    ·exact False.elim h
   ·exact False.elim h
  ·exact False.elim h
 ·rename_i len e hu
  rw [hu]
  dsimp only
  split at h
  ·rename_i inf hi
   rw [hi]
   exact av h.1 h.2
  ·exact False.elim h
 ·exact False.elim h
theorem vz (hC:BY C) {fid:Nat} {as:List AV} {k:AV→Prop} (h:wx C A o fid as k):C.pcall fid as k:=by
 unfold wx at h
 split at h
 ·exact aD.mono (hC.det.pcall _ _) h.1 (fun _ e=>by rw [e]; exact h.2)
 ·exact h
theorem H5 (hC:BY C) {vs:List AV} {M:St} {k:AV→Prop} (h:Mu C A o vs M k):sE C o vs M k:=by
 unfold Mu at h
 split at h
 ·rename_i ho
  split at h
  ·split at h
   ·split at h
    ·rename_i hob
     unfold sE
     rw [ho]
     dsimp only
     unfold He
     dsimp only
     unfold yR
     dsimp only
     rw [hob]
     dsimp only
     rw [h.1]
     exact h.2
    ·exact False.elim h
   ·exact False.elim h
  ·exact h
 ·rename_i ho
  split at h
  ·exact h
  ·unfold sE
   rw [ho]
   split at h
   ·exact iY h
   ·exact aD.mono a7 h (fun _ h=>iY h)
   ·exact aD.mono a7 h (fun _ h=>iY h)
   ·exact aD.mono a7 h (fun _ h=>aD.mono a7 h (fun _ h=>iY h))
   ·exact aD.mono a7 h (fun _ h=>aD.mono a7 h (fun _ h=>iY h))
   ·exact aD.mono a7 h (fun _ h=>aD.mono a7 h (fun _ h=>aD.mono a7 h (fun _ h=>iY h)))
   ·exact False.elim h
 ·rename_i ho
  split at h
  ·unfold sE
   rw [ho]
   exact vZ h
  ·exact h
 ·rename_i ho
  split at h
  ·split at h
   ·rename_i hu
    split at h
    ·rename_i hob
     unfold sE
     rw [ho]
     dsimp only
     unfold qw
     rw [hu]
     dsimp only
     rw [hob]
     exact h.1 _ h.2
    ·exact False.elim h
   ·exact False.elim h
  ·exact h
 ·rename_i c ho
  split at h
  ·rename_i hcal
   split at h
   ·unfold sE
    rw [ho]
    dsimp only
    rw [hcal]
    dsimp only
    obtain ⟨h1,h⟩:=ae h
    exact av h1 (aD.mono (dI _ _) h (fun bs hb=>vz hC hb))
   ·exact False.elim h
  ·exact h
 ·exact h
theorem C5 {S:St} {row:List AV} {a:AV} {cs:List AV} {K:St→Prop} (h:Bp S row a cs K):m4 S a cs K:=by
 unfold Bp at h
 split at h
 ·unfold m4
  split at h
  ·rename_i ho
   dsimp only
   rw [ho]
   dsimp only
   rw [h.1]
   exact h.2
  ·exact False.elim h
 ·exact False.elim h
theorem C6 {vs:List AV} {M:St} {k:AV→St→Prop} (h:J5 C A o vs M k):zG C o vs M k:=by
 unfold J5 at h
 split at h
 ·exact h
 ·split at h
  ·rename_i ho
   split at h
   ·unfold zG
    rw [ho]
    refine aD.mono bY h (fun cs h=>?_)
    split at h
    ·rename_i hi
     rw [hi]
     obtain ⟨h1,h⟩:=ae h
     exact av h1 (C5 h)
    ·exact False.elim h
   ·exact h
  ·exact h
theorem r5 {size:Nat} {S:St} {x:AV} {k:Bool→List (List AV)→Prop} (h:xW size S x k):lg size S x k:=by
 unfold xW at h
 unfold lg
 split at h <;> first
  | exact av h.1 h.2
  | exact h
  | exact False.elim h
theorem Bu {ts:List TypeId} {base x:AV} {S:St} {k:St→AV→Prop} (h:xX C.P ts base x S k):mH C.P ts base x S k:=by
 unfold xX at h
 unfold mH
 split at h
 ·split at h
  ·rename_i e hu
   dsimp only
   rw [hu]
   dsimp only
   split at h
   ·rename_i i hi
    rw [hi]
    dsimp only
    obtain ⟨h1,h⟩:=ae h
    refine av h1 ?_
    refine ay.mono eu (r5 h) (fun fl src h=>?_)
    refine av h.1 ?_
    replace h:=h.2
    split at h
    ·exact av h.1 h.2
    ·exact av h.1 h.2
    ·split at h
     ·rename_i ho
      dsimp only
      rw [ho]
      obtain ⟨h1,h⟩:=ae h
      refine av ?_ h.2
      simp only [Bool.and_eq_true] at h1 ⊢
      exact ⟨⟨h1.1,h.1⟩,h1.2⟩
     ·exact False.elim h
    ·split at h
     ·rename_i ho
      dsimp only
      rw [ho]
      obtain ⟨h1,h2,h3,h⟩:=ae h
      refine av h1 ?_
      rw [h2]
      exact av h3 h
     ·exact False.elim h
    ·exact False.elim h
   ·exact False.elim h
  ·exact False.elim h
 ·exact False.elim h
theorem zk {ts:List TypeId} {base x:AV} {k:AV→Prop} (h:uD C.P ts base x k):lV C.P ts base x k:=by
 unfold uD at h
 unfold lV
 split at h
 ·split at h
  ·rename_i e hu
   dsimp only
   rw [hu]
   dsimp only
   split at h
   ·rename_i i hi
    rw [hi]
    dsimp only
    obtain ⟨h1,h⟩:=ae h
    refine av h1 ?_
    refine ay.mono eu (r5 h) (fun fl src h=>?_)
    obtain ⟨h2,h3,h4,h⟩:=ae h
    refine av ?_ h
    rw [h2,h3,h4]
    rfl
   ·exact False.elim h
  ·exact False.elim h
 ·exact False.elim h
theorem H6 {vs:List AV} {k:AV→Prop} (h:Mv C o vs k):Mc C o vs k:=by
 unfold Mv at h
 unfold Mc
 split at h
 ·rename_i c x y ho
  rw [ho]
  dsimp only
  split at h
  ·rename_i hc
   rw [hc]
   exact zk h
  ·exact False.elim h
 ·exact False.elim h
theorem zl {ts:List TypeId} {base:AV} {n:Int} {S:St} {k:St→AV→Prop} (h:uE C.P ts base n S k):lW C.P ts base n S k:=by
 unfold uE at h
 unfold lW
 split at h
 ·split at h
  ·rename_i hu hv
   dsimp only
   rw [hu,hv]
   dsimp only
   split at h
   ·rename_i hi
    rw [hi]
    exact av h.1 h.2
   ·exact False.elim h
  ·exact False.elim h
 ·exact False.elim h
theorem oX {t:TypeId} {l c:AV} {S:St} {k:St→AV→Prop} (h:mQ C.P t l c S k):bo C.P t l c S k:=by
 unfold mQ at h
 unfold bo
 split at h
 ·rename_i hu
  rw [hu]
  dsimp only
  split at h
  ·rename_i hi
   rw [hi]
   dsimp only
   exact aD.mono a7 h (fun _ h=>aD.mono a7 h (fun _ h=>av h.1 h.2))
  ·exact False.elim h
 ·exact False.elim h
theorem Ep (hC:BY C) {f:AV} {args:List AV} {S:St} {k:St→AV→Prop} (h:Em C A o f args S k):zF C f args S k:=by
 unfold Em at h
 unfold zF
 split at h
 ·dsimp only
  split at h
  ·rename_i hp
   rw [hp]
   exact aD.mono (dI _ _) h (fun bs hb=>vz hC hb)
  ·rename_i hp
   rw [hp]
   obtain ⟨h1,h⟩:=ae h
   refine av h1 ?_
   split at h
   ·exact ay.mono (hC.det.scall _ _ _) h.1 (fun r o' ⟨e1,e2⟩=>by subst e1 e2; exact h.2)
   ·exact h
 ·exact False.elim h
theorem oY {R:List (AV×AV)} {t:TypeId} {m key x:AV} {S:St} {K:St→Prop} (h:mR C.P R t m key x S K):fy C.P t m key x S K:=by
 unfold mR at h
 unfold fy
 split at h
 ·rename_i hu
  rw [hu]
  dsimp only
  split at h
  ·split at h
   ·rename_i fl es ho
    dsimp only
    rw [ho]
    dsimp only
    obtain ⟨h1,h2,h3⟩:=ae h
    refine av h1 ?_
    have:=h2 (fun es'=>bf (S.o.set _ (.mapo (fl&&dv 4 x) es')) fun o=>K { t:=S.t,l:=S.l,o:=o,b:=S.b }) h3
    exact this
   ·exact False.elim h
  ·exact False.elim h
 ·exact False.elim h
theorem Er {ts:List TypeId} {x y:AV} {M:St} {k:AV→St→Prop} (h:El C.P ts x y M k):u7 C.P ts x y M k:=by
 unfold El at h
 unfold u7
 split at h
 ·split at h
  ·rename_i e hu
   dsimp only
   rw [hu]
   dsimp only
   split at h
   ·rename_i i hi
    rw [hi]
    dsimp only
    obtain ⟨h1,h⟩:=ae h
    refine av h1 ?_
    refine ay.mono eu (r5 h) (fun fl src h=>?_)
    obtain ⟨h2,h⟩:=h
    obtain ⟨h3,h⟩:=ae h
    refine av (by rw [h2,h3]; rfl) ?_
    split at h
    ·split at h
     ·rename_i ho
      dsimp only
      rw [ho]
      exact h
     ·exact False.elim h
    ·split at h
     ·rename_i ho
      dsimp only
      rw [ho]
      obtain ⟨h1,h2,h⟩:=ae h
      exact av (by rw [h1,h2]; rfl) h
     ·exact False.elim h
    ·exact False.elim h
   ·exact False.elim h
  ·exact False.elim h
 ·exact False.elim h
theorem C7 (hC:BY C) {S:St} {K:St→Prop} (h:J6 C A pl o S K):yS C pl o S K:=by
 unfold J6 at h
 split at h
 ·rename_i ho
  split at h
  ·unfold yS
   rw [ho]
   refine aD.mono cg h (fun m h=>?_)
   refine aD.mono cg h (fun k h=>?_)
   refine aD.mono cg h (fun x h=>?_)
   exact oY h
  ·exact h
 ·rename_i ho
  split at h
  ·unfold yS
   rw [ho]
   refine aD.mono cg h (fun m h=>?_)
   refine aD.mono cg h (fun k h=>?_)
   refine aD.mono cg h (fun x h=>?_)
   exact oY h
  ·exact h
 ·rename_i ho
  split at h
  ·unfold yS
   rw [ho]
   refine aD.mono cg h (fun l h=>?_)
   refine aD.mono cg h (fun c h=>?_)
   exact oX h
  ·exact h
 ·rename_i c ho
  split at h
  ·rename_i hcal
   split at h
   ·unfold yS
    rw [ho]
    dsimp only
    rw [hcal]
    dsimp only
    refine aD.mono a6 h (fun as h=>?_)
    split at h
    ·exact zl h
    ·rename_i x y hne
     split
     ·rename_i e
      cases e
      exact (hne _ _ rfl).elim
     ·rename_i e
      cases e
      exact Bu h
     ·rename_i h3
      exact (h3 _ _ rfl).elim
    ·exact False.elim h
   ·exact h
  ·rename_i hcal
   unfold yS
   rw [ho]
   dsimp only
   rw [hcal]
   dsimp only
   refine aD.mono a6 h (fun as h=>?_)
   split at h
   ·exact Er h
   ·exact False.elim h
  ·rename_i f hcal
   unfold yS
   rw [ho]
   dsimp only
   rw [hcal]
   dsimp only
   refine aD.mono cg h (fun l h=>?_)
   refine aD.mono a6 h (fun c h=>?_)
   exact Ep hC h
  ·exact h
 ·exact h
theorem ml {K:St→Prop} {S:St} (h:pi A o K S):K S:=by
 have h2:∀ {key:Nat} {S:St} {K:St→Prop},HW A key S K→K S:=by
  intro key S K h
  unfold HW at h
  split at h
  ·exact h
  ·split at h
   ·rename_i ho
    obtain ⟨h1,h⟩:=h
    subst h1
    rw [aC] at h
    have e:∀ {α:Type} {l:List α} {i:Nat} {x:α},l[i]?=some x→l.set i x=l:=by
     intro α l i x hx
     refine List.ext_getElem? (fun m=>?_)
     rw [List.getElem?_set]
     split
     ·rename_i e
      subst e
      rw [if_pos (List.getElem?_eq_some_iff.1 hx).1,hx]
     ·rfl
    rw [e ho] at h
    exact h
   ·exact False.elim h
 unfold pi at h
 unfold Lw at h
 split at h
 ·exact h2 h
 ·split at h
  ·exact h2 h
  ·rename_i v hv
   obtain ⟨a,ha,e,h⟩:=cf.1 h
   subst e
   rw [eK,pX ha] at h
   exact h2 h
theorem Ar {S:St} {K:St→Prop} (h:HX C A pl o S K):Ga C pl o S K:=aD.mono a6 h (fun _ h=>H4 h)
theorem As (hC:BY C) {S:St} {K:St→Prop} (h:HY C A o S K):Gb C o S K:=aD.mono a6 h (fun _ h=>H5 hC h)
theorem GN {S:St} {K:St→Prop} (h:Lx C A o S K):Gc C o S K:=aD.mono a6 h (fun _ h=>C6 h)
theorem ra {row:Option (List (List AV))} {M:St} {id i:Nat} {k:AV→St→Prop} (h:qF row M id i k):gu M id i k:=by
 unfold qF at h
 unfold gu
 split at h
 ·rename_i hob
  rw [hob]
  dsimp only
  split at h
  ·obtain ⟨h1,h⟩:=h
   rw [h1]
   exact h
  ·obtain ⟨h1,h⟩:=h
   rw [h1]
   exact h
 ·exact h.elim
theorem zm {P:Program} {a:Bn} {t:TypeId} {same:Bool} {M:St} {id i:Nat} {k:AV→St→Prop} (h:uF P a t same M id i k):jn P t same M id i k:=by
 unfold uF at h
 unfold jn
 split at h
 ·split at h
  ·rename_i hob
   rw [hob]
   exact av h.1 h.2
  ·exact h.elim
 ·exact ra h
theorem yf {P:Program} {t:TypeId} {M:St} {id i:Nat} {v:AV} {K:St→Prop} (h:rZ P t M id i v K):gX P t M id i v K:=by
 unfold rZ at h
 unfold gX
 split at h
 ·rename_i hi hob
  rw [hi,hob]
  obtain ⟨h1,h2,h3⟩:=ae h
  refine av ?_ h3
  simp only [Bool.and_eq_true] at h1 h2 ⊢
  exact ⟨⟨⟨h1.1,h2.1⟩,h1.2⟩,h2.2⟩
 ·exact h.elim
theorem zn {P:Program} {a:Bn} {t:TypeId} {l c:AV} {M:St} {k:AV→St→Prop} (h:uG P a t l c M k):ip P t l c M k:=by
 unfold uG at h
 unfold ip
 split at h
 ·rename_i hu
  rw [hu]
  dsimp only
  split at h
  ·rename_i hi he
   rw [hi,he]
   dsimp only
   split at h
   ·rename_i hi2
    rw [hi2]
    dsimp only
    refine jZ h (fun n h=>?_)
    refine jZ h (fun m h=>?_)
    obtain ⟨h1,h⟩:=h
    obtain ⟨h2,h⟩:=ae h
    refine av ?_ ?_
    ·simp only [Bool.and_eq_true] at h1 h2 ⊢
     exact ⟨⟨h1,h2.1⟩,h2.2⟩
    ·refine og h (fun z h=>?_)
     split at h
     ·obtain ⟨h3,h⟩:=h
      dsimp only
      rw [h3]
      exact h
     ·exact h.elim
   ·exact h.elim
  ·exact h.elim
 ·exact h.elim
theorem zo {P:Program} {a:Bn} {t:TypeId} {m key:AV} {ok:Bool} {M:St} {k:AV→St→Prop} (h:uH P a t m key ok M k):jo P t m key ok M k:=by
 unfold uH at h
 unfold jo
 split at h
 ·rename_i hu
  rw [hu]
  dsimp only
  split at h
  ·dsimp only
   split at h
   ·rename_i hob
    rw [hob]
    dsimp only
    split at h
    ·obtain ⟨h1,h2⟩:=h
     exact h1 (fun r=>match r with
      | some i=>gu M _ i fun a M'=>pz ok a true fun r=>k r M'
      | none=>jl P _ ok fun r=>k r M) (ra h2)
    ·obtain ⟨h1,h2⟩:=h
     exact h1 (fun r=>match r with
      | some i=>gu M _ i fun a M'=>pz ok a true fun r=>k r M'
      | none=>jl P _ ok fun r=>k r M) h2
   ·exact h.elim
  ·exact h.elim
 ·exact h.elim
theorem td {P:Program} {a:Bn} {t:TypeId} {m key x:AV} {M:St} {K:St→Prop} (h:ta P a t m key x M K):kw P t m key x M K:=by
 unfold ta at h
 unfold kw
 split at h
 ·rename_i hu
  rw [hu]
  dsimp only
  split at h
  ·rename_i id
   dsimp only
   split at h
   ·rename_i ks sz cells hole hob
    rw [hob]
    dsimp only
    obtain ⟨h1,h2,h3⟩:=ae h
    refine av h1 ?_
    have h4:=h2 (OU M id sz cells hole x K) h3
    refine aD.mono2 dl h4 (fun kv r h5=>?_)
    obtain ⟨h6,h7⟩:=ae h5
    refine av h6 ?_
    cases r with
    | none=>exact h7
    | some i =>
     obtain ⟨h8,h9,h10⟩:=ae h7
     refine av ?_ h10
     rw [Bool.and_eq_true]
     exact ⟨h8,h9⟩
   ·exact h.elim
  ·exact h.elim
 ·exact h.elim
theorem vA {M:St} {x:AV} {X Y:Nat→Nat→Prop} (h:jU M x X) (hk:∀ id i,X id i→Y id i):jU M x Y:=by
 unfold jU at h ⊢
 split at h
 ·split at h
  ·exact hk _ _ h
  ·exact h.elim
 ·exact h.elim
theorem Au {P:Program} {vs:List AV} {M:St} {k:AV→St→Prop} (h:Ft P A pl o vs M k):mz P pl o vs M k:=by
 unfold Ft at h
 split at h
 ·exact h
 ·split at h
  ·rename_i ho
   unfold mz
   rw [ho]
   exact vA h (fun _ _ h=>zm h)
  ·rename_i ho
   unfold mz
   rw [ho]
   exact vA h (fun _ _ h=>yf h)
  ·rename_i ho
   unfold mz
   rw [ho]
   exact zn h
  ·rename_i ho
   unfold mz
   rw [ho]
   exact zo h
  ·rename_i ho
   unfold mz
   rw [ho]
   exact td h
  ·rename_i ho
   unfold mz
   rw [ho]
   exact td h
  ·exact h.elim
theorem zp {S:St} {id:Nat} {K:St→Prop} (h:uI A S id K):jm S id K:=by
 unfold uI at h
 split at h
 ·exact h
 ·unfold jm
  split at h
  ·rename_i hob
   rw [hob]
   dsimp only
   split at h
   ·rename_i hk
    rw [hk]
    obtain ⟨h1,h2,h3,h4⟩:=ae h
    refine av ?_ ?_
    ·rw [Bool.and_eq_true]
     exact ⟨h1,h2⟩
    ·rw [h3]
     exact h4
   ·exact h.elim
  ·rename_i hob
   rw [hob]
   dsimp only
   obtain ⟨h2,h3,h4⟩:=h
   refine av h2 ?_
   rw [h3]
   exact h4
  ·exact h.elim
theorem te:∀ {ids:List Nat} {S:St} {K:St→Prop},xY A ids S K→qx ids S K
 | [],_,_,h=>h
 | _::_,_,_,h=>aD.mono sW (zp h) (fun _ h=>te h)
theorem Bv {S:St} {id:Nat} {K:St→Prop} (h:xZ A S id K):lw S id K:=by
 unfold xZ at h
 split at h
 ·exact h
 ·unfold lw
  split at h
  ·rename_i hob
   rw [hob]
   dsimp only
   rw [h.1]
   exact h.2
  ·exact h.elim
theorem rb:∀ {ids:List Nat} {S:St} {K:St→Prop},uJ A ids S K→ny ids S K
 | [],_,_,h=>h
 | _::_,_,_,h=>aD.mono vp (Bv h) (fun _ h=>rb h)
theorem yg {id:Nat} {S:St} {K:St→Prop} (h:x_ A pl id S K):mJ pl id S K:=by
 unfold x_ at h
 unfold mJ
 split at h
 ·rename_i hc
  rw [hc]
  exact h
 ·rename_i hc
  rw [hc]
  dsimp only
  refine aD.mono (pU _ _) (te h) (fun S1 h=>?_)
  split at h
  ·rename_i hc
   rw [hc]
   exact h
  ·rename_i hc
   rw [hc]
   exact rb h
theorem Es (hC:BY C) {vs:List AV} {M:St} {k:AV→St→Prop} (h:En C A o vs M k):mK C o vs M k:=by
 unfold En at h
 split at h
 ·rename_i t X Y l c ho
  split at h
  ·unfold mK
   rw [ho]
   exact oX h
  ·exact h
 ·rename_i c fid first cap as ho
  unfold mK
  rw [ho]
  dsimp only
  split at h
  ·rename_i x hcal
   rw [hcal]
   obtain ⟨h1,h⟩:=ae h
   refine av h1 ?_
   split at h
   ·obtain ⟨h2,h3⟩:=h
    obtain ⟨r0,o0,⟨e1,e2⟩,h4⟩:=hC.det.scall _ _ _ _ h2
    subst e1 e2
    exact h4 _ h3
   ·exact h
  ·exact h.elim
 ·rename_i hne hne2
  have h':=C6 h
  unfold mK
  split
  ·rename_i t X Y l c ho
   exact absurd rfl (hne t X Y l c ho)
  ·rename_i c fid first cap as ho
   exact absurd rfl (hne2 c fid first cap as ho)
  ·exact h'
theorem GO (hC:BY C) {vs:List AV} {M:St} {k:AV→St→Prop} (h:HZ C A pl o vs M k):nX C pl o vs M k:=by
 unfold HZ at h
 unfold nX
 split at h
 ·rename_i hw
  rw [hw]
  exact Au h
 ·rename_i hw
  rw [hw]
  exact Es hC h
theorem Et (hC:BY C) {S:St} {K:St→Prop} (h:H0 C A pl o S K):qU C pl o S K:=aD.mono a6 h (fun _ h=>GO hC h)
theorem GP {S:St} {K:St→Prop} (h:Ly C A pl o S K):AL C pl o S K:=aD.mono a6 h (fun _ h=>Au h)
theorem GQ {S:St} {K:St→Prop} (h:Lz C o S K):Gd C o S K:=aD.mono a6 h (fun _ h=>H6 h)
theorem H7 (hC:BY C) {S:St} {K:St→Prop} (h:Mw C A pl o S K):AM C pl o S K:=by
 refine aD.mono (CF hC.det) (K:=pi A o K) ?_ (fun _ h=>ml h)
 unfold Mw at h
 unfold AM
 split at h
 ·rename_i hc
  rw [hc]
  exact Ar h
 ·rename_i hc
  rw [hc]
  exact As hC h
 ·rename_i hc
  rw [hc]
  exact GN h
 ·rename_i h0 h1 h2
  have:=C7 hC h
  split
  ·exact absurd (by assumption) h0
  ·exact absurd (by assumption) h1
  ·exact absurd (by assumption) h2
  ·exact this
theorem FA (hC:BY C) {S:St} {K:St→Prop} (h:OV C A pl o S K):Hm C pl o S K:=by
 unfold OV at h
 unfold Hm
 split at h
 ·rename_i hw
  rw [hw]
  exact aD.mono CC (GP h) (fun _ h=>ml h)
 ·rename_i hw
  rw [hw]
  exact H7 hC h
theorem C8 (hC:BY C) {S:St} {K:St→Prop} (h:H1 C A pl o S K):yP C pl o S K:=by
 unfold H1 at h
 split at h
 ·rename_i hc
  refine aD.mono (jw hC.det) (K:=pi A o K) ?_ (fun _ h=>ml h)
  unfold yP
  rw [hc]
  exact Ar h
 ·rename_i hc
  refine aD.mono (jw hC.det) (K:=pi A o K) ?_ (fun _ h=>ml h)
  unfold yP
  rw [hc]
  exact As hC h
 ·rename_i hc
  refine aD.mono (jw hC.det) (K:=pi A o K) ?_ (fun _ h=>ml h)
  unfold yP
  rw [hc]
  exact Et hC h
 ·rename_i hc
  unfold yP
  rw [hc]
  exact h
 ·rename_i hc
  refine aD.mono (jw hC.det) (K:=pi A o K) ?_ (fun _ h=>ml h)
  unfold yP
  rw [hc]
  exact GQ h
 ·rename_i h0 h1 h2 h4 h5
  refine aD.mono (jw hC.det) (K:=pi A o K) ?_ (fun _ h=>ml h)
  unfold yP
  split
  ·exact absurd (by assumption) h0
  ·exact absurd (by assumption) h1
  ·exact absurd (by assumption) h2
  ·exact absurd (by assumption) h4
  ·exact absurd (by assumption) h5
  ·split at h
   ·exact False.elim h
   ·rename_i hb
    rw [hb]
    exact C7 hC h
theorem J7 (hC:BY C) {all:Array Oper} {S:St} {K:St→Prop} (h:SG C A pl all o S K):ag C pl all o S K:=by
 unfold SG at h
 unfold ag
 split at h
 ·rename_i hg
  rw [hg]
  obtain ⟨h1,h⟩:=ae h
  exact av h1 (C8 hC h)
 ·rename_i j want hg
  rw [hg]
  dsimp only
  split at h
  ·exact False.elim h
  ·rename_i d hd
   rw [hd]
   dsimp only
   refine ay.mono eh h (fun b S1 h=>?_)
   have key:∀ {S:St},bA (m5 pl all o S) (H1 C A pl o S K)→vO C pl all o S K:=by
    intro S h
    obtain ⟨h1,h⟩:=ae h
    exact av h1 (C8 hC h)
   unfold gsel at h ⊢
   split at h
   ·exact key h
   ·exact key h
   ·exact h
theorem FB (hC:BY C) {ops:Array Oper} {i:Nat} {S:St} {K:St→Prop} (h:OH C A pl ops i S K):Dy C pl ops i S K:=by
 unfold OH at h
 unfold Dy
 split at h
 ·exact False.elim h
 ·rename_i o ho
  rw [ho]
  exact J7 hC h
theorem H8 {S2 S1:St} {X:Prop} (h:S2=S1∧X):u_ S2 S1 X:=by
 unfold u_
 split
 ·exact h.2
 ·exact h
theorem Bw (hC:BY C) {ops:Array Oper} {ws:List Nat}:∀ {n a:Nat} {listed:Array Bool} {t:PT} {S:St} {K:St→Prop},p7 pl ops ws n a listed=some t→oT C A pl ops t none S K→m6 C pl ops ws n listed S K
 | 0,a,listed,t,S,K,hp,h=>by
  unfold p7 at hp
  unfold m6
  split at hp
  ·cases hp
   rename_i hr
   rw [hr]
   exact h
  ·cases hp
 | n + 1,a,listed,t,S,K,hp,h=>by
  unfold p7 at hp
  unfold m6
  split at hp
  ·cases hp
   rename_i hr
   rw [hr]
   exact h
  ·rename_i r rs hr
   rw [hr]
   dsimp only
   have step:∀ {k b:Nat} {u:PT} {S:St} {K:St→Prop},p7 pl ops ws n b (listed.setIfInBounds k true)=some u→(OH C A pl ops k S fun S'=>oT C A pl ops u none S' K)→Dy C pl ops k S fun S'=>m6 C pl ops ws n (listed.setIfInBounds k true) S' K :=
    fun hj h=>aD.mono (kB hC.det) (FB hC h) (fun _ h=>Bw hC hj h)
   have alts:∀ {b:Nat} {is:List Nat} {u:PT} {S S1:St} {K:St→Prop} {X:Prop},Ap (fun i=>p7 pl ops ws n b (listed.setIfInBounds i true)) is=some u→oT C A pl ops u (some (S1,X)) S K →
     Ge (fun i K'=>Dy C pl ops i S fun S'=>m6 C pl ops ws n (listed.setIfInBounds i true) S' K') is S1 X:=by
    intro b is
    induction is with
    | nil =>
     intro u S S1 K X hu h
     unfold Ap at hu
     cases hu
     exact h
    | cons i is ih =>
     intro u S S1 K X hu h
     unfold Ap at hu
     split at hu
     ·rename_i v hv
      split at hu
      ·rename_i w hw
       cases hu
       refine aD.mono (aD.bind (kB hC.det) (fun S'=>iv hC.det _ _ _)) (step hv h) (fun S2 h=>?_)
       exact H8 ⟨h.1,ih hw h.2⟩
      ·cases hu
     ·cases hu
   split at hp
   ·rename_i k hk
    rw [hk]
    dsimp only
    split at hp
    ·cases hp
     rename_i u hj
     exact step hj h
    ·cases hp
   ·rename_i hk
    rw [hk]
    dsimp only
    split at hp
    ·split at hp
     ·cases hp
      rename_i u hj
      refine aD.mono (aD.bind (kB hC.det) (fun S'=>iv hC.det _ _ _)) (step hj h) (fun _ h=>?_)
      exact h
     ·cases hp
    ·split at hp
     ·rename_i b _ _
      unfold Ap at hp
      split at hp
      ·rename_i v hv
       split at hp
       ·rename_i w hw
        cases hp
        refine aD.mono (aD.bind (kB hC.det) (fun S'=>iv hC.det _ _ _)) (step hv h) (fun S1 h=>?_)
        exact alts hw h
       ·cases hp
      ·cases hp
     ·cases hp
theorem H9 (hC:BY C) {ops:Array Oper} {ws:List Nat}:∀ {n:Nat} {listed:Array Bool} {t:PT} {S:St} {K:St→Prop},Fv pl ops ws n listed=some t→oT C A pl ops t none S K→yT C pl ops ws n listed S K
 | 0,listed,t,S,K,hp,h=>Bw hC (n:=0) hp h
 | n + 1,listed,t,S,K,hp,h=>by
  unfold Fv at hp
  unfold yT
  split at hp
  ·rename_i i hi
   rw [hi]
   dsimp only
   split at hp
   ·cases hp
    rename_i u hj
    exact aD.mono (kB hC.det) (FB hC h) (fun _ h=>H9 hC hj h)
   ·cases hp
  ·rename_i hi
   rw [hi]
   exact Bw hC hp h
theorem Ia (hC:BY C) {ops:Array Oper} {t:PT} {S:St} {K:St→Prop} (hp:Br pl ops=some t) (h:oT C A pl ops t none S K):B7 C pl ops S K:=by
 unfold Br at hp
 unfold B7
 split at hp
 ·cases hp
 ·rename_i hn
  refine av hn ?_
  split at hp
  ·rename_i hc
   rw [hc]
   exact Bw hC hp h
  ·rename_i hc
   rw [hc]
   exact H9 hC hp h
theorem wz:∀ {x y:PT},Ek x y=true→x=y
 | .done,.done,_=>rfl
 | .go i t,.go j u,h=>by
  unfold Ek at h
  rw [Bool.and_eq_true] at h
  rw [Nat.eq_of_beq_eq_true h.1,wz h.2]
 | .alt i t r,.alt j u s,h=>by
  unfold Ek at h
  rw [Bool.and_eq_true,Bool.and_eq_true] at h
  rw [Nat.eq_of_beq_eq_true h.1,wz h.2.1,wz h.2.2]
 | .done,.go _ _,h=>by cases h
 | .done,.alt _ _ _,h=>by cases h
 | .go _ _,.done,h=>by cases h
 | .go _ _,.alt _ _ _,h=>by cases h
 | .alt _ _ _,.done,h=>by cases h
 | .alt _ _ _,.go _ _,h=>by cases h
end
open Go.RowKit (Below)
def aQ (P:Program) (c:Code) (S:St) (K:Ex→St→Prop):Prop :=
 ∃ e S',(∀ (r:Option Nat) (G:Gh) (E:Env) (a:Act) (w:World) (Q:Exit→Act→World→Prop),ap G pn E S w→TR E S.t a→JM G (fun e' S''=>e'=e∧S''=S') Q→c.wpIn (rd r) 0 P Q a w)∧K e S'
theorem aQ.mono {P:Program} {c:Code} {S:St} {K K':Ex→St→Prop} (h:aQ P c S K) (hk:∀ e S',K e S'→K' e S'):aQ P c S K' :=
 let ⟨e,S',h1,h2⟩:=h
 ⟨e,S',h1,hk _ _ h2⟩
theorem Ib (cfg:sA):BY (pZ cfg):=⟨p5 cfg⟩
theorem C9 {P:Program} {op:BinOp} {t e:TypeId} {rows:List (List AV)} {E:Env} {u:Value} (hop:OW op=true) (hu:P.underlying t=some (.slice e)) (hx:VR E (.sl rows) u) (w:World) (X Y:Operand) :
  ∃ b,(do eqGuard op t X Y u (.slice none 0 0); binOp op t u (.slice none 0 0):Sem Value).run P w=.ok (.bool b) w∧((b=Fu op∧rows=[])∨b=!(Fu op)):=by
 have h0:∃ b,(∀ d:Nat,(Op.equalIn (d + 1) t u (.slice none 0 0)).run P w=.ok b w)∧((b=true∧rows=[])∨b=false):=by
  cases hx with
  | sln=>exact ⟨true,fun d=>by unfold Op.equalIn; rw [Sem.run_bind,run_underlying hu]; rfl,.inl ⟨rfl,rfl⟩⟩
  | sle _ a cap=>exact ⟨false,fun d=>by unfold Op.equalIn; rw [Sem.run_bind,run_underlying hu]; rfl,.inr rfl⟩
  | sl us h1 h2 h3 h4 h5 h6 h7=>exact ⟨false,fun d=>by unfold Op.equalIn; rw [Sem.run_bind,run_underlying hu]; rfl,.inr rfl⟩
 obtain ⟨b,hb,hr⟩:=h0
 have hn:Hp u=true:=by cases hx <;> rfl
 have he:(Op.equal t u (.slice none 0 0)).run P w=.ok b w:=uf hb
 rw [jW hn]
 cases op with
 | eql =>
  refine ⟨b,?_,hr⟩
  have:binOp .eql t u (.slice none 0 0)=(do pure (.bool (← Op.equal t u (.slice none 0 0)))):=by cases hx <;> rfl
  simp [this,he]
 | neq =>
  refine ⟨!b,?_,?_⟩
  ·have:binOp .neq t u (.slice none 0 0)=(do pure (.bool (!(← Op.equal t u (.slice none 0 0))))):=by cases hx <;> rfl
   simp [this,he]
  ·rcases hr with ⟨rfl,hr⟩ | rfl
   ·exact .inl ⟨rfl,hr⟩
   ·exact .inr rfl
 | _=>cases hop
section
variable {G:Gh} {C:Ctx} {A:fK} {pl:bz}
theorem oI (hO:BY C) (hC:eT C) {rr:Option Nat} {all:Array Oper} {Q:Exit→Act→World→Prop}:∀ {ops:List Oper} {E:Env} {S:St} {w:World} {a:Act} {K:St→Prop},ap G pn E S w→TR E S.t a→Bq C A pl all ops S K →
  (∀ S' E' a' w',K S'→ap G pn E' S' w'→TR E' S'.t a'→Q .normal a' w')→wpListIn (rd rr) 0 C.P all Q ops a w
 | [],E,S,w,a,K,hM,ht,h,hQ=>hQ _ _ _ _ h hM ht
 | o::rest,E,S,w,a,K,hM,ht,h,hQ=>by
  have step:∀ {S1:St},ap G pn E S1 w→TR E S1.t a→Region.wanted o (yielded all a.tmps)=true→(OV C A pl o S1 fun S'=>Bq C A pl all rest S' K)→wpListIn (rd rr) 0 C.P all Q (o::rest) a w:=by
   intro S1 hM1 ht1 hw h
   unfold wpListIn
   rw [if_pos hw]
   refine Fi (HB (FA hO h)) (z3 hC hM1 ht1 (FA hO h) _ _ (fun S' E' a' w' hk hS htr=>?_))
   exact oI hO hC hS htr hk hQ
  unfold Bq at h
  split at h
  ·rename_i hg
   have hw:Region.wanted o (yielded all a.tmps)=true:=by unfold Region.wanted; rw [hg]
   split at h
   ·unfold wpListIn
    rw [if_pos hw]
    unfold LA at h
    split at h
    ·rename_i op t x yt ho
     split at h
     ·rename_i e hu
      obtain ⟨c,h,hc⟩:=eW h ht
      split at h
      ·rename_i rows
       obtain ⟨hop,h1,h2⟩:=ae h
       obtain ⟨b,hrun,hbr⟩:=C9 hop hu hc w x (.const (.slice none 0 0))
       have hex:(execOp a.eval o).run C.P w=.ok (.value (.bool b)) w:=by
        have:(execOp a.eval o)=(do pure (.value (← (do eqGuard op t x (.const (.slice none 0 0)) (a.eval x) (.slice none 0 0); binOp op t (a.eval x) (.slice none 0 0):Sem Value)))):=by
         unfold execOp
         rw [ho]
         simp [Act.eval]
        rw [this,Sem.run_bind,hrun]
        rfl
       refine Fi (fun c hc=>by rw [ho] at hc; cases hc) (eL hex ?_)
       have h3:bG o.dst (.v (.bool b)) S fun S'=>Bq C A pl all rest S' K:=by
        rcases hbr with ⟨rfl,hr⟩ | rfl
        ·exact h1 hr
        ·exact h2
       rw [aK] at h3
       exact oI hO hC (hM.congr cZ c_ di) (ht.put (.v _ _ rfl)) h3 hQ
      ·exact False.elim h
     ·exact False.elim h
    ·exact False.elim h
   ·exact step hM ht hw h
  ·rename_i j want hg
   split at h
   ·exact False.elim h
   ·rename_i d hd
    obtain ⟨b,S1,h,hb,hM1,ht1⟩:=ol hM ht h
    rcases pM hg (rL hd hb) h with ⟨hw,h⟩ | ⟨hw,h⟩
    ·exact step hM1 ht1 hw h
    ·rw [aK] at h
     unfold wpListIn
     rw [if_neg (by rw [hw]; exact fun h=>by cases h)]
     exact ⟨fun _ _=>trivial,oI hO hC (hM1.congr cZ c_ di) (ht1.put (xr _)) h hQ⟩
end
theorem Da {A:zj} {id:Nat} {S:St} {K:St→Prop} (h:GI A id S K):∃ S',fE S S'∧K S':=by
 unfold GI at h
 split at h
 ·exact wy h
 ·exact ⟨S,.refl S,h⟩
theorem vB {cfg:sA} (hmix:cfg.P.follows .mixedOrders=true) {A:zj} {pl:bz}:∀ (c:Code) {S:St} {K:Ex→St→Prop},ax pl A.ord c=true→vy (pZ cfg) (aQ cfg.P) A pl c S K →
  ∀ (r:Option Nat) (G:Gh) (E:Env) (a:Act) (w:World) (Q:Exit→Act→World→Prop),ap G pn E S w→TR E S.t a→JM G K Q→c.wpIn (rd r) 0 cfg.P Q a w:=by
 have hC:=Ib cfg
 intro c
 induction c with
 | skip=>exact fun _ h r G E a w Q hM ht hQ=>wpIn_skip (hQ .nrm _ E _ _ h hM ht)
 | region id ops draw =>
  intro S K hB h r G E a w Q hM ht hQ
  cases draw with
  | false =>
   refine wpIn_region_list (oI hC (nI cfg) hM ht h (fun S' E' a' w' hk hS htr=>?_))
   obtain ⟨S3,E3,hk,hS,htr⟩:=pK hS htr (yg hk)
   obtain ⟨S2,hw,hk⟩:=Da hk
   obtain ⟨E2,hM2,ht2⟩:=hw G E3 a' w' hS htr
   exact hQ .nrm _ _ _ _ hk hM2 ht2
  | true =>
   refine qE hmix pl id ops S (fun e S'=>e=.nrm∧GI A id S' (K .nrm)) ?_ r G E a w Q hM ht (fun e S' E' a' w' hk hS htr=>?_)
   ·unfold ax at hB
    have h':(match sB A.ord id with
    | some is=>bA (zI pl ops) (B8 (pZ cfg).P (cY ops.toList) S fun S1=>oT (pZ cfg) (GH A id) pl ops is none S1 fun S'=>nz (cY ops.toList) S' (x_ (GH A id) pl id S' fun S''=>GI A id S'' (K .nrm)))
    | none=>ak 440):=h
    split at hB
    ·rename_i is js h1 h2
     rw [h1] at h'
     dsimp only at h'
     obtain ⟨h3,h'⟩:=ae h'
     refine av h3 ?_
     refine aD.mono CG h' (fun S1 h=>?_)
     rw [wz hB] at h
     refine aD.mono (CJ hC.det) (Ia hC h2 h) (fun S' h=>?_)
     obtain ⟨h4,h5⟩:=qD h
     exact h5 _ (aD.mono uw (yg h4) (fun S'' h=>⟨rfl,h⟩))
    ·cases hB
   ·obtain ⟨rfl,hk⟩:=hk
    obtain ⟨S2,hw,hk⟩:=Da hk
    obtain ⟨E2,hM2,ht2⟩:=hw G E' a' w' hS htr
    exact hQ .nrm _ _ _ _ hk hM2 ht2
 | seq x y ihx ihy =>
  intro S K hB h r G E a w Q hM ht hQ
  unfold ax at hB
  rw [Bool.and_eq_true] at hB
  refine wpIn_seq (ihx hB.1 h r G E a w _ hM ht (fun e S' E' a' w' hk hS htr=>?_))
  cases e with
  | nrm =>
   dsimp only at hk
   split at hk
   ·obtain ⟨S2,h1,⟨e2,S3,h2,h3,h4⟩,h5⟩:=wy hk
    subst h3 h4
    obtain ⟨E2,hM2,ht2⟩:=((Bt _ _).trans h1) G E' a' w' hS htr
    refine h2 r G E2 a' w' Q hM2 ht2 (fun e' S'' E'' a'' w'' he hS' ht'=>?_)
    obtain ⟨rfl,rfl⟩:=he
    exact hQ _ _ _ _ _ h5 hS' ht'
   ·exact ihy hB.2 hk r G E' a' w' Q hS htr hQ
  | ex i=>exact hQ (.ex i) _ _ _ _ hk hS htr
  | ret=>exact hQ .ret _ _ _ _ hk hS htr
 | cond c x y ihx ihy =>
  intro S K hB h r G E a w Q hM ht hQ
  unfold ax at hB
  rw [Bool.and_eq_true] at hB
  obtain ⟨b,S1,h1,h2,h3,h4⟩:=vn hM ht h
  cases b with
  | true=>exact wpIn_cond_true h2 (ihx hB.1 h1 r G E a w Q h3 h4 hQ)
  | false=>exact wpIn_cond_false h2 (ihy hB.2 h1 r G E a w Q h3 h4 hQ)
 | block id c ih =>
  intro S K hB h r G E a w Q hM ht hQ
  refine wpIn_block (ih hB h r G E a w _ hM ht (fun e S' E' a' w' hk hS htr=>?_))
  cases e with
  | nrm=>exact hQ .nrm _ _ _ _ hk hS htr
  | ret=>exact hQ .ret _ _ _ _ hk hS htr
  | ex i =>
   show Exit.inBlock id Q (.exit i) a' w'
   unfold Exit.inBlock
   dsimp only at hk
   split at hk
   ·rename_i hb
    have:=Nat.eq_of_beq_eq_true hb
    subst this
    simp only [if_pos]
    exact hQ .nrm _ _ _ _ hk hS htr
   ·rename_i hb
    have hne:¬ i=id:=fun e=>by subst e; simp at hb
    simp only [if_neg hne]
    exact hQ (.ex i) _ _ _ _ hk hS htr
 | loop c ih =>
  intro S K hB h r G E a w Q hM ht hQ
  have h':(match sB A.lps (ya c) with
  | some (W,L,e,S1)=>OG L (wk W S) fun S2=>((pZ cfg).loop pl c S2 fun e' S'=>e'=e∧S'=S1)∧K e S1
  | none=>(pZ cfg).loop pl c S K):=h
  split at h'
  ·obtain ⟨S2,h1,h2,h3⟩:=wy h'
   obtain ⟨E2,hM2,ht2⟩:=((Bt _ _).trans h1) G E a w hM ht
   refine nJ cfg pl c S2 _ h2 r G E2 a w Q hM2 ht2 (fun e' S'' E'' a'' w'' he hS' ht'=>?_)
   obtain ⟨rfl,rfl⟩:=he
   exact hQ _ _ _ _ _ h3 hS' ht'
  ·exact nJ cfg pl c S K h' r G E a w Q hM ht hQ
 | exit id=>exact fun _ h r G E a w Q hM ht hQ=>wpIn_exit (hQ (.ex id) _ E _ _ h hM ht)
 | ret=>exact fun _ h r G E a w Q hM ht hQ=>wpIn_ret (hQ .ret _ E _ _ h hM ht)
 | _=>exact fun _ h=>False.elim h
theorem aQ.of {cfg:sA} (hmix:cfg.P.follows .mixedOrders=true) {pl:bz} {c:Code} {S S1:St} {e:Ex} {K:Ex→St→Prop} {A:zj} {we:List (Nat×(Wk×Le))} (hB:ax pl A.ord c=true)
  (h:yc (pZ cfg) (aQ cfg.P) A pl we c S (fun e' S'=>e'=e∧S'=S1)) (hk:K e S1):aQ cfg.P c S K:=by
 refine ⟨e,S1,fun r G E a w Q hM ht hQ=>?_,hk⟩
 refine vB hmix c hB h r G E a w Q hM ht (fun e' S' E' a' w' hk hS htr=>?_)
 dsimp only at hk
 split at hk
 ·obtain ⟨S2,h1,rfl,rfl⟩:=wy hk
  obtain ⟨E2,hM2,ht2⟩:=((Bt _ _).trans h1) G E' a' w' hS htr
  exact hQ _ _ _ _ _ ⟨rfl,rfl⟩ hM2 ht2
 ·obtain ⟨rfl,rfl⟩:=hk
  exact hQ _ _ _ _ _ ⟨rfl,rfl⟩ hS htr
theorem cJ.round {cfg:sA} {pl:bz} {c:Code} {S:St} {K:Ex→St→Prop}
  (h:aQ cfg.P c S fun e S'=>match e with
   | .nrm=>cJ cfg.P pl c S' K
   | .ex i=>K (.ex i) S'
   | .ret=>K .ret S'):cJ cfg.P pl c S K:=by
 obtain ⟨e1,S1,h2,h1⟩:=h
 have run:∀ (e:Ex) (S3:St) (n:Nat),(∀ (r:Option Nat) (G:Gh) (E:Env) (a:Act) (w:World) (Q:Exit→Act→World→Prop),ap G pn E S1 w→TR E S1.t a→JM G (fun e' S''=>e'=e∧S''=S3) Q→Exit.then (Code.roundsIn (rd r) 0 cfg.P c Q n) Q (Ml e1) a w) →
   ∀ (r:Option Nat) (G:Gh) (E:Env) (a:Act) (w:World) (Q:Exit→Act→World→Prop),ap G pn E S w→TR E S.t a→JM G (fun e' S''=>e'=e∧S''=S3) Q→Code.roundsIn (rd r) 0 cfg.P c Q (n + 1) a w:=by
  intro e S3 n hn r G E a w Q hM ht hQ
  refine h2 r G E a w _ hM ht (fun e' S' E' a' w' hk hS htr=>?_)
  obtain ⟨rfl,rfl⟩:=hk
  exact hn r G E' a' w' Q hS htr hQ
 cases e1 with
 | nrm =>
  obtain ⟨n,e,S',hl,hk⟩:=h1
  exact ⟨n + 1,e,S',run e S' n (fun r G E a w Q hM ht hQ=>hl r G E a w Q hM ht hQ),hk⟩
 | ex i=>exact ⟨1,.ex i,S1,run _ _ 0 (fun r G E a w Q hM ht hQ=>hQ _ _ _ _ _ ⟨rfl,rfl⟩ hM ht),h1⟩
 | ret=>exact ⟨1,.ret,S1,run _ _ 0 (fun r G E a w Q hM ht hQ=>hQ _ _ _ _ _ ⟨rfl,rfl⟩ hM ht),h1⟩
def rk {σ τ:Type} (Sf:σ→St) (out:τ→Ex×St) (r:σ⊕τ) (e:Ex) (S':St):Prop :=
 match r with
 | .inl s'=>e=.nrm∧S'=Sf s'
 | .inr t=>e≠.nrm∧e=(out t).1∧S'=(out t).2
theorem cR {σ τ:Type} {Sf:σ→St} {out:τ→Ex×St} {s:σ}:rk Sf out (.inl s) .nrm (Sf s):=⟨rfl,rfl⟩
theorem cn {σ τ:Type} {Sf:σ→St} {out:τ→Ex×St} {t:τ} {e:Ex} {S:St} (h:out t=(e,S)) (hne:e≠.nrm):rk Sf out (.inr t) e S:=by
 show e≠.nrm∧e=(out t).1∧S=(out t).2
 rw [h]
 exact ⟨hne,rfl,rfl⟩
def pk {τ:Type} (out:τ→Ex×St) (t:τ) (e:Ex) (S':St):Prop:=e=(out t).1∧S'=(out t).2
theorem li {τ:Type} {out:τ→Ex×St} {t:τ} {e:Ex} {S:St} (h:out t=(e,S)):pk out t e S:=by
 show e=(out t).1∧S=(out t).2
 rw [h]
 exact ⟨rfl,rfl⟩
theorem cJ.iter {cfg:sA} {pl:bz} {c:Code} {σ τ:Type} {step:σ→Option (σ⊕τ)} (Sf:σ→St) (out:τ→Ex×St)
  (hs:∀ s r,step s=some r→aQ cfg.P c (Sf s) (rk Sf out r)):∀ (n:Nat) (s:σ) (t:τ),A.iter step n s=some t→cJ cfg.P pl c (Sf s) fun e S'=>e=(out t).1∧S'=(out t).2
 | 0,s,t,h=>by cases h
 | n + 1,s,t,h=>by
  unfold A.iter at h
  split at h
  ·cases h
  ·rename_i s' hs'
   refine cJ.round ((hs s _ hs').mono fun e S' h1=>?_)
   obtain ⟨rfl,rfl⟩:=h1
   exact cJ.iter Sf out hs n s' t h
  ·rename_i t' ht'
   cases h
   refine cJ.round ((hs s _ ht').mono fun e S' h1=>?_)
   obtain ⟨h0,h1,h2⟩:=h1
   cases e with
   | nrm=>exact absurd rfl h0
   | ex i=>exact ⟨h1,h2⟩
   | ret=>exact ⟨h1,h2⟩
theorem aw.le {P:Program} {f:Nat} {as as':List AV} {K:AV→Prop} (h:aw P f as' K) (hl:dE as as'):aw P f as K:=by
 obtain ⟨r,⟨h1,h2⟩,h3⟩:=h
 exact ⟨r,⟨h1,fun F w us hF hg hv=>h2 F w us hF hg (hl.vrs hv)⟩,h3⟩
theorem aw.to {P:Program} {f:Nat} {as:List AV} {r:AV} (h:aw P f as fun x=>ce x r):aw P f as fun x=>x=r:=by
 obtain ⟨x,⟨h1,h2⟩,h3⟩:=h
 refine ⟨r,⟨h1,fun F w us hF hg hv=>(h2 F w us hF hg hv).mono ?_⟩,rfl⟩
 rintro e w' ⟨v,F',h4,h5,h6⟩
 exact ⟨v,F',h4,h3 _ _ h5,h6⟩
theorem vC {cfg:sA} (hN:mN cfg.P) (hmix:cfg.P.follows .mixedOrders=true) {A:zj} {f:Nat} {args:List AV} {o:List Ob} {K:AV→St→Prop} (hB:ax (cfg.pol f) A.ord (aj cfg.P f)=true) (h:Fw (pZ cfg) (aQ cfg.P) A f args o K) :
  sJ cfg.P f∧∀ (G:Gh) (E:Env) (w:World) (us:Array Value),ap G pn E (JL o o.length) w→Dz E→ca E args us.toList→Calls cfg.P f us w fun e w'=>∃ v r S' E',K r S'∧e=.returned v∧ap G pn E' S' w'∧VR E' r v:=by
 unfold Fw at h
 split at h
 ·rename_i fn hf
  split at h
  ·rename_i c hb
   have hb0:cfg.P.funcs[f]?=some fn:=hf
   refine ⟨⟨fn,c,hb0,hb,hN f fn hb0⟩,fun G E w us hM hg hv=>?_⟩
   refine xp.1 (callsIn_of_wp (F:=rd none) (n:=0) hb0 hb trivial ?_)
   have hl:args.length=us.size:=by simpa using hv.1
   unfold aj at hB
   rw [hb0] at hB
   dsimp only at hB
   rw [hb] at hB
   refine vB hmix c hB h none G E _ w _ (hM.congr rfl rfl rfl) ⟨?_,fun n c' u h1 h2=>?_,rfl,hg⟩ (fun e S' E' a' w' hk hS htr=>?_)
   ·simp [xu,hl]
   ·dsimp only at h1 h2
    by_cases hn:n<args.length
    ·rw [List.getElem?_append_left hn] at h1
     rw [Array.getElem?_append_left (by omega)] at h2
     exact hv.2 n c' u h1 (by simpa using h2)
    ·rw [List.getElem?_append_right (by omega)] at h1
     rw [xt h1]
     exact .bad _ _
   ·cases e with
    | ex i=>exact False.elim hk
    | nrm =>
     obtain ⟨r,u,hk',hr,hrun⟩:=kA hS htr hk
     exact ⟨htr.df,u,hrun,u,r,S',E',hk',rfl,hS,hr⟩
    | ret =>
     obtain ⟨r,u,hk',hr,hrun⟩:=kA hS htr hk
     exact ⟨htr.df,u,hrun,u,r,S',E',hk',rfl,hS,hr⟩
  ·exact False.elim h
 ·exact False.elim h
theorem aw.ofO {cfg:sA} (hN:mN cfg.P) (hmix:cfg.P.follows .mixedOrders=true) {A:zj} {f:Nat} {args:List AV} {r:AV} (hB:ax (cfg.pol f) A.ord (aj cfg.P f)=true) (h:Fx (pZ cfg) (aQ cfg.P) A f args (fun x=>ce x r)):aw cfg.P f args (fun x=>x=r):=by
 obtain ⟨h1,h2⟩:=vC hN hmix hB h
 refine ⟨r,⟨h1,fun F w us hF hg hv=>?_⟩,rfl⟩
 have hM:ap { w0:=w,M:=fun _=>False,F:=F,mu:=fun _=>none } pn ⟨F,fun _=>none,w.heap⟩ (JL [] 0) w :=
  ⟨rfl,rfl,rfl,rfl,Nat.le_refl _,fun _ _ _=>rfl,fun _ h=>h,hF,fun _ h _=>.inl h,fun _ _ _ _ _ h=>(by cases h),fun _ _ _ _ _ _ _ _ _ h _=>(by cases h),fun _=>rfl,fun _=>trivial,fun _ h=>(by cases h),Nat.le_refl _,fun _ _=>rfl,fun _ _ h=>(by cases h),fun _ _=>rfl⟩
 refine (h2 _ _ w us hM hg hv).mono ?_
 rintro e w' ⟨v,c,S',E',hk,rfl,hS,hr⟩
 unfold AJ at hk
 split at hk
 ·rename_i b hb
  rw [cw] at hk
  have hd:=iT hS _ hb hr (ids:=dX S'.o 6 c) (fun i hi=>hi)
  refine ⟨v,FD E' (dX S'.o 6 c),rfl,?_,⟨hS.os,hS.tape,hS.output,hS.size,fun b' hb'=>hS.keep b' hb' (fun h=>h)⟩,fun b' h=>.inl (hS.F0 b' h),Hq hS,fun b' h hlt=>?_⟩
  ·have e:(⟨FD E' (dX S'.o 6 c),fun _=>none,w'.heap⟩:Env)=E'.fd (dX S'.o 6 c):=by
    unfold Env.fd
    rw [hS.hp]
   rw [e]
   exact hk _ _ hd
  ·rcases h with h | ⟨id,_,o',s,n,h⟩
   ·rcases hS.Fnew b' h hlt with h3 | h3
    ·exact h3
    ·exact h3.elim
   ·rcases (hS.own _ _ _ _ _ h).2.2 with h3 | h3
    ·exact h3.elim
    ·have h3:w.heap.size≤b':=h3
     omega
 ·exact False.elim hk
theorem SD.ofO {cfg:sA} (hN:mN cfg.P) (hmix:cfg.P.follows .mixedOrders=true) {A:zj} {f:Nat} {args:List AV} {o o1:List Ob} {r1:AV} {K:AV→List Ob→Prop} (hB:ax (cfg.pol f) A.ord (aj cfg.P f)=true) (h:Eo (pZ cfg) (aQ cfg.P) A f args o (fun r o'=>r=r1∧o'=o1)) (hk:K r1 o1):SD cfg.P f args o K:=by
 obtain ⟨h1,h2⟩:=vC hN hmix hB h
 refine ⟨r1,o1,⟨h1,fun E w us hM hg hv=>(h2 _ E w us hM hg hv).mono ?_⟩,hk⟩
 rintro e w' ⟨v,r,S',E',hk,rfl,hS,hr⟩
 obtain ⟨hb,rfl,rfl⟩:=ae hk
 simp only [Bool.and_eq_true] at hb
 have:=hS.obj_only
 rw [Nat.eq_of_beq_eq_true hb.2] at this
 exact ⟨v,r,S'.o,E'.ob,⟨rfl,rfl⟩,rfl,this,l5 4 hb.1 hr⟩
def aS (k:IntKind) (x:Int):AV:=.v (.int k x)
def LB (x:Bool):AV:=.v (.bool x)
def UY (x:ByteArray):AV:=.v (.string x)
def eN {α:Type} (f:α→List AV) (l:List α):AV:=.sl (l.map f)
def bq {α:Type} (f:α→List AV) (x:α):AV:=.agg (f x)
def mm (k:IntKind) (x:Int):List AV:=[.v (.int k x)]
def eR (x:Bool):List AV:=[.v (.bool x)]
def UZ (x:ByteArray):List AV:=[.v (.string x)]
def dA {α:Type} (f:α→List AV) (l:List α):List AV:=[.sl (l.map f)]
def dB {α β:Type} (f:α→AV) (g:β→AV) (e:α×β):AV×AV:=(f e.1,g e.2)
def Db {α:Type} (f:α→List AV):Option α→AV
 | none=>.nilp
 | some x=>.fptr (f x) 0
def U0 {α:Type} (f:α→List AV) (x:Option α):List AV:=[Db f x]
theorem yQ {k:IntKind} {a b:Int} (h:(a==b)=true):AV.v (.int k a)=AV.v (.int k b):=by rw [eq_of_beq h]
theorem i3 {i:Nat}:Ex.ex i≠Ex.nrm:=fun h=>by cases h
theorem gF:Ex.ret≠Ex.nrm:=fun h=>by cases h
theorem tf {α:Type} (f:α→List AV) (l:List α):AV.v (.int .i64 (((l.map f).length:Nat):Int))=AV.v (.int .i64 (l.length:Int)):=by rw [List.length_map]
theorem nf {α:Type} (f:α→List AV) {l:List α} {i:Int} {x:α} (h:au l i=some x):DC (l.map f) i=some (f x):=by
 unfold au at h
 unfold DC
 split
 ·rename_i h0
  rw [if_pos h0] at h
  rw [List.getElem?_map,h]
  rfl
 ·rename_i h0
  rw [if_neg h0] at h
  cases h
theorem qI {α:Type} (f:α→List AV) {l:List α} {i:Int} {x:α} (h:au l i=some x):(l.map f)[i.toNat]?=some (f x):=by
 unfold au at h
 split at h
 ·rw [List.getElem?_map,h]
  rfl
 ·cases h
theorem Dc {α:Type} (f:α→List AV) (l:List α) {sz:Nat} (hf:∀ x,Nat.beq (f x).length sz=true):cH sz (l.map f)=true:=by
 cases l with
 | nil=>rfl
 | cons x l=>exact hf x
theorem Eu {α:Type} (f:α→List AV) (l:List α) (hf:∀ x,(f x).all m3=true):aT (l.map f)=true:=by
 unfold aT
 rw [List.all_eq_true]
 intro r hr
 obtain ⟨x,_,rfl⟩:=List.mem_map.1 hr
 exact hf x
theorem lz {α:Type} (f:α→List AV) (l m:List α):l.map f++m.map f=(l++m).map f:=List.map_append.symm
theorem fq {α:Type} (f:α→List AV) (l:List α) (i:Nat) (x:α):(l.map f).set i (f x)=(l.set i x).map f:=(List.map_set).symm
theorem lA {α:Type} (f:α→List AV) (n:Nat) (x:α):List.replicate n (f x)=(List.replicate n x).map f:=List.map_replicate.symm
theorem J8 {α:Type} (f:α→List AV) (l:List α) (i off a b:Nat):AV.msl i off (a + (l.map f).length) (b - (l.map f).length)=AV.msl i off (a + l.length) (b - l.length):=by rw [List.length_map]
theorem FC {α:Type} (f:α→List AV) (l:List α) (i off a b:Nat):AV.msl i off a ((l.map f).length - b)=AV.msl i off a (l.length - b):=by rw [List.length_map]
theorem Dd {α:Type} (f:α→List AV) (l:List α) (i off a b:Nat):AV.msl i off ((l.map f).length - a) b=AV.msl i off (l.length - a) b:=by rw [List.length_map]
theorem J9 {α:Type} (f:α→List AV) (l m:List α) (a:Nat):(l.map f).take a++(m.map f++(l.map f).drop (a + (m.map f).length))=(l.take a++(m++l.drop (a + m.length))).map f:=by
 rw [List.length_map,List.map_append,List.map_append,List.map_take,List.map_drop]
theorem GR {α:Type} {f:α→List AV} {l:List α} {k:Nat} (h:Nat.ble l.length k=true):Nat.ble (l.map f).length k=true:=by rw [List.length_map]; exact h
theorem GT {α:Type} {f:α→List AV} {l:List α} {k:Nat} (h:Nat.ble k l.length=true):Nat.ble k (l.map f).length=true:=by rw [List.length_map]; exact h
theorem LC {α:Type} (f:α→List AV) (l:List α) (a b:Nat):AV.sl (((l.map f).drop a).take b)=AV.sl (((l.drop a).take b).map f):=by rw [List.map_take,List.map_drop]
theorem Mz {α:Type} (f:α→List AV) (l:List α) (a b:Nat):ce (.sl (((l.map f).drop a).take b)) (.sl (((l.drop a).take b).map f)):=by rw [LC]; exact ce.refl _
theorem By {α:Type} {f:α→List AV} {l:List α} {h:Int} (e:(decide (0≤h)&&decide (h≤(l.length:Int)))=true):(decide (0≤h)&&decide (h≤(((l.map f).length:Nat):Int)))=true:=by rw [List.length_map]; exact e
theorem Ic {α:Type} {f:α→List AV} {l:List α} {a h:Int} (e:(decide (0≤a)&&decide (a≤h)&&decide (h≤(l.length:Int)))=true):(decide (0≤a)&&decide (a≤h)&&decide (h≤(((l.map f).length:Nat):Int)))=true:=by rw [List.length_map]; exact e
theorem J_ {α:Type} (f:α→List AV) {l:List α} (h:l.map f=[]):ce .nilsl (.sl (l.map f)):=by rw [h]; exact ce.nil
theorem MA {α:Type} (f:α→List AV) (n:Nat) {z:List AV} {x:α} (h:dE z (f x)):fF (List.replicate n z) ((List.replicate n x).map f):=by
 rw [List.map_replicate]
 refine ⟨by simp,fun i a b h1 h2=>?_⟩
 rw [List.getElem?_replicate] at h1 h2
 split at h1
 ·cases h1
  rename_i hi
  rw [if_pos hi] at h2
  cases h2
  exact h
 ·cases h1
theorem Ka (n i off a b:Nat) (z:List AV):AV.msl i off a ((List.replicate n z).length - b)=AV.msl i off a (n - b):=by rw [List.length_replicate]
theorem mS {α:Type} {f:α→List AV} {l:List α} {k m:Nat} (h:Nat.ble (l.length * k) m=true):Nat.ble ((l.map f).length * k) m=true:=by rw [List.length_map]; exact h
theorem iZ {α:Type} {f:α→List AV} {l:List α} {k m n:Nat} (h:Nat.ble ((l.length + n) * k) m=true):Nat.ble (((l.map f).length + n) * k) m=true:=by rw [List.length_map]; exact h
theorem GU {α:Type} {f:α→List AV} {l l':List α} {k m:Nat} (h:Nat.ble ((l.length + l'.length) * k) m=true):Nat.ble (((l.map f).length + (l'.map f).length) * k) m=true:=by rw [List.length_map,List.length_map]; exact h
def nK {α:Type} (f:α→List AV) (c:Option (List α)):Option (List (List AV)):=c.map fun l=>l.map f
section
variable {α:Type} (f:α→List AV)
theorem MB {cs:List (Option (List α))} {i:Nat} {x:Option (List α)} {r:List α} (h:cs[i]?=some x) (h1:x=some r):(cs.map (nK f))[i]?=some (some (r.map f)):=by
 rw [List.getElem?_map,h,h1]
 rfl
theorem MC {cs:List (Option (List α))} {i:Nat} {x:Option (List α)} (h:cs[i]?=some x) (h1:x=none):(cs.map (nK f))[i]?=some none:=by
 rw [List.getElem?_map,h,h1]
 rfl
theorem LD {cs:List (Option (List α))} {i:Nat} {x:Option (List α)} (h:cs[i]?=some x):Nat.blt i (cs.map (nK f)).length=true:=by
 have:i<cs.length:=(List.getElem?_eq_some_iff.1 h).1
 rw [List.length_map]
 exact Nat.blt_eq.mpr this
theorem zq (i:Nat):Nat.beq i i=true:=Nat.beq_refl i
theorem Ie (cs:List (Option (List α))) (i:Nat) (r:List α):(cs.map (nK f)).set i (some (r.map f))=(cs.set i (some r)).map (nK f):=by
 rw [List.map_set]
 rfl
theorem MD (cs:List (Option (List α))) (r:List α):(cs.map (nK f)++[none]).set (cs.map (nK f)).length (some (r.map f))=(cs++[some r]).map (nK f):=by
 rw [List.set_append_right _ _ (Nat.le_refl _),Nat.sub_self,List.map_append]
 rfl
theorem ME (cs:List (Option (List α))):Nat.blt (cs.map (nK f)).length (cs.map (nK f)++[none]).length=true:=by
 rw [List.length_append]
 exact Nat.blt_eq.mpr (Nat.lt_succ_self _)
theorem OX {κ:Type} (kf:κ→AV):∀ (ks:List κ) (cs:List (Option (List α))),pg cs=true→mI (ks.map kf) (cs.map (nK f))=(BZ ks cs).map (dB kf (eN f))
 | [],_,_=>by cases ‹List (Option (List α))› <;> rfl
 | _::_,[],_=>rfl
 | k::ks,c::cs,h=>by
  unfold pg at h
  rw [Bool.and_eq_true] at h
  obtain ⟨r,rfl⟩:=Option.isSome_iff_exists.1 h.1
  show (kf k,AV.sl (r.map f))::mI (ks.map kf) (cs.map (nK f))=_
  rw [OX kf ks cs h.2]
  rfl
end
theorem oJ {α:Type} {P:Program} (c:Prop) [Decidable c] (x y:Sem α):aH P (if c then x else y)=if c then aH P x else aH P y:=by
 split <;> rfl
def MF (f:Nat→Option Bool):List Nat→Option Bool
 | []=>some true
 | i::is=>match f i with
  | some e=>match MF f is with
   | some s=>some (e&&s)
   | none=>none
  | none=>none
def GV (P:Program):Nat→TypeId→Value→Value→Option Bool
 | 0,_,_,_=>none
 | n + 1,t,x,y =>
  match P.underlying t,x,y with
  | some .bool,.bool a,.bool b=>some (a==b)
  | some (.int _),.int k a,.int k' b=>if k=k' then some (a==b) else none
  | some .string,.string a,.string b=>some (a.toList==b.toList)
  | some (.struct fs),.agg xs,.agg ys=>match P.stoodInHeld t with
   | true=>none
   | false => fs.toList.foldr (fun f (r : Option Bool × Bool) => match f.name == "_", aH P (part f.type xs f.offset), aH P (part f.type ys f.offset) with
     | false,some a,some b=>match GV P n f.type a b,r with
      | some e,(_,false)=>(some e,true)
      | some e,(some s,true)=>(some (e&&s),true)
      | _,_=>(none,true)
     | _,_,_=>(none,true)) (some true,false) |>.1
  | some (.array len e),.agg xs,.agg ys=>match aH P (sizeOf e) with
   | some m=>MF (fun i=>match aH P (part e xs (i * m)),aH P (part e ys (i * m)) with
    | some a,some b=>GV P n e a b
    | _,_=>none) (List.range' 0 len)
   | none=>none
  | _,_,_=>none
theorem gB {P:Program} {t:TypeId} {d:TypeDesc} (h:P.underlying t=some d):aH P (underlying t)=some d:=by
 unfold underlying
 simp [a5,program,aH,h]
 rfl
theorem GW {P:Program} {t:TypeId} {fs:Array Field} {xs ys:Array Value} {d:Nat} (ht:P.underlying t=some (.struct fs)) (hp:P.stoodInHeld t=false) :
  aH P (Op.equalIn (d + 1) t (.agg xs) (.agg ys))=aH P (Op.eqFields d xs ys fs.toList):=by
 simp only [Op.equalIn,a5,gB ht,Option.bind_some]
 have hprog:aH P program=some P:=rfl
 simp only [a5,hprog,Option.bind_some,hp,Bool.false_eq_true,if_false]
 rw [← Array.forIn_toList]
 generalize fs.toList=l
 clear ht
 induction l with
 | nil=>rfl
 | cons f l ih =>
  simp only [List.forIn_cons,Op.eqFields,a5,oJ]
  split
  ·try simp only [a5]
   generalize aH P (part f.type xs f.offset)=r1
   cases r1 with
   | none=>rfl
   | some a =>
    simp only [Option.bind_some]
    generalize aH P (part f.type ys f.offset)=r2
    cases r2 with
    | none=>rfl
    | some b =>
     simp only [Option.bind_some]
     generalize aH P (Op.equalIn d f.type a b)=r3
     cases r3 with
     | none=>rfl
     | some r =>
      cases r
      ·rfl
      ·simp only [Option.bind_some]
       exact ih
  ·exact ih
def wA (d:Nat) (e:TypeId) (m:Nat) (xs ys:Array Value):List Nat→Sem Bool
 | []=>pure true
 | i::is=>do
  if !(← Op.equalIn d e (← part e xs (i * m)) (← part e ys (i * m))) then return false
  wA d e m xs ys is
theorem If {P:Program} {t e:TypeId} {len m:Nat} {xs ys:Array Value} {d:Nat} (ht:P.underlying t=some (.array len e)) (hm:aH P (sizeOf e)=some m) :
  aH P (Op.equalIn (d + 1) t (.agg xs) (.agg ys))=aH P (wA d e m xs ys (List.range' 0 len)):=by
 simp only [Op.equalIn,a5,gB ht,Option.bind_some,hm]
 simp only [Std.Legacy.Range.forIn_eq_forIn_range',Std.Legacy.Range.size,Nat.sub_zero,Nat.add_one_sub_one,Nat.div_one]
 generalize List.range' 0 len=l
 clear ht
 induction l with
 | nil=>rfl
 | cons i l ih =>
  simp only [List.forIn_cons,wA,a5,oJ]
  generalize aH P (part e xs (i * m))=r1
  cases r1 with
  | none=>rfl
  | some a =>
   simp only [Option.bind_some]
   generalize aH P (part e ys (i * m))=r2
   cases r2 with
   | none=>rfl
   | some b =>
    simp only [Option.bind_some]
    generalize aH P (Op.equalIn d e a b)=r3
    cases r3 with
    | none=>rfl
    | some r =>
     cases r
     ·rfl
     ·simp only [Option.bind_some]
      exact ih
theorem qJ {P:Program}:∀ (n d:Nat) {t:TypeId} {x y:Value} {b:Bool},n≤d→GV P n t x y=some b→aH P (Op.equalIn d t x y)=some b
 | 0,_,_,_,_,_,_,h=>by cases h
 | n + 1,0,_,_,_,_,hd,_=>by omega
 | n + 1,d + 1,t,x,y,b,hd,h=>by
  unfold GV at h
  split at h
  ·rename_i hu
   cases h
   simp only [Op.equalIn,a5,gB hu,Option.bind_some]
   rfl
  ·rename_i hu
   split at h
   ·rename_i hk
    cases h
    simp only [Op.equalIn,a5,gB hu,Option.bind_some]
    rw [if_pos hk]
    rfl
   ·cases h
  ·rename_i hu
   cases h
   simp only [Op.equalIn,a5,gB hu,Option.bind_some,← beq_toListBytes]
   rfl
  ·rename_i fs xs ys hu
   split at h
   ·cases h
   ·rename_i hp
    rw [GW hu hp]
    have key : ∀ (l : List Field) (r : Option Bool) (m : Bool), l.foldr (fun f (r : Option Bool × Bool) => match f.name == "_", aH P (part f.type xs f.offset), aH P (part f.type ys f.offset) with
     | false,some a,some b=>match GV P n f.type a b,r with
      | some e,(_,false)=>(some e,true)
      | some e,(some s,true)=>(some (e&&s),true)
      | _,_=>(none,true)
     | _,_,_=>(none,true)) (some true,false)=(r,m)→(m=false→l=[])∧∀ b,r=some b→aH P (Op.eqFields d xs ys l)=some b:=by
     intro l
     induction l with
     | nil =>
      intro r m h
      cases h
      exact ⟨fun _=>rfl,fun b hb=>by cases hb; rfl⟩
     | cons f l ih =>
      intro r m h
      rw [List.foldr_cons] at h
      generalize hq:(l.foldr _ (some true,false):Option Bool×Bool)=q at h
      obtain ⟨r',m'⟩:=q
      obtain ⟨ih1,ih2⟩:=ih r' m' hq
      split at h
      ·rename_i a b hn ha hb
       have hn' : f.name ≠ "_" := by simpa using hn
       have step:∀ e,GV P n f.type a b=some e→aH P (Op.eqFields d xs ys (f::l))=match e with | true=>aH P (Op.eqFields d xs ys l) | false=>some false:=by
        intro e he
        simp only [Op.eqFields]
        rw [if_pos hn']
        simp only [a5,ha,hb,Option.bind_some,qJ n d (by omega) he]
        cases e <;> rfl
       cases hv:GV P n f.type a b with
       | none =>
        rw [hv] at h
        cases h
        exact ⟨fun h=>(by cases h),fun b' hb'=>(by cases hb')⟩
       | some e =>
        rw [hv] at h
        cases m' with
        | false =>
         cases h
         refine ⟨fun h=>(by cases h),fun b' hb'=>?_⟩
         cases hb'
         rw [step e hv,ih1 rfl]
         cases e <;> rfl
        | true =>
         cases r' with
         | none =>
          cases h
          exact ⟨fun h=>(by cases h),fun b' hb'=>(by cases hb')⟩
         | some s =>
          cases h
          refine ⟨fun h=>(by cases h),fun b' hb'=>?_⟩
          cases hb'
          rw [step e hv,ih2 s rfl]
          cases e <;> rfl
      ·cases h
       exact ⟨fun h=>(by cases h),fun b' hb'=>(by cases hb')⟩
    generalize hq:(fs.toList.foldr _ (some true,false):Option Bool×Bool)=q at h
    obtain ⟨r,m⟩:=q
    exact (key _ r m hq).2 b h
  ·rename_i len e xs ys hu
   split at h
   ·rename_i m hm
    rw [If hu hm]
    generalize List.range' 0 len=l at h ⊢
    induction l generalizing b with
    | nil =>
     cases h
     rfl
    | cons i l ih =>
     unfold MF at h
     split at h
     ·rename_i c hc
      split at hc
      ·rename_i u v h1 h2
       split at h
       ·rename_i s hs
        cases h
        simp only [wA,a5,h1,h2,Option.bind_some,qJ n d (by omega) hc]
        cases c
        ·rfl
        ·exact ih _ hs
       ·cases h
      ·cases hc
     ·cases h
   ·cases h
  ·cases h
theorem Av {P:Program} {t:TypeId} {xs ys:List Value} {b:Bool} (hg:P.eqGuardType P.depth t=false) (h:GV P 16 t (.agg xs.toArray) (.agg ys.toArray)=some b):pw P .eql t xs ys=some (.bool b):=by
 unfold pw
 have h1:aH P (eqGuard .eql t (.tmp 0) (.tmp 0) (.agg xs.toArray) (.agg ys.toArray))=some ():=by
  simp [eqGuard,a5,program,aH,hg]
  rfl
 have h2:aH P (binOp .eql t (.agg xs.toArray) (.agg ys.toArray))=some (.bool b):=by
  have:=qJ (P:=P) 16 10000 (by omega) h
  simp only [binOp,Op.equal,Op.maxDepth]
  rw [a5,this]
  rfl
 rw [a5,h1]
 exact h2
structure vD (P:Program) (kt:TypeId) {κ:Type} (kf:κ→AV) (kv:κ→Value) (beq:κ→κ→Bool):Prop where
 tok:∀ k,u9 (kf k)=some (kv k)
 eqv:∀ a b,GV P 16 kt (kv a) (kv b)=some (beq a b)
 chk:∀ e k,aH P (Instr.checkKey e 10000 kt (kv k))=some ()
 sam:∀ a b,beq a b=true→Instr.sameBits 10000 (kv b) (kv a)=true
def Bz:List Bool→Nat→Option Nat
 | [],_=>none
 | true::_,i=>some i
 | false::bs,i=>Bz bs (i + 1)
theorem yh {P:Program} {kt:TypeId} {x:Value}:∀ {es:List MapEntry} {bs:List Bool} {i:Nat},es.length=bs.length→(∀ (j:Nat) (e:MapEntry) (b:Bool),es[j]?=some e→bs[j]?=some b→GV P 16 kt x e.key=some b) →
  ∃ r,aH P (Instr.findAsking kt x es i)=some r∧r.map (·.1)=Bz bs i
 | [],[],i,_,_=>⟨none,rfl,rfl⟩
 | [],_::_,_,h,_=>by simp at h
 | _::_,[],_,h,_=>by simp at h
 | e::es,b::bs,i,hl,hv=>by
  have h0:=qJ (P:=P) 16 10000 (by omega) (hv 0 e b rfl rfl)
  unfold Instr.findAsking
  rw [a5]
  have h1:aH P (Op.equal kt x e.key)=some b:=h0
  rw [h1,Option.bind_some,oJ]
  cases b with
  | true=>exact ⟨some (i,e.val),rfl,rfl⟩
  | false=>exact yh (es:=es) (bs:=bs) (i:=i + 1) (by simpa using hl) (fun j e' b' h2 h3=>hv (j + 1) e' b' (by simpa using h2) (by simpa using h3))
theorem FE {P:Program} {kt:TypeId} {x:Value} {d:TypeDesc} (hd:P.underlying kt=some d):∀ {es:List MapEntry} {bs:List Bool} {i:Nat} {r:Option (Nat×Value)},es.length=bs.length→(∀ (j:Nat) (e:MapEntry) (b:Bool),es[j]?=some e→bs[j]?=some b→GV P 16 kt x e.key=some b) →
  Instr.findNow d x es i=some r→r.map (·.1)=Bz bs i
 | [],[],i,r,_,_,h=>by cases h; rfl
 | [],_::_,_,_,h,_,_=>by simp at h
 | _::_,[],_,_,h,_,_=>by simp at h
 | e::es,b::bs,i,r,hl,hv,h=>by
  have h0:=hv 0 e b rfl rfl
  have hs:∀ c,Instr.sameNow d x e.key=some c→c=b:=by
   intro c hc
   unfold GV at h0
   rw [hd] at h0
   generalize e.key=y at h0 hc
   unfold Instr.sameNow at hc
   split at hc
   ·dsimp only at h0
    split at hc
    ·rename_i hk
     rw [if_pos hk] at h0
     rw [hc] at h0
     exact Option.some.inj h0
    ·cases hc
   ·dsimp only at h0
    rw [beq_toListBytes] at hc
    rw [hc] at h0
    exact Option.some.inj h0
   ·dsimp only at h0
    rw [hc] at h0
    exact Option.some.inj h0
   ·cases hc
  unfold Instr.findNow at h
  split at h
  ·rename_i hc
   cases h
   rw [← hs _ hc]
   rfl
  ·rename_i hc
   rw [← hs _ hc]
   exact FE hd (es:=es) (bs:=bs) (i:=i + 1) (by simpa using hl) (fun j e' b' h2 h3=>hv (j + 1) e' b' (by simpa using h2) (by simpa using h3)) h
  ·cases h
theorem Kb {P:Program} {kt:TypeId} {x:Value} {es:List MapEntry} {bs:List Bool} {d:TypeDesc} (hd:P.underlying kt=some d) (hl:es.length=bs.length) (hv:∀ (j:Nat) (e:MapEntry) (b:Bool),es[j]?=some e→bs[j]?=some b→GV P 16 kt x e.key=some b) :
  ∃ r,aH P (Instr.findKey kt x es)=some r∧r.map (·.1)=Bz bs 0:=by
 unfold Instr.findKey
 rw [a5,gB hd,Option.bind_some]
 split
 ·rename_i r hr
  exact ⟨r,rfl,FE hd hl hv hr⟩
 ·exact yh hl hv
theorem yi {κ β:Type} {kf:κ→AV} {kv:κ→Value} {vf:β→AV} (ht:∀ k,u9 (kf k)=some (kv k)):∀ l:List (κ×β),keysOf (l.map (dB kf vf))=some (l.map fun e=>({ key:=kv e.1,val:=.bool false,born:=0 }:MapEntry))
 | []=>rfl
 | e::l=>by
  show (match u9 (kf e.1),keysOf (l.map (dB kf vf)) with
   | some x,some xs=>some (({ key:=x,val:=.bool false,born:=0 }:MapEntry)::xs)
   | _,_=>none)=_
  rw [ht,yi ht l]
  rfl
theorem uK {P:Program} {kt:TypeId} {κ β:Type} {kf:κ→AV} {kv:κ→Value} {beq:κ→κ→Bool} {vf:β→AV} (hd:(P.underlying kt).isSome=true) (hk:vD P kt kf kv beq) (l:List (κ×β)) (k:κ) {K:Value→Option Nat→Prop}
  (h:K (kv k) (Bz (l.map fun e=>beq k e.1) 0)):cU P kt (kf k) (l.map (dB kf vf)) K:=by
 obtain ⟨d,hd⟩:=Option.isSome_iff_exists.1 hd
 unfold cU
 rw [hk.tok,yi hk.tok]
 dsimp only
 rw [hk.chk]
 obtain ⟨r,h1,h2⟩:=Kb (P:=P) (x:=kv k) (es:=l.map fun e=>({ key:=kv e.1,val:=.bool false,born:=0 }:MapEntry)) (bs:=l.map fun e=>beq k e.1) hd (by simp) (fun j e b h1 h2=>by
  rw [List.getElem?_map,Option.map_eq_some_iff] at h1 h2
  obtain ⟨x,h3,rfl⟩:=h1
  obtain ⟨y,h4,rfl⟩:=h2
  rw [h3] at h4
  cases h4
  exact hk.eqv _ _)
 rw [h1]
 dsimp only
 rw [h2]
 exact h
theorem yj {κ β:Type} {beq:κ→κ→Bool} {k:κ}:∀ (l:List (κ×β)) (i:Nat),(Bz (l.map fun e=>beq k e.1) i=none∧ll beq l k=none)∨∃ j e,Bz (l.map fun e=>beq k e.1) i=some (i + j)∧l[j]?=some e∧beq k e.1=true∧ll beq l k=some e.2
 | [],i=>.inl ⟨rfl,rfl⟩
 | e::l,i=>by
  rw [List.map_cons]
  cases hb:beq k e.1 with
  | true=>exact .inr ⟨0,e,rfl,rfl,hb,by unfold ll; rw [if_pos hb]⟩
  | false =>
   have hg:ll beq (e::l) k=ll beq l k:=by
    show (if beq k e.1=true then some e.2 else ll beq l k)=_
    rw [if_neg (by rw [hb]; exact Bool.false_ne_true)]
   rcases yj (β:=β) (beq:=beq) (k:=k) l (i + 1) with ⟨h1,h2⟩ | ⟨j,e',h1,h2,h3,h4⟩
   ·exact .inl ⟨h1,hg.trans h2⟩
   ·exact .inr ⟨j + 1,e',by rw [show i + (j + 1)=i + 1 + j by omega]; exact h1,h2,h3,hg.trans h4⟩
def Sm (P:Program) (kt e:TypeId) {κ β:Type} (kf:κ→AV) (beq:κ→κ→Bool) (vf:β→AV) (z:β) (l:List (κ×β)) (k:κ):Prop :=
 ∀ k':AV→Prop,k' (vf ((ll beq l k).getD z))→cU P kt (kf k) (l.map (dB kf vf)) fun _ r=>fj P e false (l.map (dB kf vf)) r k'
def OI (P:Program) (kt e:TypeId) {κ β:Type} (kf:κ→AV) (beq:κ→κ→Bool) (vf:β→AV) (z:β) (l:List (κ×β)) (k:κ):Prop :=
 ∀ k':AV→Prop,k' (.tup [vf ((ll beq l k).getD z),.v (.bool (ll beq l k).isSome)])→cU P kt (kf k) (l.map (dB kf vf)) fun _ r=>fj P e true (l.map (dB kf vf)) r k'
def Sn (P:Program) (kt:TypeId) {κ β:Type} (kf:κ→AV) (beq:κ→κ→Bool) (vf:β→AV) (l:List (κ×β)) (k:κ) (v:β):Prop :=
 ∀ K':List (AV×AV)→Prop,K' ((OL beq l k v).map (dB kf vf))→cU P kt (kf k) (l.map (dB kf vf)) fun kv' r=>bA (ru P kt kv') (
     match r with
     | some i=>bA (Instr.sameBits 10000 (((l.map (dB kf vf))[i]?.bind fun e=>u9 e.1).getD (.bool false)) kv') (K' ((l.map (dB kf vf)).set i (kf k,vf v)))
     | none=>K' (l.map (dB kf vf)++[(kf k,vf v)]))
def wB (P:Program) (kt e:TypeId) (ok:Bool) {κ β:Type} (kf:κ→AV) (vf:β→AV) (l:List (κ×β)) (k:κ) (a:AV):Prop :=
 ∀ k':AV→Prop,k' a→cU P kt (kf k) (l.map (dB kf vf)) fun _ r=>fj P e ok (l.map (dB kf vf)) r k'
theorem Kc {P:Program} {kt e:TypeId} {ok:Bool} {κ β:Type} {kf:κ→AV} {kv:κ→Value} {beq:κ→κ→Bool} {vf:β→AV} (hd:(P.underlying kt).isSome=true) (hk:vD P kt kf kv beq) (z:AV) (hz:∀ k',jl P e ok k'=k' z) (l:List (κ×β)) (k:κ) (h:ll beq l k=none):wB P kt e ok kf vf l k z:=by
 intro k' hz'
 refine uK hd hk l k ?_
 rcases yj (β:=β) (beq:=beq) (k:=k) l 0 with ⟨h1,h2⟩ | ⟨j,en,h1,h2,h3,h4⟩
 ·rw [h1]
  show jl P e ok k'
  rw [hz]
  exact hz'
 ·rw [h] at h4
  cases h4
theorem Kd {P:Program} {kt e:TypeId} {ok:Bool} {κ β:Type} {kf:κ→AV} {kv:κ→Value} {beq:κ→κ→Bool} {vf:β→AV} (hd:(P.underlying kt).isSome=true) (hk:vD P kt kf kv beq) (l:List (κ×β)) (k:κ) {v:β} (h:ll beq l k=some v):wB P kt e ok kf vf l k (match ok with | true=>.tup [vf v,.v (.bool true)] | false=>vf v):=by
 intro k' hk'
 refine uK hd hk l k ?_
 rcases yj (β:=β) (beq:=beq) (k:=k) l 0 with ⟨h1,h2⟩ | ⟨j,en,h1,h2,h3,h4⟩
 ·rw [h] at h2
  cases h2
 ·rw [h1]
  show fj P e ok _ (some (0 + j)) k'
  unfold fj
  dsimp only
  rw [Nat.zero_add,List.getElem?_map,h2]
  rw [h] at h4
  cases h4
  cases ok with
  | true=>exact hk'
  | false=>exact hk'
theorem Aw {κ:Type} (kf:κ→AV):∀ ks:List κ,fD (ks.map kf)=(ks.map fun k=>(k,())).map (dB kf fun _=>AV.bad)
 | []=>rfl
 | k::ks=>by
  show (kf k,AV.bad)::fD (ks.map kf)=_
  rw [Aw kf ks]
  rfl
theorem yk {κ:Type} {beq:κ→κ→Bool} {k:κ}:∀ (ks:List κ) (i:Nat),Bz ((ks.map fun k=>(k,())).map fun e=>beq k e.1) i=(dZ beq ks k).map (i + ·)
 | [],_=>rfl
 | e::ks,i=>by
  rw [List.map_cons,List.map_cons]
  cases hb:beq k e with
  | true =>
   show some i=_
   unfold dZ
   rw [if_pos hb]
   rfl
  | false =>
   show Bz ((ks.map fun k=>(k,())).map fun e=>beq k e.1) (i + 1)=_
   rw [yk ks (i + 1)]
   have hk:dZ beq (e::ks) k=(if beq k e=true then some 0 else (dZ beq ks k).map (· + 1)):=rfl
   rw [hk,if_neg (by rw [hb]; exact Bool.false_ne_true),Option.map_map]
   congr 1
   funext j
   show i + 1 + j=i + (j + 1)
   omega
theorem Ax {κ:Type} {beq:κ→κ→Bool} {k:κ}:∀ {ks:List κ} {j:Nat},dZ beq ks k=some j→∃ e,ks[j]?=some e∧beq k e=true
 | [],_,h=>by cases h
 | e::ks,j,h=>by
  unfold dZ at h
  split at h
  ·rename_i hb
   cases h
   exact ⟨e,rfl,hb⟩
  ·rw [Option.map_eq_some_iff] at h
   obtain ⟨j',h1,rfl⟩:=h
   obtain ⟨e',h2,h3⟩:=Ax h1
   exact ⟨e',by simpa using h2,h3⟩
def Ig (P:Program) (kt:TypeId) {κ:Type} (kf:κ→AV) (ks:List κ) (k:κ) (r:Option Nat):Prop:=∀ K':Option Nat→Prop,K' r→cU P kt (kf k) (fD (ks.map kf)) fun _ r=>K' r
def FF (P:Program) (kt:TypeId) {κ:Type} (kf:κ→AV) (ks:List κ) (k:κ) (r:Option Nat) (ks':List AV):Prop:=∀ K':Option Nat→List AV→Prop,K' r ks'→cU P kt (kf k) (fD (ks.map kf)) fun kv r=>bA (ru P kt kv) (match r with
     | some i=>bA (Instr.sameBits 10000 (((ks.map kf)[i]?.bind u9).getD (.bool false)) kv) (K' (some i) ((ks.map kf).set i (kf k)))
     | none=>K' none (ks.map kf++[kf k]))
section
variable {P:Program} {kt:TypeId} {κ:Type} {kf:κ→AV} {kv:κ→Value} {beq:κ→κ→Bool}
theorem MH (hd:(P.underlying kt).isSome=true) (hk:vD P kt kf kv beq) (ks:List κ) (k:κ) {K:Value→Option Nat→Prop} (h:K (kv k) (dZ beq ks k)):cU P kt (kf k) (fD (ks.map kf)) K:=by
 rw [Aw]
 refine uK hd hk (ks.map fun k=>(k,())) k ?_
 rw [yk]
 have:(dZ beq ks k).map (0 + ·)=dZ beq ks k:=by
  cases dZ beq ks k with
  | none=>rfl
  | some j=>show some (0 + j)=_; rw [Nat.zero_add]
 rw [this]
 exact h
theorem Ke (hd:(P.underlying kt).isSome=true) (hk:vD P kt kf kv beq) (ks:List κ) (k:κ) {r:Option Nat} (h:dZ beq ks k=r):∀ K':Option Nat→Prop,K' r→cU P kt (kf k) (fD (ks.map kf)) fun _ r=>K' r:=fun _ hK=>MH hd hk ks k (h.symm▸hK)
theorem Kf (hd:(P.underlying kt).isSome=true) (hk:vD P kt kf kv beq) (ks:List κ) (k:κ) (h:dZ beq ks k=none):∀ K':Option Nat→List AV→Prop,K' none ((ks++[k]).map kf)→cU P kt (kf k) (fD (ks.map kf)) fun kv r=>bA (ru P kt kv) (match r with
     | some i=>bA (Instr.sameBits 10000 (((ks.map kf)[i]?.bind u9).getD (.bool false)) kv) (K' (some i) ((ks.map kf).set i (kf k)))
     | none=>K' none (ks.map kf++[kf k])):=by
 intro K' hK
 refine MH hd hk ks k ?_
 refine av (by unfold ru; rw [hk.chk]) ?_
 rw [h]
 rw [List.map_append] at hK
 exact hK
theorem Kg (hd:(P.underlying kt).isSome=true) (hk:vD P kt kf kv beq) (he:∀ a b,beq a b=true→a=b) (ks:List κ) (k:κ) {i:Nat} (h:dZ beq ks k=some i):∀ K':Option Nat→List AV→Prop,K' (some i) (ks.map kf)→cU P kt (kf k) (fD (ks.map kf)) fun kv r=>bA (ru P kt kv) (match r with
     | some i=>bA (Instr.sameBits 10000 (((ks.map kf)[i]?.bind u9).getD (.bool false)) kv) (K' (some i) ((ks.map kf).set i (kf k)))
     | none=>K' none (ks.map kf++[kf k])):=by
 intro K' hK
 refine MH hd hk ks k ?_
 refine av (by unfold ru; rw [hk.chk]) ?_
 obtain ⟨e,h1,h2⟩:=Ax h
 have e1:=he _ _ h2
 subst e1
 rw [h]
 have hm:(ks.map kf)[i]?=some (kf k):=by rw [List.getElem?_map,h1]; rfl
 refine av ?_ ?_
 ·rw [hm]
  show Instr.sameBits 10000 ((u9 (kf k)).getD (.bool false)) (kv k)=true
  rw [hk.tok]
  exact hk.sam _ _ h2
 ·have hset:(ks.map kf).set i (kf k)=ks.map kf:=by
   apply List.ext_getElem?
   intro j
   rw [List.getElem?_set]
   split
   ·rename_i hj
    subst hj
    rw [hm]
    split
    ·rfl
    ·rename_i hn
     exact absurd (List.getElem?_eq_some_iff.1 hm).1 hn
   ·rfl
  rw [hset]
  exact hK
end
def mt (H:Type) (P:Program) (t:TypeId) {α:Type} (f:α→List AV) (wf:α→Prop):Prop:=∀ (n:Nat) (d:DataW H),dm P n t d=true→∃ x,dE (iw P n t d) (f x)∧wf x
def iI (H:Type) (P:Program) (ts:List TypeId) {α:Type} (f:α→List AV) (wf:α→Prop):Prop:=∀ (n:Nat) (ds:List (DataW H)),ds.length=ts.length→((ts.zip ds).all fun x=>dm P n x.1 x.2)=true→∃ x,dE ((ts.zip ds).flatMap fun x=>iw P n x.1 x.2) (f x)∧wf x
section
variable {H:Type} {P:Program} {t:TypeId}
theorem mt.int {k:IntKind} (hu:P.underlying t=some (.int k)):mt H P t (mm k) (zC k):=by
 intro n d h
 cases n with
 | zero=>cases h
 | succ n =>
  unfold dm at h
  rw [hu] at h
  cases d with
  | lit l =>
   cases l with
   | int k' m =>
    have h:(decide (k'=k)&&(Lit.int k m).wf)=true:=h
    rw [Bool.and_eq_true] at h
    obtain ⟨h1,h2⟩:=h
    have h1:=of_decide_eq_true h1
    subst h1
    have h2:(decide (k'.min≤m)&&decide (m≤k'.max))=true:=h2
    rw [Bool.and_eq_true] at h2
    refine ⟨m,?_,of_decide_eq_true h2.1,of_decide_eq_true h2.2⟩
    unfold iw
    rw [hu]
    exact dE.refl _
   | _=>cases h
  | _=>cases h
theorem mt.bool (hu:P.underlying t=some .bool):mt H P t eR (fun _=>True):=by
 intro n d h
 cases n with
 | zero=>cases h
 | succ n =>
  unfold dm at h
  rw [hu] at h
  cases d with
  | lit l =>
   cases l with
   | bool b =>
    refine ⟨b,?_,trivial⟩
    unfold iw
    rw [hu]
    exact dE.refl _
   | _=>cases h
  | _=>cases h
theorem mt.slice {e:TypeId} (hu:P.underlying t=some (.slice e)) {α:Type} {f:α→List AV} {wf:α→Prop} (he:mt H P e f wf):mt H P t (dA f) (fun l=>l.length≤maxLen∧∀ x∈l,wf x):=by
 intro n d h
 cases n with
 | zero=>cases h
 | succ n =>
  unfold dm at h
  rw [hu] at h
  cases d with
  | nil =>
   refine ⟨[],?_,by simp [maxLen],fun x hx=>by cases hx⟩
   unfold iw
   rw [hu]
   exact dE.cons ce.nil dE.nil
  | slice xs sp =>
   have h:(decide (xs.length≤maxLen)&&xs.all (dm P n e))=true:=h
   rw [Bool.and_eq_true] at h
   obtain ⟨h1,h2⟩:=h
   have key:∀ xs:List (DataW H),xs.all (dm P n e)=true→∃ l:List α,fF (xs.map (iw P n e)) (l.map f)∧l.length=xs.length∧∀ x∈l,wf x:=by
    intro xs
    induction xs with
    | nil=>exact fun _=>⟨[],fF.nil,rfl,fun x hx=>by cases hx⟩
    | cons x xs ih =>
     intro h
     rw [List.all_cons,Bool.and_eq_true] at h
     obtain ⟨y,hy1,hy2⟩:=he n x h.1
     obtain ⟨l,hl1,hl2,hl3⟩:=ih h.2
     refine ⟨y::l,fF.cons hy1 hl1,by simp [hl2],fun z hz=>?_⟩
     rcases List.mem_cons.1 hz with rfl | hz
     ·exact hy2
     ·exact hl3 z hz
   obtain ⟨l,hl1,hl2,hl3⟩:=key xs h2
   refine ⟨l,?_,by rw [hl2]; exact of_decide_eq_true h1,hl3⟩
   unfold iw
   rw [hu]
   exact dE.cons (ce.sl hl1) dE.nil
  | _=>cases h
theorem iI.nil:iI H P [] (fun _:Unit=>[]) (fun _=>True):=fun _ _ _ _=>⟨(),dE.nil,trivial⟩
theorem iI.cons {ts:List TypeId} {α β:Type} {f:α→List AV} {wf:α→Prop} {g:β→List AV} {wg:β→Prop} (h:mt H P t f wf) (hs:iI H P ts g wg):iI H P (t::ts) (fun x:α×β=>f x.1++g x.2) (fun x=>wf x.1∧wg x.2):=by
 intro n ds hl ha
 cases ds with
 | nil=>simp at hl
 | cons d ds =>
  rw [List.zip_cons_cons,List.all_cons,Bool.and_eq_true] at ha
  obtain ⟨x,h1,h2⟩:=h n d ha.1
  obtain ⟨y,h3,h4⟩:=hs n ds (by simpa using hl) ha.2
  refine ⟨(x,y),?_,h2,h4⟩
  rw [List.zip_cons_cons,List.flatMap_cons]
  exact h1.app h3
theorem mt.struct {fs:Array Field} (hu:P.underlying t=some (.struct fs)) {α:Type} {g:α→List AV} {wg:α→Prop} (h:iI H P (fs.toList.map (·.type)) g wg):mt H P t g wg:=by
 intro n d hd
 cases n with
 | zero=>cases hd
 | succ n =>
  unfold dm at hd
  rw [hu] at hd
  cases d with
  | agg ds =>
  have hd:(Nat.beq ds.length fs.size&&(fs.toList.zip ds).all fun x=>dm P n x.1.type x.2)=true:=hd
  rw [Bool.and_eq_true] at hd
  obtain ⟨h1,h2⟩:=hd
  have hlen:=Nat.eq_of_beq_eq_true h1
  obtain ⟨x,h3,h4⟩:=h n ds (by simpa using hlen) (by
   rw [List.zip_map_left,List.all_map]
   exact h2)
  refine ⟨x,?_,h4⟩
  unfold iw
  rw [hu]
  dsimp only
  rw [List.zip_map_left,List.flatMap_map] at h3
  exact h3
  | _=>cases hd
theorem mt.conv {α β:Type} {f:α→List AV} {wf:α→Prop} {g:β→List AV} {wg:β→Prop} (h:mt H P t f wf) (φ:α→β) (hf:∀ x,f x=g (φ x)) (hw:∀ x,wf x→wg (φ x)):mt H P t g wg:=fun n d hd=>by
 obtain ⟨x,h1,h2⟩:=h n d hd
 exact ⟨φ x,by rw [← hf]; exact h1,hw x h2⟩
theorem mt.argS {fs:Array Field} (hu:P.underlying t=some (.struct fs)) {α:Type} {f:α→List AV} {wf:α→Prop} (h:mt H P t f wf) {n:Nat} {d:DataW H} (hd:dm P n t d=true):∃ x,ce (q_ P n t d) (.agg (f x))∧wf x:=by
 obtain ⟨x,h1,h2⟩:=h n d hd
 refine ⟨x,?_,h2⟩
 unfold q_
 rw [hu]
 exact ce.agg h1
theorem mt.arg1 (hs:mj P t=false) {α:Type} {f:α→List AV} {wf:α→Prop} {g:α→AV} (h:mt H P t f wf) (hg:∀ x,f x=[g x]) {n:Nat} {d:DataW H} (hd:dm P n t d=true):∃ x,ce (q_ P n t d) (g x)∧wf x:=by
 obtain ⟨x,h1,h2⟩:=h n d hd
 refine ⟨x,?_,h2⟩
 rw [hg] at h1
 unfold mj at hs
 unfold q_
 split
 ·rename_i fs hu
  rw [hu] at hs
  cases hs
 ·generalize iw P n t d=r at h1
  cases r with
  | nil=>exact absurd h1.1 (by simp)
  | cons a r=>exact h1.2 0 a _ rfl rfl
end
end A
end Go.Proofs.YtomahedcdcnnhaaGreatDoor
