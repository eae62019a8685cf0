/- The evaluator with answers; contracts out of it. Nothing is claimed here of the program. -/
import Derived.Test.YtomahedcdcnnhaaGreatDoorK6
import Derived.Test.YtomahedcdcnnhaaGreatDoorM0
import Derived.Laws.StructEq
namespace Go.Proofs.YtomahedcdcnnhaaGreatDoor
namespace A
open Go
def q8 {α:Type}:List (Nat×α)→Nat→Option α
 | [],_=>none
 | (d,x)::xs,e=>match Nat.beq d e with | true=>some x | false=>q8 xs e
structure Wk where
 ts:List Nat
 ls:List Nat
 no:Nat
 pr:List (Nat×Nat)
 pl:List (Nat×Nat×Nat)
 fz:List Nat
def Io (ts:List Nat):Nat→List AV→List AV
 | _,[]=>[]
 | i,x::xs=>(match fa ts i with | true=>x | false=>.bad)::Io ts (i + 1) xs
def zZ:List Nat→St→St
 | [],S=>S
 | d::ds,S=>zZ ds (eD d S)
def Gn:Nat→Nat→List Nat
 | _,0=>[]
 | i,n + 1=>i::Gn (i + 1) n
def Gp:List Nat→St→St
 | [],S=>S
 | i::is,S=>Gp is (fR i S)
def z3:List Ob→Bool
 | []=>true
 | .dead::os=>z3 os
 | _=>false
def Kt (n:Nat) (S:St):St :=
 match z3 (S.o.drop n)&&Nat.ble S.b n with
 | true=>{ t:=S.t,l:=S.l,o:=S.o.take n,b:=S.b }
 | false=>S
def BI:List (Nat×Nat)→St→St
 | [],S=>S
 | (d,sz)::ps,S=>match S.t[d]? with
  | some .nilsl=>BI ps { t:=S.t.set d (.mf S.o.length),l:=S.l,o:=S.o++[.arr true sz []],b:=S.b }
  | _=>BI ps S
def yS:List (Nat×Nat×Nat)→St→St
 | [],S=>S
 | (d,j,sz)::ps,S=>match aQ S.l d with
  | some row=>match row[j]? with
   | some .nilsl=>yS ps { t:=S.t,l:=uA S.l d (row.set j (.mf S.o.length)),o:=S.o++[.arr true sz []],b:=S.b }
   | _=>yS ps S
  | none=>yS ps S
def E6:List Nat→St→St
 | [],S=>S
 | d::ds,S=>match S.t[d]? with
  | some a=>match Dx S.o 6 a with
   | some b=>E6 ds { t:=(lO (dH S.o 6 a) S).t.set d b,l:=(lO (dH S.o 6 a) S).l,o:=(lO (dH S.o 6 a) S).o,b:=(lO (dH S.o 6 a) S).b }
   | none=>E6 ds S
  | none=>E6 ds S
def Py (W:Wk) (S:St):St :=
 yS W.pl (BI W.pr (Kt W.no (Gp (Gn W.no (S.o.length - W.no)) (zZ W.ls { t:=Io W.ts 0 S.t,l:=S.l,o:=S.o,b:=S.b }))))
def wk (W:Wk) (S:St):St:=Py W (E6 W.fz S)
def aG (a b:AV):Prop:=∀ E u,VR E a u→VR E b u
def aT (r r':List AV):Prop:=r.length=r'.length∧∀ (i:Nat) (a b:AV),r[i]?=some a→r'[i]?=some b→aG a b
def eS (r r':List (List AV)):Prop:=r.length=r'.length∧∀ (i:Nat) (a b:List AV),r[i]?=some a→r'[i]?=some b→aT a b
structure Le where
 ts:List (Nat×AV)
 ls:List (Nat×List AV)
 os:List (Nat×List (List AV))
def Ku:List (Nat×AV)→St→(St→Prop)→Prop
 | [],S,K=>K S
 | (d,v)::xs,S,K=>qm S.t d fun a=>aG a v∧sA S.t d v fun t=>Ku xs { t:=t,l:=S.l,o:=S.o,b:=S.b } K
def Ip:List (Nat×List AV)→St→(St→Prop)→Prop
 | [],S,K=>K S
 | (d,r)::xs,S,K=>match aQ S.l d with
  | some row=>aT row r∧nU (uA S.l d r) fun l=>Ip xs { t:=S.t,l:=l,o:=S.o,b:=S.b } K
  | none=>ai 450
def Iq:List (Nat×List (List AV))→St→(St→Prop)→Prop
 | [],S,K=>K S
 | (i,R)::xs,S,K=>match S.o[i]? with
  | some (.arr fl sz rows)=>eS rows R∧ba (S.o.set i (.arr fl sz R)) fun o=>Iq xs { t:=S.t,l:=S.l,o:=o,b:=S.b } K
  | _=>ai 451
def Mr (L:Le) (S:St) (K:St→Prop):Prop:=Ku L.ts S fun S=>Ip L.ls S fun S=>Iq L.os S K
structure z7 where
 at_:Option Nat
 row:Option (List (List AV))
 ks:List AV
 cs:List (Option (List (List AV)))
structure eY where
 dem:List Nat
 chk:List Nat
 row:List (Nat×List AV)
 val:List (Nat×AV)
 call:List (Nat×AV)
 sto:List (Nat×(AV×List Ob))
 obr:List (Nat×(Nat×List (List AV)))
 mpr:List (Nat×List (AV×AV))
 own:List (Nat×z7)
inductive PT where
 | done
 | go (i:Nat) (t:PT)
 | alt (i:Nat) (t r:PT)
def ew:List Nat→PT
 | []=>.done
 | i::is=>.go i (ew is)
def Ph:PT→List Nat
 | .done=>[0]
 | .go i t=>1::i::Ph t
 | .alt i t r=>2::i::(Ph t++Ph r)
def CW:PT→PT→Bool
 | .done,.done=>true
 | .go i t,.go j u=>Nat.beq i j&&CW t u
 | .alt i t r,.alt j u s=>Nat.beq i j&&(CW t u&&CW r s)
 | _,_=>false
structure xN where
 ord:List (Nat×PT)
 reg:List (Nat×eY)
 wr:List (Nat×Le)
 lps:List (Nat×(Wk×Le×Ex×St))
 cut:List (Nat×(Wk×Le×Ex×St))
def E7 (A:xN) (id:Nat):eY :=
 match q8 A.reg id with
 | some R=>R
 | none=>⟨[],[],[],[],[],[],[],[],[]⟩
def keyOf (o:Oper):Nat :=
 match o.dst with
 | some d=>d
 | none=>match o.op with
  | .store _ (.tmp t) _=>t + 1000000
  | .mapUpdate _ (.tmp t) _ _=>t + 1000000
  | .insert _ (.tmp t) _ _=>t + 1000000
  | _=>0
def Ch (rows:List (List AV)) (i:Int):Option (List AV):=if 0≤i then rows[i.toNat]? else none
def Gq (op:BinOp) (x y:Value) (K:Value→Prop):Prop :=
 match op,x,y with
 | .quo,.int k a,.int k' b=>(decide (k=k')&&!(b==0))=true∧K (.int k (k.wrap (a.tdiv b)))
 | .rem,.int k a,.int k' b=>(decide (k=k')&&!(b==0))=true∧K (.int k (a.tmod b))
 | .shl,.int k a,.int _ b=>decide (0≤b)=true∧K (.int k (k.wrap (a * 2 ^ (min b.toNat k.bits))))
 | .shr,.int k a,.int _ b=>decide (0≤b)=true∧K (.int k (a.fdiv (2 ^ (min b.toNat k.bits))))
 | .add,.string a,.string b=>decide (((a.size + b.size:Nat):Int)≤9223372036854775807)=true∧K (.string (a++b))
 | _,_,_=>ai 20
def Gr (C:Ctx) (A:eY) (o:Oper) (op:BinOp) (t:TypeId) (x y:AV) (k:AV→Prop):Prop :=
 match x,y with
 | .v a,.v b=>match Ia op a b with
  | none=>match a,b with
   | .bool x,.bool y=>AL C.P op t x y k
   | a,b=>Gq op a b fun c=>k (.v c)
  | some c=>k (.v c)
 | .agg as,.agg bs=>match uB as,uB bs with
  | some xs,some ys=>match q8 A.val (keyOf o) with
   | some (.v (.bool b))=>nV C.P op t xs ys=some (.bool b)∧k (.v (.bool b))
   | _=>ai 400
  | _,_=>ai 401
 | _,_=>ai 402
def z8 (C:Ctx) (A:eY) (o:Oper) (t:TypeId) (x ix:AV) (k:AV→Prop):Prop :=
 intOf ix fun i =>
 match C.P.underlying t,x with
 | some .string,.v (.string s)=>match q8 A.val (keyOf o) with
  | some (.v (.int .u8 n))=>(if 0≤i then s[i.toNat]? else none)=some (UInt8.ofNat n.toNat)∧(n=((UInt8.ofNat n.toNat).toNat:Int)∧k (.v (.int .u8 n)))
  | _=>ai 403
 | some (.array len e),.agg cs=>match C.P.info? e with
  | some inf=>(decide (0≤i)&&decide (i<len))=true∧iJ C.P e cs (i.toNat * inf.size) k
  | none=>ai 404
 | _,_=>ai 405
def Kv (C:Ctx) (A:eY) (pl:br) (o:Oper) (vs:List AV) (k:AV→Prop):Prop :=
 match fa A.chk (keyOf o) with
 | false=>pop C pl o vs k
 | true=>match o.op,vs with
  | .binOp op t _ _ _,[a,b]=>Gr C A o op t a b k
  | .index t _ _,[a,i]=>z8 C A o t a i k
  | _,_=>ai 406
def yT (len cap:Nat) (lo hi mx:Option Int) (k:Nat→Nat→Nat→Prop):Prop :=
 match lo,hi,mx with
 | none,none,none=>k 0 len cap
 | some l,none,none=>(decide (0≤l)&&decide (l≤len))=true∧k l.toNat len cap
 | none,some h,none=>(decide (0≤h)&&decide (h≤cap))=true∧k 0 h.toNat cap
 | some l,some h,none=>(decide (0≤l)&&decide (l≤h)&&decide (h≤cap))=true∧k l.toNat h.toNat cap
 | none,some h,some m=>(decide (0≤h)&&decide (h≤m)&&decide (m≤cap))=true∧k 0 h.toNat m.toNat
 | some l,some h,some m=>(decide (0≤l)&&decide (l≤h)&&decide (h≤m)&&decide (m≤cap))=true∧k l.toNat h.toNat m.toNat
 | _,_,_=>ai 63
def lS (C:Ctx) (t:TypeId) (x:AV) (lo hi mx:Option Int) (S:St) (k:AV→Prop):Prop :=
 match C.P.underlying t with
 | some .string =>
  match x,mx with
  | .v (.string s),none=>yT s.size s.size lo hi none fun l h _=>k (.v (.string (s.extract l h)))
  | _,_=>ai 64
 | some (.slice e) =>
  match C.P.info? e with
  | some i=>bu (Nat.blt 0 i.size) (
   match x with
   | .sl rows=>cA i.size rows=true∧yT rows.length rows.length lo hi mx fun l h _ =>
    match lo,hi,i7 mx&&i7 hi with
    | _,_,true=>k .esl
    | none,none,_=>k (.sl rows)
    | _,none,_=>k (.sl (rows.drop l))
    | none,_,_=>k (.sl (rows.take h))
    | _,_,_=>k (.sl ((rows.drop l).take (h - l)))
   | .mf id=>match S.o[id]? with
    | some (.arr _ sz rows)=>bu (Nat.beq sz i.size) (yT rows.length rows.length lo hi mx fun l h m =>
     match lo,hi,i7 mx&&i7 hi with
     | _,_,true=>k .esl
     | none,none,_=>k (.mf id)
     | _,none,_=>k (.msl id l (rows.length - l) 0)
     | _,_,_=>k (.msl id l (h - l) (m - h)))
    | _=>ai 65
   | .msl id off len ext=>match S.o[id]? with
    | some (.arr _ sz _)=>bu (Nat.beq sz i.size) (yT len (len + ext) lo hi mx fun l h m =>
     match i7 mx&&i7 hi with
     | true=>k .esl
     | false=>k (.msl id (l + off) (h - l) (m - h)))
    | _=>ai 66
   | _=>ai 67)
  | none=>ai 68
 | _=>ai 69
def oU (C:Ctx) (row:List AV) (t:TypeId) (x ix:AV) (S:St) (k:AV→Prop):Prop :=
 intOf ix fun i =>
 match C.P.underlying t with
 | some (.slice e) =>
  match C.P.info? e with
  | some inf =>
   match x with
   | .sl rows=>Ch rows i=some row∧bu (Nat.beq row.length inf.size&&Nat.blt 0 inf.size) (k (.fptr row 0))
   | .mf id=>match S.o[id]? with
    | some (.arr _ _ rows)=>Ch rows i=some row∧bu (Nat.beq row.length inf.size&&Nat.blt 0 inf.size) (k (.ptr (.O id) i.toNat 0))
    | some (.own none _ cells _)=>bu (Nat.beq inf.size 1) ((decide (0≤i)&&Nat.blt i.toNat cells.length)=true∧k (.ptr (.O id) i.toNat 0))
    | _=>ai 72
   | .msl id off len _=>match S.o[id]? with
    | some (.arr _ _ rows)=>(decide (0≤i)&&decide (i<len))=true∧(rows[i.toNat + off]?=some row∧bu (Nat.beq row.length inf.size&&Nat.blt 0 inf.size) (k (.ptr (.O id) (i.toNat + off) 0)))
    | _=>ai 74
   | _=>ai 75
  | none=>ai 76
 | some (.array len e) =>
  match C.P.info? e with
  | some inf=>(decide (0≤i)&&decide (i<len))=true∧(
   match x with
   | .ptr key a j=>k (.ptr key a (i.toNat * inf.size + j))
   | .fptr row j=>k (.fptr row (i.toNat * inf.size + j))
   | _=>ai 77)
  | none=>ai 78
 | _=>ai 79
def vc (C:Ctx) (A:eY) (o:Oper) (fid:Nat) (as:List AV) (k:AV→Prop):Prop :=
 match q8 A.call (keyOf o) with
 | some r=>(C.pcall fid as fun x=>x=r)∧k r
 | none=>C.pcall fid as k
def Kw (C:Ctx) (A:eY) (o:Oper) (vs:List AV) (M:St) (k:AV→Prop):Prop :=
 match o.op,vs with
 | .load t _,[p]=>match q8 A.row (keyOf o) with
  | some row=>match p with
   | .ptr (.O id) i j=>match M.o[id]? with
    | some (.arr _ _ rows)=>rows[i]?=some row∧iJ C.P t row j k
    | _=>ai 410
   | _=>ai 411
  | none=>q_ C o vs M k
 | .slice t _ lo hi mx,a::rest=>match fa A.chk (keyOf o) with
  | false=>q_ C o vs M k
  | true=>match lo,hi,mx,rest with
   | none,none,none,[]=>lS C t a none none none M k
   | some _,none,none,[x]=>intOf x fun x=>lS C t a (some x) none none M k
   | none,some _,none,[y]=>intOf y fun y=>lS C t a none (some y) none M k
   | some _,some _,none,[x,y]=>intOf x fun x=>intOf y fun y=>lS C t a (some x) (some y) none M k
   | none,some _,some _,[y,z]=>intOf y fun y=>intOf z fun z=>lS C t a none (some y) (some z) M k
   | some _,some _,some _,[x,y,z]=>intOf x fun x=>intOf y fun y=>intOf z fun z=>lS C t a (some x) (some y) (some z) M k
   | _,_,_,_=>ai 202
 | .indexAddr t _ _,[a,i]=>match q8 A.row (keyOf o) with
  | some row=>oU C row t a i M k
  | none=>q_ C o vs M k
 | .lookup t _ _ ok,[m,key]=>match q8 A.call (keyOf o) with
  | some a=>match C.P.underlying t,m with
   | some (.map kt e),.mp id=>match M.o[id]? with
    | some (.mapo _ es)=>(∀ k':AV→Prop,k' a→cw C.P kt key es fun _ r=>dI C.P e ok es r k')∧k a
    | _=>ai 412
   | _,_=>ai 413
  | none=>q_ C o vs M k
 | .call c,vs=>match c.callee with
  | .value _=>match vs with
   | .fn fid first cap::as=>bu (C.pure fid) (i8 M.o (first++as++cap) fun bs=>vc C A o fid bs fun r=>bu (vq 4 r||((first++as++cap).flatMap (dH M.o 6)).isEmpty) (k r))
   | _=>ai 205
  | _=>q_ C o vs M k
 | _,_=>q_ C o vs M k
def z_ (S:St) (row:List AV) (a:AV) (cs:List AV) (K:St→Prop):Prop :=
 match a with
 | .ptr (.O id) i j =>
  match S.o[id]? with
  | some (.arr fl sz rows)=>rows[i]?=some row∧bu (Nat.ble (j + cs.length) row.length&&cs.all (u4 4)) (iH (splice row j cs) fun row'=>ba (S.o.set id (.arr (fl&&cs.all (dj 4)) sz (rows.set i row'))) fun o=>K { t:=S.t,l:=S.l,o:=o,b:=S.b })
  | _=>ai 18
 | _=>ai 19
def Ir (C:Ctx) (A:eY) (o:Oper) (vs:List AV) (M:St) (k:AV→St→Prop):Prop :=
 match q8 A.row (keyOf o) with
 | none=>yg C o vs M k
 | some row=>match o.op,vs with
  | .store t _ _,[p,y]=>match p with
   | .ptr (.O _) _ _=>m3 y fun cs=>match C.P.info? t with
    | some i=>bu (Nat.beq cs.length i.size) (z_ M row p cs fun M'=>k .bad M')
    | none=>ai 208
   | _=>yg C o vs M k
  | _,_=>yg C o vs M k
def wB (size:Nat) (S:St) (x:AV) (k:Bool→List (List AV)→Prop):Prop :=
 match x with
 | .nilsl | .esl=>k true []
 | .sl rows=>cA size rows=true∧k true rows
 | .mf id=>match S.o[id]? with | some (.arr fl sz rows)=>bu (Nat.beq sz size) (k fl rows) | _=>ai 45
 | .msl id off len _=>match S.o[id]? with | some (.arr fl sz rows)=>bu (Nat.beq sz size) (k fl ((rows.drop off).take len)) | _=>ai 46
 | .v (.string s)=>bu (Nat.beq size 1) (k true (s.data.toList.map fun b=>[.v (.int .u8 b.toNat)]))
 | _=>ai 47
def wC (P:Program) (ts:List TypeId) (base x:AV) (S:St) (k:St→AV→Prop):Prop :=
 match ts with
 | [t0,t1] =>
  match P.underlying t0 with
  | some (.slice e) =>
   match P.info? e with
   | some i=>bu (Nat.blt 0 i.size&&Nat.blt 0 i.bytes&&JF i&&(match P.underlying t1 with | some (.slice _) | some .string=>true | _=>false)) (wB i.size S x fun fl src=>aR src=true∧(
     match base with
     | .nilsl | .esl=>Nat.ble (src.length * i.bytes) 140737488355328=true∧(ba (S.o++[.arr fl i.size src]) fun o=>k { t:=S.t,l:=S.l,o:=o,b:=S.b } (.mf S.o.length))
     | .mf id=>match S.o[id]? with
      | some (.arr fl' sz rows)=>bu (Nat.beq sz i.size&&(fl||!fl')) (Nat.ble ((rows.length + src.length) * i.bytes) 140737488355328=true∧pU S id (.arr (fl'&&fl) sz (rows++src)) fun S' id'=>k S' (.mf id'))
      | _=>ai 48
     | .msl id off len ext=>match S.o[id]? with
      | some (.arr fl' sz rows)=>bu (Nat.beq sz i.size&&(fl||!fl')) (Nat.ble src.length ext=true∧(Nat.ble (off + len + ext) rows.length=true ∧
        ba (S.o.set id (.arr (fl'&&fl) sz (rows.take (off + len)++(src++rows.drop (off + len + src.length))))) fun o=>k { t:=S.t,l:=S.l,o:=o,b:=S.b } (.msl id off (len + src.length) (ext - src.length))))
      | _=>ai 49
     | _=>ai 50))
   | none=>ai 51
  | _=>ai 52
 | _=>ai 53
def s9 (P:Program) (ts:List TypeId) (base x:AV) (k:AV→Prop):Prop :=
 match ts with
 | [t0,t1] =>
  match P.underlying t0 with
  | some (.slice e) =>
   match P.info? e with
   | some i=>bu (Nat.blt 0 i.size&&Nat.blt 0 i.bytes&&JF i&&(match P.underlying t1 with | some (.slice _) | some .string=>true | _=>false)) (wB i.size Pe x fun fl src=>bu fl (aR src=true∧(Nat.ble (src.length * i.bytes) 140737488355328=true∧(
     match base with
     | .nilsl | .esl=>k (.sl src)
     | _=>ai 254))))
   | none=>ai 255
  | _=>ai 256
 | _=>ai 257
def Kx (C:Ctx) (o:Oper) (vs:List AV) (k:AV→Prop):Prop :=
 match o.op,vs with
 | .call c,[x,y]=>match c.callee with
  | .builtin .append=>s9 C.P c.argTypes.toList x y k
  | _=>ai 258
 | _,_=>ai 259
def ta (P:Program) (ts:List TypeId) (base:AV) (n:Int) (S:St) (k:St→AV→Prop):Prop :=
 match ts with
 | [t0,t1] =>
  match P.underlying t0,P.underlying t1 with
  | some (.slice e),some (.int _) =>
   match P.info? e with
   | some i=>(Nat.blt 0 i.size&&Nat.blt 0 i.bytes&&decide (0<n)&&decide (n * i.bytes≤140737488355328)&&decide (n≤140737488355328))=true∧(cE P e fun z=>bu (z.all (dj 2)) (
     match base with
     | .nilsl | .esl=>ba (S.o++[.arr true i.size (List.replicate n.toNat z)]) fun o=>k { t:=S.t,l:=S.l,o:=o,b:=S.b } (.mf S.o.length)
     | _=>ai 250))
   | none=>ai 251
  | _,_=>ai 252
 | _=>ai 253
def lT (P:Program) (t:TypeId) (l c:AV) (S:St) (k:St→AV→Prop):Prop :=
 match P.underlying t with
 | some (.slice e) =>
  match P.info? e with
  | some i=>intOf l fun l=>intOf c fun c=>(decide (0≤l)&&decide (l≤c)&&decide (i.bytes * c≤140737488355328)&&decide (c≤140737488355328)&&Nat.blt 0 i.size)=true ∧
    (cE P e fun z=>bu (z.all (dj 2)) (ba (S.o++[.arr true i.size (List.replicate l.toNat z)]) fun o=>k { t:=S.t,l:=S.l,o:=o,b:=S.b } (.mf S.o.length)))
  | none=>ai 61
 | _=>ai 62
def CX (P:Program) (ts:List TypeId) (x y:AV) (M:St) (k:AV→St→Prop):Prop :=
 match ts with
 | t::_ =>
  match P.underlying t with
  | some (.slice e) =>
   match P.info? e with
   | some i=>bu (Nat.blt 0 i.size) (wB i.size M y fun fl src=>aR src=true∧bu (!(MA y)) (
     match x with
     | .mf id=>match M.o[id]? with
      | some (.arr fl' sz rows)=>bu (Nat.beq sz i.size) (ba (M.o.set id (.arr (fl'&&fl) sz (src.take rows.length++rows.drop src.length))) fun o=>k (.v (.int .i64 ((min src.length rows.length:Nat):Int))) { t:=M.t,l:=M.l,o:=o,b:=M.b })
      | _=>ai 243
     | .msl id off len _=>match M.o[id]? with
      | some (.arr fl' sz rows)=>bu (Nat.beq sz i.size) (Nat.ble (off + len) rows.length=true∧(ba (M.o.set id (.arr (fl'&&fl) sz (rows.take off++(src.take len++rows.drop (off + min src.length len))))) fun o=>k (.v (.int .i64 ((min src.length len:Nat):Int))) { t:=M.t,l:=M.l,o:=o,b:=M.b }))
      | _=>ai 244
     | _=>ai 245))
   | none=>ai 246
  | _=>ai 247
 | []=>ai 248
def CY (C:Ctx) (A:eY) (o:Oper) (f:AV) (args:List AV) (S:St) (k:St→AV→Prop):Prop :=
 match f with
 | .fn fid first cap =>
  match C.pure fid with
  | true=>i8 S.o (first++args++cap) fun as=>vc C A o fid as fun r =>
    match vq 4 r with
    | true=>k S r
    | false=>gu ((first++args++cap).flatMap (dH S.o 6)) S fun S'=>k S' r
  | false=>bu ((first++args++cap).all (u4 4)) (match q8 A.sto (keyOf o) with
   | some (r,o')=>(C.scall fid (first++args++cap) S.o fun r' o''=>r'=r∧o''=o')∧j8 (bK S.o o' 0) S.t S.l fun t l=>k { t:=t,l:=l,o:=o',b:=S.b } r
   | none=>C.scall fid (first++args++cap) S.o fun r o'=>j8 (bK S.o o' 0) S.t S.l fun t l=>k { t:=t,l:=l,o:=o',b:=S.b } r)
 | _=>ai 97
def lU (P:Program) (R:List (AV×AV)) (t:TypeId) (m key x:AV) (S:St) (K:St→Prop):Prop :=
 match P.underlying t with
 | some (.map kt _) =>
  match m with
  | .mp id=>match S.o[id]? with
   | some (.mapo fl es)=>bu (u4 4 x) ((∀ K':List (AV×AV)→Prop,K' R→cw P kt key es fun kv r=>bu (qp P kt kv) (
     match r with
     | some i=>bu (Instr.sameBits 10000 ((es[i]?.bind fun e=>tL e.1).getD (.bool false)) kv) (K' (es.set i (key,x)))
     | none=>K' (es++[(key,x)])))∧ba (S.o.set id (.mapo (fl&&dj 4 x) R)) fun o=>K { t:=S.t,l:=S.l,o:=o,b:=S.b })
   | _=>ai 106
  | _=>ai 107
 | _=>ai 108
def Is (C:Ctx) (A:eY) (pl:br) (o:Oper) (S:St) (K:St→Prop):Prop :=
 match o.op with
 | .mapUpdate t m key x=>match q8 A.mpr (keyOf o) with
  | some R=>cz S m fun m=>cz S key fun key=>cz S x fun x=>lU C.P R t m key x S fun S'=>bC o.dst .bad S' K
  | none=>xw C pl o S K
 | .insert t m key x=>match q8 A.mpr (keyOf o) with
  | some R=>cz S m fun m=>cz S key fun key=>cz S x fun x=>lU C.P R t m key x S fun S'=>bC o.dst .bad S' K
  | none=>xw C pl o S K
 | .makeSlice t l c=>match fa A.chk (keyOf o) with
  | true=>cz S l fun l=>cz S c fun c=>lT C.P t l c S fun S' a=>bC o.dst a S' K
  | false=>xw C pl o S K
 | .call c=>match c.callee with
  | .builtin .append=>match fa A.chk (keyOf o) with
   | true=>dn S c.args.toList fun as=>match as with
    | [x,.v (.int _ n)]=>ta C.P c.argTypes.toList x n S fun S' r=>bC o.dst r S' K
    | [x,y]=>wC C.P c.argTypes.toList x y S fun S' r=>bC o.dst r S' K
    | _=>ai 210
   | false=>xw C pl o S K
  | .builtin .copy=>dn S c.args.toList fun as=>match as with
    | [x,y]=>CX C.P c.argTypes.toList x y S fun r S'=>bC o.dst r S' K
    | _=>ai 249
  | .value f=>cz S f fun fv=>dn S c.args.toList fun as=>CY C A o fv as S fun S' r=>bC o.dst r S' K
  | _=>xw C pl o S K
 | _=>xw C pl o S K
def JJ (A:eY) (dst:Option Tmp) (S:St) (K:St→Prop):Prop :=
 match dst with
 | none=>K S
 | some d=>match q8 A.val d with
  | none=>K S
  | some v=>qm S.t d fun a=>a=v∧sA S.t d v fun t=>K { t:=t,l:=S.l,o:=S.o,b:=S.b }
def Gs (A:eY) (key:Nat) (S:St) (K:St→Prop):Prop :=
 match q8 A.obr key with
 | none=>K S
 | some (id,R)=>match S.o[id]? with
  | some (.arr fl sz rows)=>rows=R∧ba (S.o.set id (.arr fl sz R)) fun o=>K { t:=S.t,l:=S.l,o:=o,b:=S.b }
  | _=>ai 430
def Gt (C:Ctx) (A:eY) (pl:br) (o:Oper) (S:St) (K:St→Prop):Prop :=
 dn S o.op.operands.toList fun vs=>Kv C A pl o vs fun r=>bC o.dst r S K
def Gu (C:Ctx) (A:eY) (o:Oper) (S:St) (K:St→Prop):Prop :=
 dn S o.op.operands.toList fun vs=>Kw C A o vs (cJ S) fun r=>bC o.dst r S K
def JK (C:Ctx) (A:eY) (o:Oper) (S:St) (K:St→Prop):Prop :=
 dn S o.op.operands.toList fun vs=>Ir C A o vs (cJ S) fun r M=>bC o.dst r (fB S M) K
def pG (row:Option (List (List AV))) (M:St) (id i:Nat) (k:AV→St→Prop):Prop :=
 match M.o[id]? with
 | some (.own ks sz cells none)=>match row with
  | none=>cells[i]?=some none∧k .nilsl M
  | some rows=>cells[i]?=some (some rows)∧ba (M.o.set id (.own ks sz cells (some (i,.mf M.o.length)))++[.arr true sz rows]) fun o=>k (.mf M.o.length) { t:=M.t,l:=M.l,o:=o,b:=M.b }
 | _=>ai 323
def tc (P:Program) (a:z7) (t:TypeId) (same:Bool) (M:St) (id i:Nat) (k:AV→St→Prop):Prop :=
 match same with
 | true=>match M.o[id]? with
  | some (.own none _ cells (some (j,a)))=>(Nat.beq i j&&Nat.blt j cells.length)=true∧iJ P t [a] 0 fun r=>k r M
  | _=>ai 324
 | false=>pG a.row M id i fun a M'=>iJ P t [a] 0 fun r=>k r M'
def qR (P:Program) (t:TypeId) (M:St) (id i:Nat) (v:AV) (K:St→Prop):Prop :=
 match P.info? t,M.o[id]? with
 | some inf,some (.own none sz cells hole)=>bu (sF v&&Nat.beq inf.size 1) ((Nat.blt i cells.length&&cM hole i)=true∧(ba (M.o.set id (.own none sz cells (some (i,v)))) fun o=>K { t:=M.t,l:=M.l,o:=o,b:=M.b }))
 | _,_=>ai 325
def td (P:Program) (a:z7) (t:TypeId) (l c:AV) (M:St) (k:AV→St→Prop):Prop :=
 match P.underlying t with
 | some (.slice e) =>
  match P.info? e,P.underlying e with
  | some i,some (.slice e2)=>match P.info? e2 with
   | some i2=>intOf l fun l=>intOf c fun c=>(decide (0≤l)&&decide (l≤c)&&decide (i.bytes * c≤140737488355328)&&decide (c≤140737488355328)&&Nat.blt 0 i.size)=true∧bu (Nat.beq i.size 1&&Nat.blt 0 i2.size)
     (cE P e fun z=>match z with
      | [.nilsl]=>List.replicate l.toNat none=a.cs∧ba (M.o++[.own none i2.size a.cs none]) fun o=>k (.mf M.o.length) { t:=M.t,l:=M.l,o:=o,b:=M.b }
      | _=>ai 325)
   | none=>ai 326
  | _,_=>ai 61
 | _=>ai 62
def te (P:Program) (a:z7) (t:TypeId) (m key:AV) (ok:Bool) (M:St) (k:AV→St→Prop):Prop :=
 match P.underlying t with
 | some (.map kt e)=>match m with
  | .mp id=>match M.o[id]? with
   | some (.own (some ks) _ _ none)=>match a.at_ with
    | some i=>(∀ K':Option Nat→Prop,K' (some i)→cw P kt key (eN ks) fun _ r=>K' r)∧pG a.row M id i fun a M'=>nY ok a true fun r=>k r M'
    | none=>(∀ K':Option Nat→Prop,K' none→cw P kt key (eN ks) fun _ r=>K' r)∧iK P e ok fun r=>k r M
   | _=>ai 333
  | _=>ai 334
 | _=>ai 335
def MF (M:St) (id sz:Nat) (cells:List (Option (List (List AV)))) (hole:Option (Nat×AV)) (x:AV) (K:St→Prop) (r:Option Nat) (ks:List AV):Prop :=
 match r with
 | some i=>cM hole i=true∧(ba (M.o.set id (.own (some ks) sz cells (some (i,x)))) fun o=>K { t:=M.t,l:=M.l,o:=o,b:=M.b })
 | none=>match hole with
  | none=>ba (M.o.set id (.own (some ks) sz (cells++[none]) (some (cells.length,x)))) fun o=>K { t:=M.t,l:=M.l,o:=o,b:=M.b }
  | some _=>ai 339
def rH (P:Program) (a:z7) (t:TypeId) (m key x:AV) (M:St) (K:St→Prop):Prop :=
 match P.underlying t with
 | some (.map kt _)=>match m with
  | .mp id=>match M.o[id]? with
   | some (.own (some ks) sz cells hole)=>bu (sF x) ((∀ K':Option Nat→List AV→Prop,K' a.at_ a.ks→cw P kt key (eN ks) fun kv r=>bu (qp P kt kv) (match r with
     | some i=>bu (Instr.sameBits 10000 ((ks[i]?.bind tL).getD (.bool false)) kv) (K' (some i) (ks.set i key))
     | none=>K' none (ks++[key])))∧MF M id sz cells hole x K a.at_ a.ks)
   | _=>ai 340
  | _=>ai 341
 | _=>ai 342
def DU (P:Program) (A:eY) (pl:br) (o:Oper) (vs:List AV) (M:St) (k:AV→St→Prop):Prop :=
 match q8 A.own (keyOf o) with
 | none=>lz P pl o vs M k
 | some a=>match o.op,vs with
  | .load t _,[p]=>jj M p fun id i=>tc P a t (Dy pl o) M id i k
  | .store t _ _,[p,v]=>jj M p fun id i=>qR P t M id i v fun M'=>k .bad M'
  | .makeSlice t _ _,[l,c]=>td P a t l c M k
  | .lookup t _ _ ok,[m,key]=>te P a t m key ok M k
  | .mapUpdate t _ _ _,[m,key,x]=>rH P a t m key x M fun M'=>k .bad M'
  | .insert t _ _ _,[m,key,x]=>rH P a t m key x M fun M'=>k .bad M'
  | _,_=>ai 343
def tf (A:eY) (S:St) (id:Nat) (K:St→Prop):Prop :=
 match q8 A.own (id + 2000000) with
 | none=>iL S id K
 | some a=>match S.o[id]? with
  | some (.own ks sz cells (some (j,.mf k)))=>match S.o[k]? with
   | some (.arr true sz' rows)=>bu (Nat.beq sz' sz) (Nat.blt j cells.length=true∧(cells.set j (some rows)=a.cs∧gu [k] S fun S1=>ba (S1.o.set id (.own ks sz a.cs none)) fun o=>K { t:=S1.t,l:=S1.l,o:=o,b:=S1.b }))
   | _=>ai 320
  | some (.own ks sz cells (some (j,.nilsl)))=>Nat.blt j cells.length=true∧(cells.set j none=a.cs∧(ba (S.o.set id (.own ks sz a.cs none)) fun o=>K { t:=S.t,l:=S.l,o:=o,b:=S.b }))
  | _=>ai 321
def wD (A:eY):List Nat→St→(St→Prop)→Prop
 | [],S,K=>K S
 | id::ids,S,K=>tf A S id fun S'=>wD A ids S' K
def wE (A:eY) (S:St) (id:Nat) (K:St→Prop):Prop :=
 match q8 A.mpr (id + 2000000) with
 | none=>kx S id K
 | some R=>match S.o[id]? with
  | some (.own (some ks) _ cells none)=>lK ks cells=R∧(ba (S.o.set id (.mapo true R)) fun o=>K { t:=S.t,l:=S.l,o:=o,b:=S.b })
  | _=>ai 344
def tg (A:eY):List Nat→St→(St→Prop)→Prop
 | [],S,K=>K S
 | id::ids,S,K=>wE A S id fun S'=>tg A ids S' K
def wF (A:eY) (pl:br) (id:Nat) (S:St) (K:St→Prop):Prop :=
 match fa pl.cl id with
 | false=>K S
 | true=>wD A (FR S.o.length) S fun S1=>match fa pl.fr id with
  | false=>K S1
  | true=>tg A (FR S1.o.length) S1 K
def CZ (C:Ctx) (A:eY) (o:Oper) (vs:List AV) (M:St) (k:AV→St→Prop):Prop :=
 match o.op,vs with
 | .makeSlice t _ _,[l,c]=>match fa A.chk (keyOf o) with
  | true=>lT C.P t l c M fun M' r=>k r M'
  | false=>lM C o vs M k
 | .call c,.fn fid first cap::as=>match c.callee with
  | .value _=>bu (!(C.pure fid)&&(first++as++cap).all (u4 4)) (match q8 A.sto (keyOf o) with
   | some (r,o')=>(C.scall fid (first++as++cap) M.o fun r' o''=>r'=r∧o''=o')∧bu (bK M.o o' 0).isEmpty (k r { t:=M.t,l:=M.l,o:=o',b:=M.b })
   | none=>C.scall fid (first++as++cap) M.o fun r o'=>bu (bK M.o o' 0).isEmpty (k r { t:=M.t,l:=M.l,o:=o',b:=M.b }))
  | _=>ai 310
 | _,_=>Ir C A o vs M k
def Gv (C:Ctx) (A:eY) (pl:br) (o:Oper) (vs:List AV) (M:St) (k:AV→St→Prop):Prop :=
 match fV pl o with
 | true=>DU C.P A pl o vs M k
 | false=>CZ C A o vs M k
def JL (C:Ctx) (A:eY) (pl:br) (o:Oper) (S:St) (K:St→Prop):Prop :=
 dn S o.op.operands.toList fun vs=>DU C.P A pl o vs (cJ S) fun r M=>bC o.dst r (fB S M) K
def Gw (C:Ctx) (A:eY) (pl:br) (o:Oper) (S:St) (K:St→Prop):Prop :=
 dn S o.op.operands.toList fun vs=>Gv C A pl o vs (cJ S) fun r M=>bC o.dst r (fB S M) K
def JM (C:Ctx) (o:Oper) (S:St) (K:St→Prop):Prop :=
 dn S o.op.operands.toList fun vs=>Kx C o vs fun r=>bC o.dst r S K
def nQ (A:eY) (o:Oper) (K:St→Prop) (S:St):Prop:=JJ A o.dst S fun S'=>Gs A (keyOf o) S' K
def Ky (C:Ctx) (A:eY) (pl:br) (o:Oper) (S:St) (K:St→Prop):Prop :=
 match FT o with
 | 0=>Gt C A pl o S (nQ A o K)
 | 1=>Gu C A o S (nQ A o K)
 | 2=>JK C A o S (nQ A o K)
 | _=>Is C A pl o S (nQ A o K)
def MH (C:Ctx) (A:eY) (pl:br) (o:Oper) (S:St) (K:St→Prop):Prop :=
 match fV pl o with
 | true=>JL C A pl o S (nQ A o K)
 | false=>Ky C A pl o S K
def Gx (C:Ctx) (A:eY) (pl:br) (o:Oper) (S:St) (K:St→Prop):Prop :=
 match fL pl o with
 | 0=>Gt C A pl o S (nQ A o K)
 | 1=>Gu C A o S (nQ A o K)
 | 2=>Gw C A pl o S (nQ A o K)
 | 4=>match o.dst with
  | some d=>bC o.dst (.ptr (.L d) 0 0) S K
  | none=>ai 217
 | 5=>JM C o S (nQ A o K)
 | _=>match AO pl o with
  | true=>ai 219
  | false=>Is C A pl o S (nQ A o K)
def MI (op:BinOp):Bool :=
 match op with
 | .eql | .neq=>true
 | _=>false
def DV (op:BinOp):Bool :=
 match op with
 | .eql=>true
 | _=>false
def JN (P:Program) (o:Oper) (S:St) (K:St→Prop):Prop :=
 match o.op with
 | .binOp op t x (.const (.slice none 0 0)) _=>match P.underlying t with
  | some (.slice _)=>cz S x fun a=>match a with
   | .sl rows=>bu (MI op) ((rows=[]→bC o.dst (.v (.bool (DV op))) S K)∧bC o.dst (.v (.bool (!(DV op)))) S K)
   | _=>ai 460
  | _=>ai 461
 | _=>ai 462
def Aa (C:Ctx) (A:eY) (pl:br) (all:Array Oper):List Oper→St→(St→Prop)→Prop
 | [],S,K=>K S
 | o::rest,S,K =>
  match o.guard with
  | none=>match fa A.dem (keyOf o) with
   | true=>JN C.P o S fun S'=>Aa C A pl all rest S' K
   | false=>MH C A pl o S fun S'=>Aa C A pl all rest S' K
  | some (j,want) =>
   match vy all j with
   | none=>ai 218
   | some d=>iO d S fun b S1=>gsel b want (MH C A pl o S1 fun S'=>Aa C A pl all rest S' K) (bC o.dst (.tup []) S1 fun S'=>Aa C A pl all rest S' K)
def Pz (C:Ctx) (A:eY) (pl:br) (all:Array Oper) (o:Oper) (S:St) (K:St→Prop):Prop :=
 match o.guard with
 | none=>bu (l8 pl all o S) (Gx C A pl o S K)
 | some (j,want) =>
  match vy all j with
  | none=>ai 218
  | some d=>iO d S fun b S1=>gsel b want (bu (l8 pl all o S1) (Gx C A pl o S1 K)) (bC o.dst (.tup []) S1 K)
def Ms (C:Ctx) (A:eY) (pl:br) (ops:Array Oper) (i:Nat) (S:St) (K:St→Prop):Prop :=
 match ops[i]? with
 | none=>ai 303
 | some o=>Pz C A pl ops o S K
def oT (C:Ctx) (A:eY) (pl:br) (ops:Array Oper):PT→Option (St×Prop)→St→(St→Prop)→Prop
 | .done,m,S,K=>match m with
  | none=>K S
  | some (_,X)=>X
 | .go i t,m,S,K=>match m with
  | none=>Ms C A pl ops i S fun S'=>oT C A pl ops t none S' K
  | some (_,_)=>ai 305
 | .alt i t r,m,S,K=>match m with
  | none=>Ms C A pl ops i S fun S'=>oT C A pl ops t none S' fun S1=>oT C A pl ops r (some (S1,K S1)) S K
  | some (S1,X)=>Ms C A pl ops i S fun S'=>oT C A pl ops t none S' fun S2=>S2=S1∧oT C A pl ops r (some (S1,X)) S K
def yU (f:Nat→Option PT):List Nat→Option PT
 | []=>some .done
 | i::is=>match f i with
  | some t=>match yU f is with
   | some r=>some (.alt i t r)
   | none=>none
  | none=>none
def RP:List Nat→Bool
 | [_,_] | [_,_,_] | [_,_,_,_]=>true
 | _=>false
def oV (pl:br) (ops:Array Oper) (ws:List Nat):Nat→Nat→Array Bool→Option PT
 | 0,_,listed=>match Region.ready .any ops listed with
  | []=>some .done
  | _::_=>none
 | n + 1,a,listed =>
  match Region.ready .any ops listed with
  | []=>some .done
  | r::rs=>match oa pl ops ws listed (r::rs) with
   | some k=>match oV pl ops ws n a (listed.setIfInBounds k true) with | some t=>some (.go k t) | none=>none
   | none=>match rs with
    | []=>match oV pl ops ws n a (listed.setIfInBounds r true) with | some t=>some (.go r t) | none=>none
    | _::_=>match RP (r::rs),a with
     | true,a + 1=>yU (fun i=>oV pl ops ws n a (listed.setIfInBounds i true)) (r::rs)
     | _,_=>none
def DW (pl:br) (ops:Array Oper) (ws:List Nat):Nat→Array Bool→Option PT
 | 0,listed=>oV pl ops ws 0 6 listed
 | n + 1,listed=>match oc ops listed (Region.ready .any ops listed) with
  | some i=>match DW pl ops ws n (listed.setIfInBounds i true) with | some t=>some (.go i t) | none=>none
  | none=>oV pl ops ws (n + 1) 6 listed
def Ab (pl:br) (ops:Array Oper):Option PT :=
 match Pf ops with
 | false=>none
 | true=>match pl.cl with
  | []=>oV pl ops (bL ops.toList []) ops.size 3 (Array.replicate ops.size false)
  | _::_=>DW pl ops (bL ops.toList []) ops.size (Array.replicate ops.size false)
def QJ (pl:br) (ops:Array Oper):Option (List Nat) :=
 match Ab pl ops with
 | some t=>some (Ph t)
 | none=>none
def ay (pl:br) (ord:List (Nat×PT)):Code→Bool
 | .region id ops true=>match q8 ord id,Ab pl ops with
  | some is,some js=>CW is js
  | _,_=>false
 | .seq a b=>ay pl ord a&&ay pl ord b
 | .cond _ a b=>ay pl ord a&&ay pl ord b
 | .block _ c=>ay pl ord c
 | .loop c=>ay pl ord c
 | _=>true
def wG:Code→Nat
 | .region id _ _=>id
 | .seq a _=>wG a
 | .cond _ a _=>wG a
 | .block _ c=>wG c
 | .loop c=>wG c
 | _=>0
def E8 (A:xN) (id:Nat) (S:St) (K:St→Prop):Prop :=
 match q8 A.wr id with
 | some L=>Mr L S K
 | none=>K S
def wH:Type:=Code→St→(Ex→St→Prop)→Prop
def uh (C:Ctx) (cd:wH) (A:xN) (pl:br):Code→St→(Ex→St→Prop)→Prop
 | .skip,S,K=>K .nrm S
 | .region id ops draw,S,K =>
  match draw with
  | false=>Aa C (E7 A id) pl ops ops.toList S fun S'=>wF (E7 A id) pl id S' fun S''=>E8 A id S'' (K .nrm)
  | true=>match q8 A.ord id with
   | some is=>bu (yi pl ops) (AQ C.P (cN ops.toList) S fun S1=>oT C (E7 A id) pl ops is none S1 fun S'=>mF (cN ops.toList) S' (wF (E7 A id) pl id S' fun S''=>E8 A id S'' (K .nrm)))
   | none=>ai 440
 | .seq a b,S,K=>uh C cd A pl a S fun e S'=>match e with
  | .nrm=>match q8 A.cut (wG b) with
   | some (W,L,e1,S1)=>Mr L (wk W S') fun S2=>cd b S2 (fun e' S3=>e'=e1∧S3=S1)∧K e1 S1
   | none=>uh C cd A pl b S' K
  | .ex i=>K (.ex i) S'
  | .ret=>K .ret S'
 | .cond c x y,S,K=>qn c S fun b S'=>match b with
  | true=>uh C cd A pl x S' K
  | false=>uh C cd A pl y S' K
 | .block id c,S,K=>uh C cd A pl c S fun e S'=>match e with
  | .ex i=>match Nat.beq i id with | true=>K .nrm S' | false=>K (.ex i) S'
  | .nrm=>K .nrm S'
  | .ret=>K .ret S'
 | .loop c,S,K=>match q8 A.lps (wG c) with
  | some (W,L,e,S1)=>Mr L (wk W S) fun S2=>(C.loop pl c S2 fun e' S'=>e'=e∧S'=S1)∧K e S1
  | none=>C.loop pl c S K
 | .exit id,S,K=>K (.ex id) S
 | .ret,S,K=>K .ret S
 | _,_,_=>ai 119
def sub:Code→List Nat→Code
 | c,[]=>c
 | .seq a _,0::p=>sub a p
 | .seq _ b,_::p=>sub b p
 | .cond _ a _,0::p=>sub a p
 | .cond _ _ b,_::p=>sub b p
 | .block _ c,_::p=>sub c p
 | .loop c,_::p=>sub c p
 | c,_=>c
def aj (P:Program) (f:Nat):Code :=
 match P.funcs[f]? with
 | some fn=>fn.body.getD .skip
 | none=>.skip
def DX (C:Ctx) (cd:wH) (A:xN) (f:Nat) (args:List AV) (o:List Ob) (K:AV→St→Prop):Prop :=
 match C.P.funcs[f]? with
 | some fn=>match fn.body with
  | some c=>uh C cd A (C.pol f) c { t:=args++zv (fn.ntmps - args.length),l:=[],o:=o,b:=o.length } fun e S =>
    match e with
    | .ex _=>ai 120
    | _=>xy C.P S fn.results.toList fun rs=>AR rs fun r=>K r S
  | none=>ai 121
 | none=>ai 122
def DY (C:Ctx) (cd:wH) (A:xN) (f:Nat) (args:List AV) (K:AV→Prop):Prop :=
 DX C cd A f args [] fun r S=>zo S.o r K
def C0 (C:Ctx) (cd:wH) (A:xN) (f:Nat) (args:List AV) (o:List Ob) (K:AV→List Ob→Prop):Prop :=
 DX C cd A f args o fun r S=>bu (u4 4 r&&Nat.beq S.b o.length) (K r S.o)
def eO (S S':St):Prop:=∀ (G:Gh) (E:Env) (a:Act) (w:World),al G pn E S w→TR E S.t a→∃ E',al G pn E' S' w∧TR E' S'.t a
def Kz:Ex→Nat
 | .nrm=>0
 | .ret=>1
 | .ex i=>i + 2
def wI (C:Ctx) (cd:wH) (A:xN) (pl:br) (we:List (Nat×(Wk×Le))) (c:Code) (S:St) (K:Ex→St→Prop):Prop :=
 uh C cd A pl c S fun e S'=>match q8 we (Kz e) with
  | some (W,L)=>Mr L (wk W S') (K e)
  | none=>K e S'
def KA:List (Nat×AV)→List AV→List AV
 | [],t=>t
 | (d,a)::xs,t=>KA xs (t.set d a)
def QK:List (Nat×AV)→Nat→Nat→List AV
 | _,_,0=>[]
 | xs,i,n + 1=>(match q8 xs i with | some a=>a | none=>.bad)::QK xs (i + 1) n
def bg (n:Nat) (ts:List (Nat×AV)) (l:List (Nat×List AV)) (o:List Ob) (b:Nat):St:={ t:=QK ts 0 n,l:=l,o:=o,b:=b }
theorem eO.refl (S:St):eO S S:=fun _ E _ _ h k=>⟨E,h,k⟩
theorem eO.trans {S S' S'':St} (h:eO S S') (k:eO S' S''):eO S S'':=fun G E a w hM ht=>by
 obtain ⟨E1,h1,h2⟩:=h G E a w hM ht
 exact k G E1 a w h1 h2
theorem aG.refl (a:AV):aG a a:=fun _ _ h=>h
theorem aG.ofEq {a b:AV} (h:a=b):aG a b:=by rw [h]; exact .refl _
theorem aG.trans {a b c:AV} (h:aG a b) (k:aG b c):aG a c:=fun _ _ hv=>k _ _ (h _ _ hv)
theorem aG.bad (a:AV):aG a .bad:=fun _ _ _=>.bad _ _
theorem aG.nil:aG .nilsl (.sl []):=fun E u h=>by cases h; exact .sln E
theorem aG.esl:aG .esl (.sl []):=fun E u h=>by
 cases h with
 | esln=>exact .sln E
 | esl _ a=>exact .sle E a 0
theorem aT.refl (r:List AV):aT r r:=⟨rfl,fun _ _ _ h k=>by rw [h] at k; cases k; exact .refl _⟩
theorem aT.nil:aT [] []:=.refl _
theorem aT.cons {a b:AV} {r r':List AV} (h:aG a b) (k:aT r r'):aT (a::r) (b::r') :=
 ⟨by simp [k.1],fun i x y h1 h2=>by
  cases i with
  | zero=>simp at h1 h2; subst h1 h2; exact h
  | succ i=>exact k.2 i x y (by simpa using h1) (by simpa using h2)⟩
theorem aT.vrs {r r':List AV} {E:Env} {us:List Value} (h:aT r r') (hv:bT E r us):bT E r' us :=
 ⟨by rw [← h.1]; exact hv.1,fun m c u h1 h2=>by
  have hm:m<r.length:=by rw [h.1]; exact (List.getElem?_eq_some_iff.1 h1).1
  exact h.2 m _ c (List.getElem?_eq_getElem hm) h1 _ _ (hv.2 m _ u (List.getElem?_eq_getElem hm) h2)⟩
theorem aG.agg {r r':List AV} (h:aT r r'):aG (.agg r) (.agg r'):=fun E u hv=>by
 obtain ⟨us,rfl,h1⟩:=hv.aggI
 exact bT.aggV (h.vrs h1)
theorem aG.tup {r r':List AV} (h:aT r r'):aG (.tup r) (.tup r'):=fun E u hv=>by
 obtain ⟨us,rfl,h1⟩:=hv.tupI
 have:=h.vrs h1
 exact .tup us (by simpa using this.1) (fun m c u h1 h2=>this.2 m c u h1 (by simpa using h2))
theorem aG.fptr {r r':List AV} {j:Nat} (h:aT r r'):aG (.fptr r j) (.fptr r' j):=fun E u hv=>by
 cases hv with
 | fptr j us h1 h2 h3 h4 =>
  have:=h.vrs (E:=E.fz) (us:=us) ⟨h1.symm,h2⟩
  exact .fptr j us this.1.symm this.2 h3 h4
theorem eS.refl (r:List (List AV)):eS r r:=⟨rfl,fun _ _ _ h k=>by rw [h] at k; cases k; exact .refl _⟩
theorem eS.nil:eS [] []:=.refl _
theorem eS.cons {a b:List AV} {r r':List (List AV)} (h:aT a b) (k:eS r r'):eS (a::r) (b::r') :=
 ⟨by simp [k.1],fun i x y h1 h2=>by
  cases i with
  | zero=>simp at h1 h2; subst h1 h2; exact h
  | succ i=>exact k.2 i x y (by simpa using h1) (by simpa using h2)⟩
theorem eS.app {a b r r':List (List AV)} (h:eS a b) (k:eS r r'):eS (a++r) (b++r'):=by
 induction a generalizing b with
 | nil =>
  have:b=[]:=List.eq_nil_of_length_eq_zero h.1.symm
  subst this
  exact k
 | cons x a ih =>
  cases b with
  | nil=>exact absurd h.1 (by simp)
  | cons y b=>exact .cons (h.2 0 x y rfl rfl) (ih ⟨by simpa using h.1,fun i p q h1 h2=>h.2 (i + 1) p q (by simpa using h1) (by simpa using h2)⟩)
theorem aT.app {a b r r':List AV} (h:aT a b) (k:aT r r'):aT (a++r) (b++r'):=by
 induction a generalizing b with
 | nil =>
  have:b=[]:=List.eq_nil_of_length_eq_zero h.1.symm
  subst this
  exact k
 | cons x a ih =>
  cases b with
  | nil=>exact absurd h.1 (by simp)
  | cons y b=>exact .cons (h.2 0 x y rfl rfl) (ih ⟨by simpa using h.1,fun i p q h1 h2=>h.2 (i + 1) p q (by simpa using h1) (by simpa using h2)⟩)
theorem eS.flat {r r':List (List AV)} (h:eS r r'):aT r.flatten r'.flatten:=by
 induction r generalizing r' with
 | nil =>
  have:r'=[]:=List.eq_nil_of_length_eq_zero h.1.symm
  subst this
  exact .refl _
 | cons x a ih =>
  cases r' with
  | nil=>exact absurd h.1 (by simp)
  | cons y b =>
   have h1:=h.2 0 x y rfl rfl
   have h2:=ih (r':=b) ⟨by simpa using h.1,fun i p q h1 h2=>h.2 (i + 1) p q (by simpa using h1) (by simpa using h2)⟩
   rw [List.flatten_cons,List.flatten_cons]
   have app:∀ {a b r r':List AV},aT a b→aT r r'→aT (a++r) (b++r'):=by
    intro a b r r' h k
    induction a generalizing b with
    | nil =>
     have:b=[]:=List.eq_nil_of_length_eq_zero h.1.symm
     subst this
     exact k
    | cons x a ih =>
     cases b with
     | nil=>exact absurd h.1 (by simp)
     | cons y b=>exact .cons (h.2 0 x y rfl rfl) (ih ⟨by simpa using h.1,fun i p q h1 h2=>h.2 (i + 1) p q (by simpa using h1) (by simpa using h2)⟩)
   exact app h1 h2
theorem eS.lens {r r':List (List AV)} {sz:Nat} (h:eS r r') (hl:∀ x∈r,x.length=sz):∀ x∈r',x.length=sz:=by
 intro x hx
 obtain ⟨i,hi⟩:=List.getElem?_of_mem hx
 have hlt:i<r.length:=by rw [h.1]; exact (List.getElem?_eq_some_iff.1 hi).1
 rw [← (h.2 i _ x (List.getElem?_eq_getElem hlt) hi).1]
 exact hl _ (List.getElem_mem hlt)
theorem aG.sl {r r':List (List AV)} (h:eS r r'):aG (.sl r) (.sl r'):=fun E u hv=>by
 cases hv with
 | sln =>
  have:r'=[]:=List.eq_nil_of_length_eq_zero h.1.symm
  subst this
  exact .sln E
 | sle _ a cap =>
  have:r'=[]:=List.eq_nil_of_length_eq_zero h.1.symm
  subst this
  exact .sle E a cap
 | sl us h1 h2 h3 h4 h5 h6 h7 =>
  have hf:=h.flat
  have:=hf.vrs (E:=E.fz) (us:=us) ⟨h3.symm,h4⟩
  rw [h.1]
  exact .sl us h1 (h.lens h2) this.1.symm this.2 h5 h6 (by rw [← h.1]; exact h7)
theorem DZ {ts:List Nat}:∀ {t:List AV} {i j:Nat} {c:AV},(Io ts i t)[j]?=some c→c=.bad∨t[j]?=some c
 | [],_,_,_,h=>by simp [Io] at h
 | x::xs,i,0,c,h=>by
  simp only [Io,List.getElem?_cons_zero,Option.some.injEq] at h
  split at h
  ·exact .inr (by rw [← h]; rfl)
  ·exact .inl h.symm
 | x::xs,i,j + 1,c,h=>by
  simp only [Io,List.getElem?_cons_succ] at h
  rw [List.getElem?_cons_succ]
  exact DZ h
theorem D1 {ts:List Nat}:∀ {t:List AV} {i:Nat},(Io ts i t).length=t.length
 | [],_=>rfl
 | x::xs,i=>by simp [Io,D1]
theorem Gy (ts:List Nat) (S:St):eO S { t:=Io ts 0 S.t,l:=S.l,o:=S.o,b:=S.b }:=fun _ E _ _ hM ht =>
 ⟨E,hM.congr rfl rfl rfl,by rw [D1]; exact ht.len,fun n c u h1 h2=>by
  rcases DZ h1 with h | h
  ·rw [h]; exact .bad _ _
  ·exact ht.val n c u h h2,ht.df,ht.gt⟩
theorem Ac (d:Nat) (S:St):eO S (eD d S):=fun G E a w hM ht=>by
 obtain ⟨E1,h1,h2,_⟩:=qx hM ht d rfl
 exact ⟨E1,h1,h2⟩
theorem rI:∀ (ds:List Nat) (S:St),eO S (zZ ds S)
 | [],S=>.refl S
 | d::ds,S=>(Ac d S).trans (rI ds _)
theorem E9 (i:Nat) (S:St):eO S (fR i S):=fun _ _ _ _ hM ht =>
 let ⟨h1,h2⟩:=tV hM ht i
 ⟨_,h1,h2⟩
theorem wJ:∀ (ds:List Nat) (S:St),eO S (Gp ds S)
 | [],S=>.refl S
 | d::ds,S=>(E9 d S).trans (wJ ds _)
theorem oW:∀ {os:List Ob} {i:Nat} {x:Ob},z3 os=true→os[i]?=some x→x=.dead
 | [],i,x,_,h=>by simp at h
 | .dead::os,0,x,_,h=>by simp at h; exact h.symm
 | .dead::os,i + 1,x,h,h1=>oW (os:=os) (i:=i) h (by simpa using h1)
 | .arr _ _ _::os,_,_,h,_=>by cases h
 | .mapo _ _::os,_,_,h,_=>by cases h
 | .own _ _ _ _::os,_,_,h,_=>by cases h
theorem E_ (n:Nat) (S:St):eO S (Kt n S):=fun _ E _ _ hM ht=>by
 unfold Kt
 split
 ·rename_i h
  rw [Bool.and_eq_true] at h
  have hb:=Nat.le_of_ble_eq_true h.2
  have hbl:=hM.bl
  refine ⟨E,⟨hM.hp,hM.os,hM.tape,hM.output,hM.size,hM.keep,hM.F0,hM.Flt,hM.Fnew,hM.own,hM.inj,hM.loc,fun id=>?_,fun id hid=>?_,?_,hM.szs,hM.pk,fun id=>?_⟩,ht⟩
  ·have h0:=hM.obj id
   show gx E (S.o.take n)[id]? _
   rw [List.getElem?_take]
   split
   ·exact h0
   ·rename_i hn
    cases hx:S.o[id]? with
    | none=>rw [hx] at h0; exact h0
    | some x =>
     have:x=.dead:=oW h.1 (i:=id - n) (by rw [List.getElem?_drop]; rw [show n + (id - n)=id by omega]; exact hx)
     rw [hx,this] at h0
     revert h0
     cases E.mu (.O id) with
     | none=>exact fun _=>trivial
     | some _=>exact fun h=>h.elim
  ·show (S.o.take n)[id]?=some .dead∨_
   have hid':id<S.b:=hid
   rw [List.getElem?_take,if_pos (by omega)]
   exact hM.old id hid
  ·show S.b≤(S.o.take n).length
   rw [List.length_take]
   omega
  ·have h0:=hM.ow id
   show eB E id (S.o.take n)[id]?
   rw [List.getElem?_take]
   split
   ·exact h0
   ·rename_i hn
    cases hx:S.o[id]? with
    | none=>rw [hx] at h0; exact h0
    | some x =>
     have:x=.dead:=oW h.1 (i:=id - n) (by rw [List.getElem?_drop]; rw [show n + (id - n)=id by omega]; exact hx)
     rw [hx,this] at h0
     exact h0
 ·exact ⟨E,hM,ht⟩
theorem wL {G:Gh} {E:Env} {S:St} {w:World} (hM:al G pn E S w):E.mu (.O S.o.length)=none:=by
 have:=hM.obj S.o.length
 rw [List.getElem?_eq_none (Nat.le_refl _)] at this
 revert this
 cases E.mu (.O S.o.length) with
 | none=>exact fun _=>rfl
 | some _=>exact fun h=>h.elim
theorem BJ {G:Gh} {E:Env} {S:St} {w:World} (hM:al G pn E S w) (sz:Nat) (t:List AV):al G pn ⟨E.F,aO E.mu (.O S.o.length) .virt,E.h⟩ { t:=t,l:=S.l,o:=S.o++[.arr true sz []],b:=S.b } w:=by
 have hbl:=hM.bl
 refine hM.addkey' (key:=.O S.o.length) (mv:=.virt) (fun _ _=>rfl) (fun _ h=>by cases h) (wL hM) (fun _ _ _ _ h=>by cases h) (fun _ _=>rfl) (fun id hid=>?_) rfl ?_ (fun id h=>?_) (fun _ h=>by cases h) (fun id h=>?_) ?_
 ·show (S.o++[_])[id]?=_
  by_cases h:id<S.o.length
  ·rw [List.getElem?_append_left h]
  ·have hne:id≠S.o.length:=fun e=>hid (by rw [e])
   rw [List.getElem?_eq_none (by simp; omega),List.getElem?_eq_none (by omega)]
 ·show S.b≤(S.o++[_]).length
  simp
  omega
 ·cases h
  exact hbl
 ·cases h
  show gx _ (S.o++[_])[S.o.length]? _
  rw [List.getElem?_append_right (Nat.le_refl _),Nat.sub_self]
  rfl
 ·exact hM.ow_push rfl rfl
theorem qS:∀ (ps:List (Nat×Nat)) (S:St),eO S (BI ps S)
 | [],S=>.refl S
 | (d,sz)::ps,S=>by
  unfold BI
  split
  ·rename_i hd
   refine eO.trans ?_ (qS ps _)
   intro G E a w hM ht
   refine ⟨_,BJ hM sz _,?_⟩
   have hle:LE E ⟨E.F,aO E.mu (.O S.o.length) .virt,E.h⟩:=k_ (wL hM)
   refine ⟨by simpa using ht.len,fun n c u h1 h2=>?_,ht.df,ht.gt.mono hle⟩
   have h1':(S.t.set d (.mf S.o.length))[n]?=some c:=h1
   rw [List.getElem?_set] at h1'
   split at h1'
   ·rename_i e
    subst e
    split at h1'
    ·cases h1'
     have hv:=ht.val d _ u hd h2
     cases hv
     exact .mfn (by show aO _ _ _ _=_; unfold aO; rw [if_pos rfl])
    ·cases h1'
   ·exact (ht.val n c u h1' h2).mono hle
  ·exact qS ps S
theorem np:∀ (ps:List (Nat×Nat×Nat)) (S:St),eO S (yS ps S)
 | [],S=>.refl S
 | (d,j,sz)::ps,S=>by
  unfold yS
  split
  ·rename_i row hd
   split
   ·rename_i hj
    refine eO.trans ?_ (np ps _)
    intro G E a w hM ht
    have hle:LE E ⟨E.F,aO E.mu (.O S.o.length) .virt,E.h⟩:=k_ (wL hM)
    refine ⟨_,?_,ht.mono hle⟩
    have h0:=BJ hM sz S.t
    refine ⟨h0.hp,h0.os,h0.tape,h0.output,h0.size,h0.keep,h0.F0,h0.Flt,h0.Fnew,h0.own,h0.inj,fun e=>?_,h0.obj,h0.old,h0.bl,h0.szs,(fun _ _ h=>by cases h),h0.ow⟩
    have h1:=h0.loc e
    show gY pn _ (aQ (uA S.l d (row.set j (.mf S.o.length))) e) e
    rw [kH hd]
    split
    ·rename_i e'
     subst e'
     have h1':gY pn ⟨E.F,aO E.mu (.O S.o.length) .virt,E.h⟩ (aQ S.l d) d:=h1
     rw [hd] at h1'
     rcases h1' with ⟨b,h2,h3,h4,us,ty,h5,h6,h7⟩ | ⟨_,h2,_⟩
     ·refine .inl ⟨b,by simpa using h2,by simpa using h3,by simp,us,ty,h5,by simpa using h6,fun m c hc=>?_⟩
      have hf:[row.set j (.mf S.o.length)].flatten=row.set j (.mf S.o.length):=by simp
      have hf0:[row].flatten=row:=by simp
      rw [hf,List.getElem?_set] at hc
      split at hc
      ·rename_i e'
       subst e'
       split at hc
       ·cases hc
        obtain ⟨u,hu,hv⟩:=h7 j .nilsl (by rw [hf0]; exact hj)
        refine ⟨u,hu,?_⟩
        cases hv
        exact .mfn (by show aO _ _ _ _=_; unfold aO; rw [if_pos rfl])
       ·cases hc
      ·exact h7 m c (by rw [hf0]; exact hc)
     ·cases h2
    ·exact h1
   ·exact np ps S
  ·exact np ps S
theorem pH:∀ (ds:List Nat) (S:St),eO S (E6 ds S)
 | [],S=>.refl S
 | d::ds,S=>by
  unfold E6
  split
  ·rename_i x hx
   split
   ·rename_i y hy
    refine eO.trans ?_ (pH ds _)
    intro G E a w hM ht
    obtain ⟨hS1,ht1⟩:=mb (ids:=dH S.o 6 x) hM ht
    obtain ⟨hle2,hS2⟩:=hS1.freeze (F':=FD E (dH S.o 6 x)) (fun b h=>.inl h) (fun b h=>by
     rcases h with h | ⟨id,hid,o',s,n,hm⟩
     ·exact .inl h
     ·obtain ⟨h1,h2,h3⟩:=hM.own _ _ _ _ _ hm
      refine .inr ⟨h2,h3,fun k o'' s' n' h'=>?_⟩
      obtain ⟨h4,h5⟩:=jY h'
      exact h5 id hid (hM.inj _ _ _ _ _ _ _ _ _ h4 hm))
    have ht2:=ht1.mono hle2
    refine ⟨_,hS2.congr rfl rfl rfl,by simpa using ht2.len,fun n c u h1 h2=>?_,ht2.df,ht2.gt⟩
    have h1':((lO (dH S.o 6 x) S).t.set d y)[n]?=some c:=h1
    rw [List.getElem?_set] at h1'
    split at h1'
    ·rename_i e
     subst e
     split at h1'
     ·cases h1'
      have hv:=ij hM 6 hy (ht.val d _ u hx h2) (ids:=dH S.o 6 x) (fun _ h=>h)
      exact hv.mono ⟨fun _ h=>h,fun _ _ _ h=>(by cases h),fun _ _=>rfl,fun _ _ _ _ _ _ h=>(by cases h)⟩
     ·cases h1'
    ·exact ht2.val n c u h1' h2
   ·exact pH ds S
  ·exact pH ds S
theorem Gz (W:Wk) (S:St):eO S (Py W S):=by
 unfold Py
 exact (Gy W.ts S).trans ((rI W.ls _).trans ((wJ _ _).trans ((E_ _ _).trans ((qS _ _).trans (np _ _)))))
theorem Ad (W:Wk) (S:St):eO S (wk W S):=(pH W.fz S).trans (Gz W _)
theorem BK:∀ {xs:List (Nat×AV)} {S:St} {K:St→Prop},Ku xs S K→∃ S',eO S S'∧K S'
 | [],S,K,h=>⟨S,.refl S,h⟩
 | (d,v)::xs,S,K,h=>by
  obtain ⟨a,ha,hl,h⟩:=bW.1 h
  rw [eb] at h
  obtain ⟨S',h1,h2⟩:=BK h
  refine ⟨S',eO.trans ?_ h1,h2⟩
  intro G E act w hM ht
  refine ⟨E,hM.congr rfl rfl rfl,by simpa using ht.len,fun n c u h1 h2=>?_,ht.df,ht.gt⟩
  have h1':(S.t.set d v)[n]?=some c:=h1
  rw [List.getElem?_set] at h1'
  split at h1'
  ·rename_i e
   subst e
   split at h1'
   ·cases h1'
    exact hl _ _ (ht.val d _ u ha h2)
   ·cases h1'
  ·exact ht.val n c u h1' h2
theorem BL:∀ {xs:List (Nat×List AV)} {S:St} {K:St→Prop},Ip xs S K→∃ S',eO S S'∧K S'
 | [],S,K,h=>⟨S,.refl S,h⟩
 | (d,r)::xs,S,K,h=>by
  unfold Ip at h
  split at h
  ·rename_i row hd
   obtain ⟨hl,h⟩:=h
   rw [iQ] at h
   obtain ⟨S',h1,h2⟩:=BL h
   refine ⟨S',eO.trans ?_ h1,h2⟩
   intro G E act w hM ht
   refine ⟨E,?_,ht⟩
   refine ⟨hM.hp,hM.os,hM.tape,hM.output,hM.size,hM.keep,hM.F0,hM.Flt,hM.Fnew,hM.own,hM.inj,fun e=>?_,hM.obj,hM.old,hM.bl,hM.szs,(fun _ _ h=>by cases h),hM.ow⟩
   have h1:=hM.loc e
   show gY pn _ (aQ (uA S.l d r) e) e
   rw [kH hd]
   split
   ·rename_i e'
    subst e'
    rw [hd] at h1
    rcases h1 with ⟨b,h2,h3,h4,us,ty,h5,h6,h7⟩ | ⟨_,h2,_⟩
    ·refine .inl ⟨b,by rw [← hl.1]; exact h2,by rw [← hl.1]; exact h3,by simp,us,ty,h5,by rw [← hl.1]; exact h6,fun m c hc=>?_⟩
     have hf:[r].flatten=r:=by simp
     have hf0:[row].flatten=row:=by simp
     rw [hf] at hc
     have hm:m<row.length:=by rw [hl.1]; exact (List.getElem?_eq_some_iff.1 hc).1
     obtain ⟨u,hu,hv⟩:=h7 m _ (by rw [hf0]; exact List.getElem?_eq_getElem hm)
     exact ⟨u,hu,hl.2 m _ c (List.getElem?_eq_getElem hm) hc _ _ hv⟩
    ·cases h2
   ·exact h1
  ·exact False.elim h
theorem BM:∀ {xs:List (Nat×List (List AV))} {S:St} {K:St→Prop},Iq xs S K→∃ S',eO S S'∧K S'
 | [],S,K,h=>⟨S,.refl S,h⟩
 | (i,R)::xs,S,K,h=>by
  unfold Iq at h
  split at h
  ·rename_i fl sz rows hi
   obtain ⟨hl,h⟩:=h
   rw [az] at h
   obtain ⟨S',h1,h2⟩:=BM h
   refine ⟨S',eO.trans ?_ h1,h2⟩
   intro G E act w hM ht
   refine ⟨E,?_,ht⟩
   refine ⟨hM.hp,hM.os,hM.tape,hM.output,hM.size,hM.keep,hM.F0,hM.Flt,hM.Fnew,hM.own,hM.inj,hM.loc,fun id=>?_,fun id hid=>?_,by show S.b≤(S.o.set _ _).length; rw [List.length_set]; exact hM.bl,hM.szs,hM.pk,fun id=>?_⟩
   ·have h1:=hM.obj id
    show gx E (S.o.set i _)[id]? _
    rw [List.getElem?_set]
    split
    ·rename_i e
     subst e
     rw [if_pos (List.getElem?_eq_some_iff.1 hi).1]
     rw [hi] at h1
     revert h1
     cases E.mu (.O i) with
     | none=>exact fun h=>h
     | some mv =>
      cases mv with
      | virt =>
       intro h
       have h:rows=[]:=h
       subst h
       exact List.eq_nil_of_length_eq_zero hl.1.symm
      | blk b o s n =>
       rintro ⟨⟨h1,h2⟩,h3,h4,us,ty,h5,h6,h7⟩
       refine ⟨⟨h1,by rw [← hl.1]; exact h2⟩,h3,hl.lens h4,us,ty,h5,by rw [← hl.1]; exact h6,fun m c hc=>?_⟩
       have hf:=hl.flat
       have hm:m<rows.flatten.length:=by rw [hf.1]; exact (List.getElem?_eq_some_iff.1 hc).1
       obtain ⟨u,hu,hv⟩:=h7 m _ (List.getElem?_eq_getElem hm)
       exact ⟨u,hu,hf.2 m _ c (List.getElem?_eq_getElem hm) hc _ _ hv⟩
    ·exact h1
   ·have h1:=hM.old id hid
    show (S.o.set i _)[id]?=some .dead∨_
    rw [List.getElem?_set]
    split
    ·rename_i e
     subst e
     rcases h1 with h1 | h1
     ·rw [hi] at h1; cases h1
     ·exact .inr h1
    ·exact h1
   ·have h1:=hM.ow id
    show eB E id (S.o.set i _)[id]?
    rw [List.getElem?_set]
    split
    ·rename_i e
     subst e
     rw [if_pos (List.getElem?_eq_some_iff.1 hi).1]
     rw [hi] at h1
     exact h1
    ·exact h1
  ·exact False.elim h
theorem vd {L:Le} {S:St} {K:St→Prop} (h:Mr L S K):∃ S',eO S S'∧K S':=by
 obtain ⟨S1,h1,h⟩:=BK h
 obtain ⟨S2,h2,h⟩:=BL h
 obtain ⟨S3,h3,h⟩:=BM h
 exact ⟨S3,h1.trans (h2.trans h3),h⟩
structure AI (C:Ctx):Prop where
 det:gz C
theorem aA.mono2 {α β:Type} {X:(α→β→Prop)→Prop} (h:au X) {K K':α→β→Prop} (hx:X K) (hk:∀ r s,K r s→K' r s):X K':=by
 obtain ⟨r,s,h1,h2⟩:=h _ hx
 exact h2 _ (hk r s h1)
theorem aA.mono {α:Type} {X:(α→Prop)→Prop} (h:aA X) {K K':α→Prop} (hx:X K) (hk:∀ r,K r→K' r):X K':=by
 obtain ⟨r,h1,h2⟩:=h K hx
 exact h2 _ (hk r h1)
theorem au.mono {α β:Type} {X:(α→β→Prop)→Prop} (h:au X) {K K':α→β→Prop} (hx:X K) (hk:∀ a b,K a b→K' a b):X K':=by
 obtain ⟨a,b,h1,h2⟩:=h K hx
 exact h2 _ (hk a b h1)
theorem Fa {op:BinOp} {x y:Value} {K:Value→Prop} (h:Gq op x y K):vr op x y K:=by
 unfold Gq at h
 unfold vr
 split at h <;> first
  | exact ar h.1 h.2
  | exact False.elim h
section
variable {C:Ctx} {A:eY} {pl:br} {o:Oper}
theorem Fb {op:BinOp} {t:TypeId} {x y:AV} {k:AV→Prop} (h:Gr C A o op t x y k):Ck C.P op t x y k:=by
 unfold Gr at h
 split at h
 ·rename_i a b
  show yd C.P op t a b k
  unfold yd
  split at h
  ·rename_i hn
   rw [hn]
   dsimp only
   split at h
   ·exact h
   ·rename_i a b hne
    split
    ·exact (hne _ _ rfl rfl).elim
    ·exact Fa h
  ·rename_i c hc
   rw [hc]
   exact h
 ·rename_i as bs
  show (match uB as,uB bs with
  | some xs,some ys =>
   match nV C.P op t xs ys with
   | some (.bool b)=>k (.v (.bool b))
   | _=>ai 226
  | _,_=>ai 227)
  split at h
  ·rename_i xs ys h1 h2
   try rw [h1,h2]
   try dsimp only
   split at h
   ·rw [h.1]
    exact h.2
   ·exact False.elim h
  ·exact False.elim h
 ·exact False.elim h
theorem BN {t:TypeId} {x ix:AV} {k:AV→Prop} (h:z8 C A o t x ix k):qo C.P t x ix k:=by
 unfold z8 at h
 unfold qo
 refine aA.mono a7 h (fun i h'=>?_)
 clear h
 split at h'
 ·rename_i s hu
  rw [hu]
  dsimp only
  split at h'
  ·rw [h'.1]
   dsimp only
   have h2:=h'.2.2
   rw [h'.2.1] at h2
   exact h2
  ·exact False.elim h'
 ·rename_i len e cs hu
  rw [hu]
  dsimp only
  have h:=h'
  split at h
  ·rename_i inf hi
   rw [hi]
   exact ar h.1 h.2
  ·exact False.elim h
 ·exact False.elim h'
theorem GA {vs:List AV} {k:AV→Prop} (h:Kv C A pl o vs k):pop C pl o vs k:=by
 unfold Kv at h
 split at h
 ·exact h
 ·split at h
  ·rename_i ho
   unfold pop
   rw [ho]
   exact Fb h
  ·rename_i ho
   unfold pop
   rw [ho]
   exact BN h
  ·exact False.elim h
theorem pI {len cap:Nat} {lo hi mx:Option Int} {k:Nat→Nat→Nat→Prop} (h:yT len cap lo hi mx k):sD len cap lo hi mx k:=by
 unfold yT at h
 unfold sD
 split at h <;> first
  | exact h
  | exact ar h.1 h.2
  | exact False.elim h
theorem ip {t:TypeId} {x:AV} {lo hi mx:Option Int} {S:St} {k:AV→Prop} (h:lS C t x lo hi mx S k):ji C.P t x lo hi mx S k:=by
 unfold lS at h
 rw [Bool.and_comm (i7 mx) (i7 hi)] at h
 unfold ji
 split at h
 ·rename_i hu
  rw [hu]
  dsimp only
  split at h
  ·exact pI h
  ·exact False.elim h
 ·rename_i e hu
  rw [hu]
  dsimp only
  split at h
  ·rename_i i hi
   rw [hi]
   dsimp only
   obtain ⟨h0,h⟩:=ac h
   refine ar h0 ?_
   split at h
   ·exact ar h.1 (pI h.2)
   ·split at h
    ·rename_i ho
     dsimp only
     rw [ho]
     obtain ⟨h1,h⟩:=ac h
     exact ar h1 (pI h)
    ·exact False.elim h
   ·split at h
    ·rename_i ho
     dsimp only
     rw [ho]
     obtain ⟨h1,h⟩:=ac h
     exact ar h1 (pI h)
    ·exact False.elim h
   ·exact False.elim h
  ·exact False.elim h
 ·exact False.elim h
theorem uL {row:List AV} {t:TypeId} {x ix:AV} {S:St} {k:AV→Prop} (h:oU C row t x ix S k):gX C.P t x ix S k:=by
 unfold oU at h
 unfold gX
 refine aA.mono a7 h (fun i h=>?_)
 split at h
 ·rename_i e hu
  rw [hu]
  dsimp only
  split at h
  ·rename_i inf hi
   rw [hi]
   dsimp only
   split at h
   ·have h1:=h.1
    unfold Ch at h1
    dsimp only
    rw [h1]
    exact h.2
   ·split at h
    ·rename_i ho
     dsimp only
     rw [ho]
     dsimp only
     have h1:=h.1
     unfold Ch at h1
     rw [h1]
     exact h.2
    ·rename_i ho
     dsimp only
     rw [ho]
     obtain ⟨h1,h2,h3⟩:=ac h
     refine ar ?_ h3
     rw [Bool.and_eq_true]
     exact ⟨h2,h1⟩
    ·exact False.elim h
   ·split at h
    ·rename_i ho
     dsimp only
     rw [ho]
     dsimp only
     refine ar h.1 ?_
     rw [h.2.1]
     exact h.2.2
    ·exact False.elim h
   ·exact False.elim h
  ·exact False.elim h
 ·rename_i len e hu
  rw [hu]
  dsimp only
  split at h
  ·rename_i inf hi
   rw [hi]
   exact ar h.1 h.2
  ·exact False.elim h
 ·exact False.elim h
theorem ui (hC:AI C) {fid:Nat} {as:List AV} {k:AV→Prop} (h:vc C A o fid as k):C.pcall fid as k:=by
 unfold vc at h
 split at h
 ·exact aA.mono (hC.det.pcall _ _) h.1 (fun _ e=>by rw [e]; exact h.2)
 ·exact h
theorem GB (hC:AI C) {vs:List AV} {M:St} {k:AV→Prop} (h:Kw C A o vs M k):q_ C o vs M k:=by
 unfold Kw at h
 split at h
 ·rename_i ho
  split at h
  ·split at h
   ·split at h
    ·rename_i hob
     unfold q_
     rw [ho]
     dsimp only
     unfold FI
     dsimp only
     unfold xv
     dsimp only
     rw [hob]
     dsimp only
     rw [h.1]
     exact h.2
    ·exact False.elim h
   ·exact False.elim h
  ·exact h
 ·rename_i ho
  split at h
  ·exact h
  ·unfold q_
   rw [ho]
   split at h
   ·exact ip h
   ·exact aA.mono a7 h (fun _ h=>ip h)
   ·exact aA.mono a7 h (fun _ h=>ip h)
   ·exact aA.mono a7 h (fun _ h=>aA.mono a7 h (fun _ h=>ip h))
   ·exact aA.mono a7 h (fun _ h=>aA.mono a7 h (fun _ h=>ip h))
   ·exact aA.mono a7 h (fun _ h=>aA.mono a7 h (fun _ h=>aA.mono a7 h (fun _ h=>ip h)))
   ·exact False.elim h
 ·rename_i ho
  split at h
  ·unfold q_
   rw [ho]
   exact uL h
  ·exact h
 ·rename_i ho
  split at h
  ·split at h
   ·rename_i hu
    split at h
    ·rename_i hob
     unfold q_
     rw [ho]
     dsimp only
     unfold px
     rw [hu]
     dsimp only
     rw [hob]
     exact h.1 _ h.2
    ·exact False.elim h
   ·exact False.elim h
  ·exact h
 ·rename_i c ho
  split at h
  ·rename_i hcal
   split at h
   ·unfold q_
    rw [ho]
    dsimp only
    rw [hcal]
    dsimp only
    obtain ⟨h1,h⟩:=ac h
    exact ar h1 (aA.mono (dp _ _) h (fun bs hb=>ui hC hb))
   ·exact False.elim h
  ·exact h
 ·exact h
theorem BO {S:St} {row:List AV} {a:AV} {cs:List AV} {K:St→Prop} (h:z_ S row a cs K):l7 S a cs K:=by
 unfold z_ at h
 split at h
 ·unfold l7
  split at h
  ·rename_i ho
   dsimp only
   rw [ho]
   dsimp only
   rw [h.1]
   exact h.2
  ·exact False.elim h
 ·exact False.elim h
theorem BP {vs:List AV} {M:St} {k:AV→St→Prop} (h:Ir C A o vs M k):yg C o vs M k:=by
 unfold Ir at h
 split at h
 ·exact h
 ·split at h
  ·rename_i ho
   split at h
   ·unfold yg
    rw [ho]
    refine aA.mono bR h (fun cs h=>?_)
    split at h
    ·rename_i hi
     rw [hi]
     obtain ⟨h1,h⟩:=ac h
     exact ar h1 (BO h)
    ·exact False.elim h
   ·exact h
  ·exact h
theorem qT {size:Nat} {S:St} {x:AV} {k:Bool→List (List AV)→Prop} (h:wB size S x k):km size S x k:=by
 unfold wB at h
 unfold km
 split at h <;> first
  | exact ar h.1 h.2
  | exact h
  | exact False.elim h
theorem Ae {ts:List TypeId} {base x:AV} {S:St} {k:St→AV→Prop} (h:wC C.P ts base x S k):lJ C.P ts base x S k:=by
 unfold wC at h
 unfold lJ
 split at h
 ·split at h
  ·rename_i e hu
   dsimp only
   rw [hu]
   dsimp only
   split at h
   ·rename_i i hi
    rw [hi]
    dsimp only
    obtain ⟨h1,h⟩:=ac h
    refine ar h1 ?_
    refine au.mono dU (qT h) (fun fl src h=>?_)
    refine ar h.1 ?_
    replace h:=h.2
    split at h
    ·exact ar h.1 h.2
    ·exact ar h.1 h.2
    ·split at h
     ·rename_i ho
      dsimp only
      rw [ho]
      obtain ⟨h1,h⟩:=ac h
      refine ar ?_ h.2
      simp only [Bool.and_eq_true] at h1 ⊢
      exact ⟨⟨h1.1,h.1⟩,h1.2⟩
     ·exact False.elim h
    ·split at h
     ·rename_i ho
      dsimp only
      rw [ho]
      obtain ⟨h1,h2,h3,h⟩:=ac h
      refine ar h1 ?_
      rw [h2]
      exact ar h3 h
     ·exact False.elim h
    ·exact False.elim h
   ·exact False.elim h
  ·exact False.elim h
 ·exact False.elim h
theorem xO {ts:List TypeId} {base x:AV} {k:AV→Prop} (h:s9 C.P ts base x k):kT C.P ts base x k:=by
 unfold s9 at h
 unfold kT
 split at h
 ·split at h
  ·rename_i e hu
   dsimp only
   rw [hu]
   dsimp only
   split at h
   ·rename_i i hi
    rw [hi]
    dsimp only
    obtain ⟨h1,h⟩:=ac h
    refine ar h1 ?_
    refine au.mono dU (qT h) (fun fl src h=>?_)
    obtain ⟨h2,h3,h4,h⟩:=ac h
    refine ar ?_ h
    rw [h2,h3,h4]
    rfl
   ·exact False.elim h
  ·exact False.elim h
 ·exact False.elim h
theorem GC {vs:List AV} {k:AV→Prop} (h:Kx C o vs k):Ke C o vs k:=by
 unfold Kx at h
 unfold Ke
 split at h
 ·rename_i c x y ho
  rw [ho]
  dsimp only
  split at h
  ·rename_i hc
   rw [hc]
   exact xO h
  ·exact False.elim h
 ·exact False.elim h
theorem xP {ts:List TypeId} {base:AV} {n:Int} {S:St} {k:St→AV→Prop} (h:ta C.P ts base n S k):kU C.P ts base n S k:=by
 unfold ta at h
 unfold kU
 split at h
 ·split at h
  ·rename_i hu hv
   dsimp only
   rw [hu,hv]
   dsimp only
   split at h
   ·rename_i hi
    rw [hi]
    exact ar h.1 h.2
   ·exact False.elim h
  ·exact False.elim h
 ·exact False.elim h
theorem nG {t:TypeId} {l c:AV} {S:St} {k:St→AV→Prop} (h:lT C.P t l c S k):bo C.P t l c S k:=by
 unfold lT at h
 unfold bo
 split at h
 ·rename_i hu
  rw [hu]
  dsimp only
  split at h
  ·rename_i hi
   rw [hi]
   dsimp only
   exact aA.mono a7 h (fun _ h=>aA.mono a7 h (fun _ h=>ar h.1 h.2))
  ·exact False.elim h
 ·exact False.elim h
theorem C1 (hC:AI C) {f:AV} {args:List AV} {S:St} {k:St→AV→Prop} (h:CY C A o f args S k):yf C f args S k:=by
 unfold CY at h
 unfold yf
 split at h
 ·dsimp only
  split at h
  ·rename_i hp
   rw [hp]
   exact aA.mono (dp _ _) h (fun bs hb=>ui hC hb)
  ·rename_i hp
   rw [hp]
   obtain ⟨h1,h⟩:=ac h
   refine ar h1 ?_
   split at h
   ·exact au.mono (hC.det.scall _ _ _) h.1 (fun r o' ⟨e1,e2⟩=>by subst e1 e2; exact h.2)
   ·exact h
 ·exact False.elim h
theorem nH {R:List (AV×AV)} {t:TypeId} {m key x:AV} {S:St} {K:St→Prop} (h:lU C.P R t m key x S K):eJ C.P t m key x S K:=by
 unfold lU at h
 unfold eJ
 split at h
 ·rename_i hu
  rw [hu]
  dsimp only
  split at h
  ·split at h
   ·rename_i fl es ho
    dsimp only
    rw [ho]
    dsimp only
    obtain ⟨h1,h2,h3⟩:=ac h
    refine ar h1 ?_
    have:=h2 (fun es'=>ba (S.o.set _ (.mapo (fl&&dj 4 x) es')) fun o=>K { t:=S.t,l:=S.l,o:=o,b:=S.b }) h3
    exact this
   ·exact False.elim h
  ·exact False.elim h
 ·exact False.elim h
theorem C2 {ts:List TypeId} {x y:AV} {M:St} {k:AV→St→Prop} (h:CX C.P ts x y M k):tK C.P ts x y M k:=by
 unfold CX at h
 unfold tK
 split at h
 ·split at h
  ·rename_i e hu
   dsimp only
   rw [hu]
   dsimp only
   split at h
   ·rename_i i hi
    rw [hi]
    dsimp only
    obtain ⟨h1,h⟩:=ac h
    refine ar h1 ?_
    refine au.mono dU (qT h) (fun fl src h=>?_)
    obtain ⟨h2,h⟩:=h
    obtain ⟨h3,h⟩:=ac h
    refine ar (by rw [h2,h3]; rfl) ?_
    split at h
    ·split at h
     ·rename_i ho
      dsimp only
      rw [ho]
      exact h
     ·exact False.elim h
    ·split at h
     ·rename_i ho
      dsimp only
      rw [ho]
      obtain ⟨h1,h2,h⟩:=ac h
      exact ar (by rw [h1,h2]; rfl) h
     ·exact False.elim h
    ·exact False.elim h
   ·exact False.elim h
  ·exact False.elim h
 ·exact False.elim h
theorem BQ (hC:AI C) {S:St} {K:St→Prop} (h:Is C A pl o S K):xw C pl o S K:=by
 unfold Is at h
 split at h
 ·rename_i ho
  split at h
  ·unfold xw
   rw [ho]
   refine aA.mono bX h (fun m h=>?_)
   refine aA.mono bX h (fun k h=>?_)
   refine aA.mono bX h (fun x h=>?_)
   exact nH h
  ·exact h
 ·rename_i ho
  split at h
  ·unfold xw
   rw [ho]
   refine aA.mono bX h (fun m h=>?_)
   refine aA.mono bX h (fun k h=>?_)
   refine aA.mono bX h (fun x h=>?_)
   exact nH h
  ·exact h
 ·rename_i ho
  split at h
  ·unfold xw
   rw [ho]
   refine aA.mono bX h (fun l h=>?_)
   refine aA.mono bX h (fun c h=>?_)
   exact nG h
  ·exact h
 ·rename_i c ho
  split at h
  ·rename_i hcal
   split at h
   ·unfold xw
    rw [ho]
    dsimp only
    rw [hcal]
    dsimp only
    refine aA.mono a6 h (fun as h=>?_)
    split at h
    ·exact xP h
    ·rename_i x y hne
     split
     ·rename_i e
      cases e
      exact (hne _ _ rfl).elim
     ·rename_i e
      cases e
      exact Ae h
     ·rename_i h3
      exact (h3 _ _ rfl).elim
    ·exact False.elim h
   ·exact h
  ·rename_i hcal
   unfold xw
   rw [ho]
   dsimp only
   rw [hcal]
   dsimp only
   refine aA.mono a6 h (fun as h=>?_)
   split at h
   ·exact C2 h
   ·exact False.elim h
  ·rename_i f hcal
   unfold xw
   rw [ho]
   dsimp only
   rw [hcal]
   dsimp only
   refine aA.mono bX h (fun l h=>?_)
   refine aA.mono a6 h (fun c h=>?_)
   exact C1 hC h
  ·exact h
 ·exact h
theorem ln {K:St→Prop} {S:St} (h:nQ A o K S):K S:=by
 have h2:∀ {key:Nat} {S:St} {K:St→Prop},Gs A key S K→K S:=by
  intro key S K h
  unfold Gs at h
  split at h
  ·exact h
  ·split at h
   ·rename_i ho
    obtain ⟨h1,h⟩:=h
    subst h1
    rw [az] at h
    have e:∀ {α:Type} {l:List α} {i:Nat} {x:α},l[i]?=some x→l.set i x=l:=by
     intro α l i x hx
     refine List.ext_getElem? (fun m=>?_)
     rw [List.getElem?_set]
     split
     ·rename_i e
      subst e
      rw [if_pos (List.getElem?_eq_some_iff.1 hx).1,hx]
     ·rfl
    rw [e ho] at h
    exact h
   ·exact False.elim h
 unfold nQ at h
 unfold JJ at h
 split at h
 ·exact h2 h
 ·split at h
  ·exact h2 h
  ·rename_i v hv
   obtain ⟨a,ha,e,h⟩:=bW.1 h
   subst e
   rw [eb,oN ha] at h
   exact h2 h
theorem yV {S:St} {K:St→Prop} (h:Gt C A pl o S K):Ez C pl o S K:=aA.mono a6 h (fun _ h=>GA h)
theorem yW (hC:AI C) {S:St} {K:St→Prop} (h:Gu C A o S K):EA C o S K:=aA.mono a6 h (fun _ h=>GB hC h)
theorem Fc {S:St} {K:St→Prop} (h:JK C A o S K):EB C o S K:=aA.mono a6 h (fun _ h=>BP h)
theorem qa {row:Option (List (List AV))} {M:St} {id i:Nat} {k:AV→St→Prop} (h:pG row M id i k):fC M id i k:=by
 unfold pG at h
 unfold fC
 split at h
 ·rename_i hob
  rw [hob]
  dsimp only
  split at h
  ·obtain ⟨h1,h⟩:=h
   rw [h1]
   exact h
  ·obtain ⟨h1,h⟩:=h
   rw [h1]
   exact h
 ·exact h.elim
theorem xQ {P:Program} {a:z7} {t:TypeId} {same:Bool} {M:St} {id i:Nat} {k:AV→St→Prop} (h:tc P a t same M id i k):iM P t same M id i k:=by
 unfold tc at h
 unfold iM
 split at h
 ·split at h
  ·rename_i hob
   rw [hob]
   exact ar h.1 h.2
  ·exact h.elim
 ·exact qa h
theorem wM {P:Program} {t:TypeId} {M:St} {id i:Nat} {v:AV} {K:St→Prop} (h:qR P t M id i v K):gv P t M id i v K:=by
 unfold qR at h
 unfold gv
 split at h
 ·rename_i hi hob
  rw [hi,hob]
  obtain ⟨h1,h2,h3⟩:=ac h
  refine ar ?_ h3
  simp only [Bool.and_eq_true] at h1 h2 ⊢
  exact ⟨⟨⟨h1.1,h2.1⟩,h1.2⟩,h2.2⟩
 ·exact h.elim
theorem xR {P:Program} {a:z7} {t:TypeId} {l c:AV} {M:St} {k:AV→St→Prop} (h:td P a t l c M k):gN P t l c M k:=by
 unfold td at h
 unfold gN
 split at h
 ·rename_i hu
  rw [hu]
  dsimp only
  split at h
  ·rename_i hi he
   rw [hi,he]
   dsimp only
   split at h
   ·rename_i hi2
    rw [hi2]
    dsimp only
    refine jo h (fun n h=>?_)
    refine jo h (fun m h=>?_)
    obtain ⟨h1,h⟩:=h
    obtain ⟨h2,h⟩:=ac h
    refine ar ?_ ?_
    ·simp only [Bool.and_eq_true] at h1 h2 ⊢
     exact ⟨⟨h1,h2.1⟩,h2.2⟩
    ·refine na h (fun z h=>?_)
     split at h
     ·obtain ⟨h3,h⟩:=h
      dsimp only
      rw [h3]
      exact h
     ·exact h.elim
   ·exact h.elim
  ·exact h.elim
 ·exact h.elim
theorem xS {P:Program} {a:z7} {t:TypeId} {m key:AV} {ok:Bool} {M:St} {k:AV→St→Prop} (h:te P a t m key ok M k):iN P t m key ok M k:=by
 unfold te at h
 unfold iN
 split at h
 ·rename_i hu
  rw [hu]
  dsimp only
  split at h
  ·dsimp only
   split at h
   ·rename_i hob
    rw [hob]
    dsimp only
    split at h
    ·obtain ⟨h1,h2⟩:=h
     exact h1 (fun r=>match r with
      | some i=>fC M _ i fun a M'=>nY ok a true fun r=>k r M'
      | none=>iK P _ ok fun r=>k r M) (qa h2)
    ·obtain ⟨h1,h2⟩:=h
     exact h1 (fun r=>match r with
      | some i=>fC M _ i fun a M'=>nY ok a true fun r=>k r M'
      | none=>iK P _ ok fun r=>k r M) h2
   ·exact h.elim
  ·exact h.elim
 ·exact h.elim
theorem rJ {P:Program} {a:z7} {t:TypeId} {m key x:AV} {M:St} {K:St→Prop} (h:rH P a t m key x M K):jK P t m key x M K:=by
 unfold rH at h
 unfold jK
 split at h
 ·rename_i hu
  rw [hu]
  dsimp only
  split at h
  ·rename_i id
   dsimp only
   split at h
   ·rename_i ks sz cells hole hob
    rw [hob]
    dsimp only
    obtain ⟨h1,h2,h3⟩:=ac h
    refine ar h1 ?_
    have h4:=h2 (MF M id sz cells hole x K) h3
    refine aA.mono2 cW h4 (fun kv r h5=>?_)
    obtain ⟨h6,h7⟩:=ac h5
    refine ar h6 ?_
    cases r with
    | none=>exact h7
    | some i =>
     obtain ⟨h8,h9,h10⟩:=ac h7
     refine ar ?_ h10
     rw [Bool.and_eq_true]
     exact ⟨h8,h9⟩
   ·exact h.elim
  ·exact h.elim
 ·exact h.elim
theorem uj {M:St} {x:AV} {X Y:Nat→Nat→Prop} (h:jj M x X) (hk:∀ id i,X id i→Y id i):jj M x Y:=by
 unfold jj at h ⊢
 split at h
 ·split at h
  ·exact hk _ _ h
  ·exact h.elim
 ·exact h.elim
theorem yX {P:Program} {vs:List AV} {M:St} {k:AV→St→Prop} (h:DU P A pl o vs M k):lz P pl o vs M k:=by
 unfold DU at h
 split at h
 ·exact h
 ·split at h
  ·rename_i ho
   unfold lz
   rw [ho]
   exact uj h (fun _ _ h=>xQ h)
  ·rename_i ho
   unfold lz
   rw [ho]
   exact uj h (fun _ _ h=>wM h)
  ·rename_i ho
   unfold lz
   rw [ho]
   exact xR h
  ·rename_i ho
   unfold lz
   rw [ho]
   exact xS h
  ·rename_i ho
   unfold lz
   rw [ho]
   exact rJ h
  ·rename_i ho
   unfold lz
   rw [ho]
   exact rJ h
  ·exact h.elim
theorem xT {S:St} {id:Nat} {K:St→Prop} (h:tf A S id K):iL S id K:=by
 unfold tf at h
 split at h
 ·exact h
 ·unfold iL
  split at h
  ·rename_i hob
   rw [hob]
   dsimp only
   split at h
   ·rename_i hk
    rw [hk]
    obtain ⟨h1,h2,h3,h4⟩:=ac h
    refine ar ?_ ?_
    ·rw [Bool.and_eq_true]
     exact ⟨h1,h2⟩
    ·rw [h3]
     exact h4
   ·exact h.elim
  ·rename_i hob
   rw [hob]
   dsimp only
   obtain ⟨h2,h3,h4⟩:=h
   refine ar h2 ?_
   rw [h3]
   exact h4
  ·exact h.elim
theorem rK:∀ {ids:List Nat} {S:St} {K:St→Prop},wD A ids S K→py ids S K
 | [],_,_,h=>h
 | _::_,_,_,h=>aA.mono rA (xT h) (fun _ h=>rK h)
theorem Af {S:St} {id:Nat} {K:St→Prop} (h:wE A S id K):kx S id K:=by
 unfold wE at h
 split at h
 ·exact h
 ·unfold kx
  split at h
  ·rename_i hob
   rw [hob]
   dsimp only
   rw [h.1]
   exact h.2
  ·exact h.elim
theorem qb:∀ {ids:List Nat} {S:St} {K:St→Prop},tg A ids S K→mE ids S K
 | [],_,_,h=>h
 | _::_,_,_,h=>aA.mono ua (Af h) (fun _ h=>qb h)
theorem wN {id:Nat} {S:St} {K:St→Prop} (h:wF A pl id S K):lL pl id S K:=by
 unfold wF at h
 unfold lL
 split at h
 ·rename_i hc
  rw [hc]
  exact h
 ·rename_i hc
  rw [hc]
  dsimp only
  refine aA.mono (oK _ _) (rK h) (fun S1 h=>?_)
  split at h
  ·rename_i hc
   rw [hc]
   exact h
  ·rename_i hc
   rw [hc]
   exact qb h
theorem C3 (hC:AI C) {vs:List AV} {M:St} {k:AV→St→Prop} (h:CZ C A o vs M k):lM C o vs M k:=by
 unfold CZ at h
 split at h
 ·rename_i t X Y l c ho
  split at h
  ·unfold lM
   rw [ho]
   exact nG h
  ·exact h
 ·rename_i c fid first cap as ho
  unfold lM
  rw [ho]
  dsimp only
  split at h
  ·rename_i x hcal
   rw [hcal]
   obtain ⟨h1,h⟩:=ac h
   refine ar h1 ?_
   split at h
   ·obtain ⟨h2,h3⟩:=h
    obtain ⟨r0,o0,⟨e1,e2⟩,h4⟩:=hC.det.scall _ _ _ _ h2
    subst e1 e2
    exact h4 _ h3
   ·exact h
  ·exact h.elim
 ·rename_i hne hne2
  have h':=BP h
  unfold lM
  split
  ·rename_i t X Y l c ho
   exact absurd rfl (hne t X Y l c ho)
  ·rename_i c fid first cap as ho
   exact absurd rfl (hne2 c fid first cap as ho)
  ·exact h'
theorem Fe (hC:AI C) {vs:List AV} {M:St} {k:AV→St→Prop} (h:Gv C A pl o vs M k):m5 C pl o vs M k:=by
 unfold Gv at h
 unfold m5
 split at h
 ·rename_i hw
  rw [hw]
  exact yX h
 ·rename_i hw
  rw [hw]
  exact C3 hC h
theorem C4 (hC:AI C) {S:St} {K:St→Prop} (h:Gw C A pl o S K):pV C pl o S K:=aA.mono a6 h (fun _ h=>Fe hC h)
theorem Ff {S:St} {K:St→Prop} (h:JL C A pl o S K):zq C pl o S K:=aA.mono a6 h (fun _ h=>yX h)
theorem Fg {S:St} {K:St→Prop} (h:JM C o S K):EC C o S K:=aA.mono a6 h (fun _ h=>GC h)
theorem GD (hC:AI C) {S:St} {K:St→Prop} (h:Ky C A pl o S K):zr C pl o S K:=by
 refine aA.mono (Bo hC.det) (K:=nQ A o K) ?_ (fun _ h=>ln h)
 unfold Ky at h
 unfold zr
 split at h
 ·rename_i hc
  rw [hc]
  exact yV h
 ·rename_i hc
  rw [hc]
  exact yW hC h
 ·rename_i hc
  rw [hc]
  exact Fc h
 ·rename_i h0 h1 h2
  have:=BQ hC h
  split
  ·exact absurd (by assumption) h0
  ·exact absurd (by assumption) h1
  ·exact absurd (by assumption) h2
  ·exact this
theorem D2 (hC:AI C) {S:St} {K:St→Prop} (h:MH C A pl o S K):FU C pl o S K:=by
 unfold MH at h
 unfold FU
 split at h
 ·rename_i hw
  rw [hw]
  exact aA.mono Bm (Ff h) (fun _ h=>ln h)
 ·rename_i hw
  rw [hw]
  exact GD hC h
theorem BR (hC:AI C) {S:St} {K:St→Prop} (h:Gx C A pl o S K):xt C pl o S K:=by
 unfold Gx at h
 split at h
 ·rename_i hc
  refine aA.mono (iT hC.det) (K:=nQ A o K) ?_ (fun _ h=>ln h)
  unfold xt
  rw [hc]
  exact yV h
 ·rename_i hc
  refine aA.mono (iT hC.det) (K:=nQ A o K) ?_ (fun _ h=>ln h)
  unfold xt
  rw [hc]
  exact yW hC h
 ·rename_i hc
  refine aA.mono (iT hC.det) (K:=nQ A o K) ?_ (fun _ h=>ln h)
  unfold xt
  rw [hc]
  exact C4 hC h
 ·rename_i hc
  unfold xt
  rw [hc]
  exact h
 ·rename_i hc
  refine aA.mono (iT hC.det) (K:=nQ A o K) ?_ (fun _ h=>ln h)
  unfold xt
  rw [hc]
  exact Fg h
 ·rename_i h0 h1 h2 h4 h5
  refine aA.mono (iT hC.det) (K:=nQ A o K) ?_ (fun _ h=>ln h)
  unfold xt
  split
  ·exact absurd (by assumption) h0
  ·exact absurd (by assumption) h1
  ·exact absurd (by assumption) h2
  ·exact absurd (by assumption) h4
  ·exact absurd (by assumption) h5
  ·split at h
   ·exact False.elim h
   ·rename_i hb
    rw [hb]
    exact BQ hC h
theorem It (hC:AI C) {all:Array Oper} {S:St} {K:St→Prop} (h:Pz C A pl all o S K):ag C pl all o S K:=by
 unfold Pz at h
 unfold ag
 split at h
 ·rename_i hg
  rw [hg]
  obtain ⟨h1,h⟩:=ac h
  exact ar h1 (BR hC h)
 ·rename_i j want hg
  rw [hg]
  dsimp only
  split at h
  ·exact False.elim h
  ·rename_i d hd
   rw [hd]
   dsimp only
   refine au.mono dQ h (fun b S1 h=>?_)
   have key:∀ {S:St},bu (l8 pl all o S) (Gx C A pl o S K)→uC C pl all o S K:=by
    intro S h
    obtain ⟨h1,h⟩:=ac h
    exact ar h1 (BR hC h)
   unfold gsel at h ⊢
   split at h
   ·exact key h
   ·exact key h
   ·exact h
theorem D3 (hC:AI C) {ops:Array Oper} {i:Nat} {S:St} {K:St→Prop} (h:Ms C A pl ops i S K):Cf C pl ops i S K:=by
 unfold Ms at h
 unfold Cf
 split at h
 ·exact False.elim h
 ·rename_i o ho
  rw [ho]
  exact It hC h
theorem GE {S2 S1:St} {X:Prop} (h:S2=S1∧X):tM S2 S1 X:=by
 unfold tM
 split
 ·exact h.2
 ·exact h
theorem Ag (hC:AI C) {ops:Array Oper} {ws:List Nat}:∀ {n a:Nat} {listed:Array Bool} {t:PT} {S:St} {K:St→Prop},oV pl ops ws n a listed=some t→oT C A pl ops t none S K→l9 C pl ops ws n listed S K
 | 0,a,listed,t,S,K,hp,h=>by
  unfold oV at hp
  unfold l9
  split at hp
  ·cases hp
   rename_i hr
   rw [hr]
   exact h
  ·cases hp
 | n + 1,a,listed,t,S,K,hp,h=>by
  unfold oV at hp
  unfold l9
  split at hp
  ·cases hp
   rename_i hr
   rw [hr]
   exact h
  ·rename_i r rs hr
   rw [hr]
   dsimp only
   have step:∀ {k b:Nat} {u:PT} {S:St} {K:St→Prop},oV pl ops ws n b (listed.setIfInBounds k true)=some u→(Ms C A pl ops k S fun S'=>oT C A pl ops u none S' K)→Cf C pl ops k S fun S'=>l9 C pl ops ws n (listed.setIfInBounds k true) S' K :=
    fun hj h=>aA.mono (jO hC.det) (D3 hC h) (fun _ h=>Ag hC hj h)
   have alts:∀ {b:Nat} {is:List Nat} {u:PT} {S S1:St} {K:St→Prop} {X:Prop},yU (fun i=>oV pl ops ws n b (listed.setIfInBounds i true)) is=some u→oT C A pl ops u (some (S1,X)) S K →
     ED (fun i K'=>Cf C pl ops i S fun S'=>l9 C pl ops ws n (listed.setIfInBounds i true) S' K') is S1 X:=by
    intro b is
    induction is with
    | nil =>
     intro u S S1 K X hu h
     unfold yU at hu
     cases hu
     exact h
    | cons i is ih =>
     intro u S S1 K X hu h
     unfold yU at hu
     split at hu
     ·rename_i v hv
      split at hu
      ·rename_i w hw
       cases hu
       refine aA.mono (aA.bind (jO hC.det) (fun S'=>gR hC.det _ _ _)) (step hv h) (fun S2 h=>?_)
       exact GE ⟨h.1,ih hw h.2⟩
      ·cases hu
     ·cases hu
   split at hp
   ·rename_i k hk
    rw [hk]
    dsimp only
    split at hp
    ·cases hp
     rename_i u hj
     exact step hj h
    ·cases hp
   ·rename_i hk
    rw [hk]
    dsimp only
    split at hp
    ·split at hp
     ·cases hp
      rename_i u hj
      refine aA.mono (aA.bind (jO hC.det) (fun S'=>gR hC.det _ _ _)) (step hj h) (fun _ h=>?_)
      exact h
     ·cases hp
    ·split at hp
     ·rename_i b _ _
      unfold yU at hp
      split at hp
      ·rename_i v hv
       split at hp
       ·rename_i w hw
        cases hp
        refine aA.mono (aA.bind (jO hC.det) (fun S'=>gR hC.det _ _ _)) (step hv h) (fun S1 h=>?_)
        exact alts hw h
       ·cases hp
      ·cases hp
     ·cases hp
theorem GF (hC:AI C) {ops:Array Oper} {ws:List Nat}:∀ {n:Nat} {listed:Array Bool} {t:PT} {S:St} {K:St→Prop},DW pl ops ws n listed=some t→oT C A pl ops t none S K→xx C pl ops ws n listed S K
 | 0,listed,t,S,K,hp,h=>Ag hC (n:=0) hp h
 | n + 1,listed,t,S,K,hp,h=>by
  unfold DW at hp
  unfold xx
  split at hp
  ·rename_i i hi
   rw [hi]
   dsimp only
   split at hp
   ·cases hp
    rename_i u hj
    exact aA.mono (jO hC.det) (D3 hC h) (fun _ h=>GF hC hj h)
   ·cases hp
  ·rename_i hi
   rw [hi]
   exact Ag hC hp h
theorem GG (hC:AI C) {ops:Array Oper} {t:PT} {S:St} {K:St→Prop} (hp:Ab pl ops=some t) (h:oT C A pl ops t none S K):AP C pl ops S K:=by
 unfold Ab at hp
 unfold AP
 split at hp
 ·cases hp
 ·rename_i hn
  refine ar hn ?_
  split at hp
  ·rename_i hc
   rw [hc]
   exact Ag hC hp h
  ·rename_i hc
   rw [hc]
   exact GF hC hp h
theorem ve:∀ {x y:PT},CW x y=true→x=y
 | .done,.done,_=>rfl
 | .go i t,.go j u,h=>by
  unfold CW at h
  rw [Bool.and_eq_true] at h
  rw [Nat.eq_of_beq_eq_true h.1,ve h.2]
 | .alt i t r,.alt j u s,h=>by
  unfold CW at h
  rw [Bool.and_eq_true,Bool.and_eq_true] at h
  rw [Nat.eq_of_beq_eq_true h.1,ve h.2.1,ve h.2.2]
 | .done,.go _ _,h=>by cases h
 | .done,.alt _ _ _,h=>by cases h
 | .go _ _,.done,h=>by cases h
 | .go _ _,.alt _ _ _,h=>by cases h
 | .alt _ _ _,.done,h=>by cases h
 | .alt _ _ _,.go _ _,h=>by cases h
end
open Go.RowKit (Below)
def aV (P:Program) (c:Code) (S:St) (K:Ex→St→Prop):Prop :=
 ∃ e S',(∀ (r:Option Nat) (G:Gh) (E:Env) (a:Act) (w:World) (Q:Exit→Act→World→Prop),al G pn E S w→TR E S.t a→H7 G (fun e' S''=>e'=e∧S''=S') Q→c.wpIn (rd r) 0 P Q a w)∧K e S'
theorem aV.mono {P:Program} {c:Code} {S:St} {K K':Ex→St→Prop} (h:aV P c S K) (hk:∀ e S',K e S'→K' e S'):aV P c S K' :=
 let ⟨e,S',h1,h2⟩:=h
 ⟨e,S',h1,hk _ _ h2⟩
theorem GH (cfg:q7):AI (oQ cfg):=⟨oS cfg⟩
theorem BS {P:Program} {op:BinOp} {t e:TypeId} {rows:List (List AV)} {E:Env} {u:Value} (hop:MI op=true) (hu:P.underlying t=some (.slice e)) (hx:VR E (.sl rows) u) (w:World) (X Y:Operand) :
  ∃ b,(do eqGuard op t X Y u (.slice none 0 0); binOp op t u (.slice none 0 0):Sem Value).run P w=.ok (.bool b) w∧((b=DV op∧rows=[])∨b=!(DV op)):=by
 have h0:∃ b,(∀ d:Nat,(Op.equalIn (d + 1) t u (.slice none 0 0)).run P w=.ok b w)∧((b=true∧rows=[])∨b=false):=by
  cases hx with
  | sln=>exact ⟨true,fun d=>by unfold Op.equalIn; rw [Sem.run_bind,run_underlying hu]; rfl,.inl ⟨rfl,rfl⟩⟩
  | sle _ a cap=>exact ⟨false,fun d=>by unfold Op.equalIn; rw [Sem.run_bind,run_underlying hu]; rfl,.inr rfl⟩
  | sl us h1 h2 h3 h4 h5 h6 h7=>exact ⟨false,fun d=>by unfold Op.equalIn; rw [Sem.run_bind,run_underlying hu]; rfl,.inr rfl⟩
 obtain ⟨b,hb,hr⟩:=h0
 have hn:FX u=true:=by cases hx <;> rfl
 have he:(Op.equal t u (.slice none 0 0)).run P w=.ok b w:=sK hb
 rw [jl hn]
 cases op with
 | eql =>
  refine ⟨b,?_,hr⟩
  have:binOp .eql t u (.slice none 0 0)=(do pure (.bool (← Op.equal t u (.slice none 0 0)))):=by cases hx <;> rfl
  simp [this,he]
 | neq =>
  refine ⟨!b,?_,?_⟩
  ·have:binOp .neq t u (.slice none 0 0)=(do pure (.bool (!(← Op.equal t u (.slice none 0 0))))):=by cases hx <;> rfl
   simp [this,he]
  ·rcases hr with ⟨rfl,hr⟩ | rfl
   ·exact .inl ⟨rfl,hr⟩
   ·exact .inr rfl
 | _=>cases hop
section
variable {G:Gh} {C:Ctx} {A:eY} {pl:br}
theorem nq (hO:AI C) (hC:eu C) {rr:Option Nat} {all:Array Oper} {Q:Exit→Act→World→Prop}:∀ {ops:List Oper} {E:Env} {S:St} {w:World} {a:Act} {K:St→Prop},al G pn E S w→TR E S.t a→Aa C A pl all ops S K →
  (∀ S' E' a' w',K S'→al G pn E' S' w'→TR E' S'.t a'→Q .normal a' w')→wpListIn (rd rr) 0 C.P all Q ops a w
 | [],E,S,w,a,K,hM,ht,h,hQ=>hQ _ _ _ _ h hM ht
 | o::rest,E,S,w,a,K,hM,ht,h,hQ=>by
  have step:∀ {S1:St},al G pn E S1 w→TR E S1.t a→Region.wanted o (yielded all a.tmps)=true→(MH C A pl o S1 fun S'=>Aa C A pl all rest S' K)→wpListIn (rd rr) 0 C.P all Q (o::rest) a w:=by
   intro S1 hM1 ht1 hw h
   unfold wpListIn
   rw [if_pos hw]
   refine DJ (F9 (D2 hO h)) (yC hC hM1 ht1 (D2 hO h) _ _ (fun S' E' a' w' hk hS htr=>?_))
   exact nq hO hC hS htr hk hQ
  unfold Aa at h
  split at h
  ·rename_i hg
   have hw:Region.wanted o (yielded all a.tmps)=true:=by unfold Region.wanted; rw [hg]
   split at h
   ·unfold wpListIn
    rw [if_pos hw]
    unfold JN at h
    split at h
    ·rename_i op t x yt ho
     split at h
     ·rename_i e hu
      obtain ⟨c,h,hc⟩:=ez h ht
      split at h
      ·rename_i rows
       obtain ⟨hop,h1,h2⟩:=ac h
       obtain ⟨b,hrun,hbr⟩:=BS hop hu hc w x (.const (.slice none 0 0))
       have hex:(execOp a.eval o).run C.P w=.ok (.value (.bool b)) w:=by
        have:(execOp a.eval o)=(do pure (.value (← (do eqGuard op t x (.const (.slice none 0 0)) (a.eval x) (.slice none 0 0); binOp op t (a.eval x) (.slice none 0 0):Sem Value)))):=by
         unfold execOp
         rw [ho]
         simp [Act.eval]
        rw [this,Sem.run_bind,hrun]
        rfl
       refine DJ (fun c hc=>by rw [ho] at hc; cases hc) (ed hex ?_)
       have h3:bC o.dst (.v (.bool b)) S fun S'=>Aa C A pl all rest S' K:=by
        rcases hbr with ⟨rfl,hr⟩ | rfl
        ·exact h1 hr
        ·exact h2
       rw [aJ] at h3
       exact nq hO hC (hM.congr cO cP cT) (ht.put (.v _ _ rfl)) h3 hQ
      ·exact False.elim h
     ·exact False.elim h
    ·exact False.elim h
   ·exact step hM ht hw h
  ·rename_i j want hg
   split at h
   ·exact False.elim h
   ·rename_i d hd
    obtain ⟨b,S1,h,hb,hM1,ht1⟩:=nd hM ht h
    rcases ov hg (qF hd hb) h with ⟨hw,h⟩ | ⟨hw,h⟩
    ·exact step hM1 ht1 hw h
    ·rw [aJ] at h
     unfold wpListIn
     rw [if_neg (by rw [hw]; exact fun h=>by cases h)]
     exact ⟨fun _ _=>trivial,nq hO hC (hM1.congr cO cP cT) (ht1.put (v1 _)) h hQ⟩
end
theorem BU {A:xN} {id:Nat} {S:St} {K:St→Prop} (h:E8 A id S K):∃ S',eO S S'∧K S':=by
 unfold E8 at h
 split at h
 ·exact vd h
 ·exact ⟨S,.refl S,h⟩
theorem ul {cfg:q7} (hmix:cfg.P.follows .mixedOrders=true) {A:xN} {pl:br}:∀ (c:Code) {S:St} {K:Ex→St→Prop},ay pl A.ord c=true→uh (oQ cfg) (aV cfg.P) A pl c S K →
  ∀ (r:Option Nat) (G:Gh) (E:Env) (a:Act) (w:World) (Q:Exit→Act→World→Prop),al G pn E S w→TR E S.t a→H7 G K Q→c.wpIn (rd r) 0 cfg.P Q a w:=by
 have hC:=GH cfg
 intro c
 induction c with
 | skip=>exact fun _ h r G E a w Q hM ht hQ=>wpIn_skip (hQ .nrm _ E _ _ h hM ht)
 | region id ops draw =>
  intro S K hB h r G E a w Q hM ht hQ
  cases draw with
  | false =>
   refine wpIn_region_list (nq hC (mN cfg) hM ht h (fun S' E' a' w' hk hS htr=>?_))
   obtain ⟨S3,E3,hk,hS,htr⟩:=ot hS htr (wN hk)
   obtain ⟨S2,hw,hk⟩:=BU hk
   obtain ⟨E2,hM2,ht2⟩:=hw G E3 a' w' hS htr
   exact hQ .nrm _ _ _ _ hk hM2 ht2
  | true =>
   refine pF hmix pl id ops S (fun e S'=>e=.nrm∧E8 A id S' (K .nrm)) ?_ r G E a w Q hM ht (fun e S' E' a' w' hk hS htr=>?_)
   ·unfold ay at hB
    have h':(match q8 A.ord id with
    | some is=>bu (yi pl ops) (AQ (oQ cfg).P (cN ops.toList) S fun S1=>oT (oQ cfg) (E7 A id) pl ops is none S1 fun S'=>mF (cN ops.toList) S' (wF (E7 A id) pl id S' fun S''=>E8 A id S'' (K .nrm)))
    | none=>ai 440):=h
    split at hB
    ·rename_i is js h1 h2
     rw [h1] at h'
     dsimp only at h'
     obtain ⟨h3,h'⟩:=ac h'
     refine ar h3 ?_
     refine aA.mono Bp h' (fun S1 h=>?_)
     rw [ve hB] at h
     refine aA.mono (Bs hC.det) (GG hC h2 h) (fun S' h=>?_)
     obtain ⟨h4,h5⟩:=pE h
     exact h5 _ (aA.mono sX (wN h4) (fun S'' h=>⟨rfl,h⟩))
    ·cases hB
   ·obtain ⟨rfl,hk⟩:=hk
    obtain ⟨S2,hw,hk⟩:=BU hk
    obtain ⟨E2,hM2,ht2⟩:=hw G E' a' w' hS htr
    exact hQ .nrm _ _ _ _ hk hM2 ht2
 | seq x y ihx ihy =>
  intro S K hB h r G E a w Q hM ht hQ
  unfold ay at hB
  rw [Bool.and_eq_true] at hB
  refine wpIn_seq (ihx hB.1 h r G E a w _ hM ht (fun e S' E' a' w' hk hS htr=>?_))
  cases e with
  | nrm =>
   dsimp only at hk
   split at hk
   ·obtain ⟨S2,h1,⟨e2,S3,h2,h3,h4⟩,h5⟩:=vd hk
    subst h3 h4
    obtain ⟨E2,hM2,ht2⟩:=((Ad _ _).trans h1) G E' a' w' hS htr
    refine h2 r G E2 a' w' Q hM2 ht2 (fun e' S'' E'' a'' w'' he hS' ht'=>?_)
    obtain ⟨rfl,rfl⟩:=he
    exact hQ _ _ _ _ _ h5 hS' ht'
   ·exact ihy hB.2 hk r G E' a' w' Q hS htr hQ
  | ex i=>exact hQ (.ex i) _ _ _ _ hk hS htr
  | ret=>exact hQ .ret _ _ _ _ hk hS htr
 | cond c x y ihx ihy =>
  intro S K hB h r G E a w Q hM ht hQ
  unfold ay at hB
  rw [Bool.and_eq_true] at hB
  obtain ⟨b,S1,h1,h2,h3,h4⟩:=tZ hM ht h
  cases b with
  | true=>exact wpIn_cond_true h2 (ihx hB.1 h1 r G E a w Q h3 h4 hQ)
  | false=>exact wpIn_cond_false h2 (ihy hB.2 h1 r G E a w Q h3 h4 hQ)
 | block id c ih =>
  intro S K hB h r G E a w Q hM ht hQ
  refine wpIn_block (ih hB h r G E a w _ hM ht (fun e S' E' a' w' hk hS htr=>?_))
  cases e with
  | nrm=>exact hQ .nrm _ _ _ _ hk hS htr
  | ret=>exact hQ .ret _ _ _ _ hk hS htr
  | ex i =>
   show Exit.inBlock id Q (.exit i) a' w'
   unfold Exit.inBlock
   dsimp only at hk
   split at hk
   ·rename_i hb
    have:=Nat.eq_of_beq_eq_true hb
    subst this
    simp only [if_pos]
    exact hQ .nrm _ _ _ _ hk hS htr
   ·rename_i hb
    have hne:¬ i=id:=fun e=>by subst e; simp at hb
    simp only [if_neg hne]
    exact hQ (.ex i) _ _ _ _ hk hS htr
 | loop c ih =>
  intro S K hB h r G E a w Q hM ht hQ
  have h':(match q8 A.lps (wG c) with
  | some (W,L,e,S1)=>Mr L (wk W S) fun S2=>((oQ cfg).loop pl c S2 fun e' S'=>e'=e∧S'=S1)∧K e S1
  | none=>(oQ cfg).loop pl c S K):=h
  split at h'
  ·obtain ⟨S2,h1,h2,h3⟩:=vd h'
   obtain ⟨E2,hM2,ht2⟩:=((Ad _ _).trans h1) G E a w hM ht
   refine mO cfg pl c S2 _ h2 r G E2 a w Q hM2 ht2 (fun e' S'' E'' a'' w'' he hS' ht'=>?_)
   obtain ⟨rfl,rfl⟩:=he
   exact hQ _ _ _ _ _ h3 hS' ht'
  ·exact mO cfg pl c S K h' r G E a w Q hM ht hQ
 | exit id=>exact fun _ h r G E a w Q hM ht hQ=>wpIn_exit (hQ (.ex id) _ E _ _ h hM ht)
 | ret=>exact fun _ h r G E a w Q hM ht hQ=>wpIn_ret (hQ .ret _ E _ _ h hM ht)
 | _=>exact fun _ h=>False.elim h
theorem aV.of {cfg:q7} (hmix:cfg.P.follows .mixedOrders=true) {pl:br} {c:Code} {S S1:St} {e:Ex} {K:Ex→St→Prop} {A:xN} {we:List (Nat×(Wk×Le))} (hB:ay pl A.ord c=true)
  (h:wI (oQ cfg) (aV cfg.P) A pl we c S (fun e' S'=>e'=e∧S'=S1)) (hk:K e S1):aV cfg.P c S K:=by
 refine ⟨e,S1,fun r G E a w Q hM ht hQ=>?_,hk⟩
 refine ul hmix c hB h r G E a w Q hM ht (fun e' S' E' a' w' hk hS htr=>?_)
 dsimp only at hk
 split at hk
 ·obtain ⟨S2,h1,rfl,rfl⟩:=vd hk
  obtain ⟨E2,hM2,ht2⟩:=((Ad _ _).trans h1) G E' a' w' hS htr
  exact hQ _ _ _ _ _ ⟨rfl,rfl⟩ hM2 ht2
 ·obtain ⟨rfl,rfl⟩:=hk
  exact hQ _ _ _ _ _ ⟨rfl,rfl⟩ hS htr
theorem cy.round {cfg:q7} {pl:br} {c:Code} {S:St} {K:Ex→St→Prop}
  (h:aV cfg.P c S fun e S'=>match e with
   | .nrm=>cy cfg.P pl c S' K
   | .ex i=>K (.ex i) S'
   | .ret=>K .ret S'):cy cfg.P pl c S K:=by
 obtain ⟨e1,S1,h2,h1⟩:=h
 have run:∀ (e:Ex) (S3:St) (n:Nat),(∀ (r:Option Nat) (G:Gh) (E:Env) (a:Act) (w:World) (Q:Exit→Act→World→Prop),al G pn E S1 w→TR E S1.t a→H7 G (fun e' S''=>e'=e∧S''=S3) Q→Exit.then (Code.roundsIn (rd r) 0 cfg.P c Q n) Q (Kn e1) a w) →
   ∀ (r:Option Nat) (G:Gh) (E:Env) (a:Act) (w:World) (Q:Exit→Act→World→Prop),al G pn E S w→TR E S.t a→H7 G (fun e' S''=>e'=e∧S''=S3) Q→Code.roundsIn (rd r) 0 cfg.P c Q (n + 1) a w:=by
  intro e S3 n hn r G E a w Q hM ht hQ
  refine h2 r G E a w _ hM ht (fun e' S' E' a' w' hk hS htr=>?_)
  obtain ⟨rfl,rfl⟩:=hk
  exact hn r G E' a' w' Q hS htr hQ
 cases e1 with
 | nrm =>
  obtain ⟨n,e,S',hl,hk⟩:=h1
  exact ⟨n + 1,e,S',run e S' n (fun r G E a w Q hM ht hQ=>hl r G E a w Q hM ht hQ),hk⟩
 | ex i=>exact ⟨1,.ex i,S1,run _ _ 0 (fun r G E a w Q hM ht hQ=>hQ _ _ _ _ _ ⟨rfl,rfl⟩ hM ht),h1⟩
 | ret=>exact ⟨1,.ret,S1,run _ _ 0 (fun r G E a w Q hM ht hQ=>hQ _ _ _ _ _ ⟨rfl,rfl⟩ hM ht),h1⟩
def rk {σ τ:Type} (Sf:σ→St) (out:τ→Ex×St) (r:σ⊕τ) (e:Ex) (S':St):Prop :=
 match r with
 | .inl s'=>e=.nrm∧S'=Sf s'
 | .inr t=>e≠.nrm∧e=(out t).1∧S'=(out t).2
theorem dx {σ τ:Type} {Sf:σ→St} {out:τ→Ex×St} {s:σ}:rk Sf out (.inl s) .nrm (Sf s):=⟨rfl,rfl⟩
theorem cG {σ τ:Type} {Sf:σ→St} {out:τ→Ex×St} {t:τ} {e:Ex} {S:St} (h:out t=(e,S)) (hne:e≠.nrm):rk Sf out (.inr t) e S:=by
 show e≠.nrm∧e=(out t).1∧S=(out t).2
 rw [h]
 exact ⟨hne,rfl,rfl⟩
def pk {τ:Type} (out:τ→Ex×St) (t:τ) (e:Ex) (S':St):Prop:=e=(out t).1∧S'=(out t).2
theorem ko {τ:Type} {out:τ→Ex×St} {t:τ} {e:Ex} {S:St} (h:out t=(e,S)):pk out t e S:=by
 show e=(out t).1∧S=(out t).2
 rw [h]
 exact ⟨rfl,rfl⟩
theorem cy.iter {cfg:q7} {pl:br} {c:Code} {σ τ:Type} {step:σ→Option (σ⊕τ)} (Sf:σ→St) (out:τ→Ex×St)
  (hs:∀ s r,step s=some r→aV cfg.P c (Sf s) (rk Sf out r)):∀ (n:Nat) (s:σ) (t:τ),A.iter step n s=some t→cy cfg.P pl c (Sf s) fun e S'=>e=(out t).1∧S'=(out t).2
 | 0,s,t,h=>by cases h
 | n + 1,s,t,h=>by
  unfold A.iter at h
  split at h
  ·cases h
  ·rename_i s' hs'
   refine cy.round ((hs s _ hs').mono fun e S' h1=>?_)
   obtain ⟨rfl,rfl⟩:=h1
   exact cy.iter Sf out hs n s' t h
  ·rename_i t' ht'
   cases h
   refine cy.round ((hs s _ ht').mono fun e S' h1=>?_)
   obtain ⟨h0,h1,h2⟩:=h1
   cases e with
   | nrm=>exact absurd rfl h0
   | ex i=>exact ⟨h1,h2⟩
   | ret=>exact ⟨h1,h2⟩
theorem ax.le {P:Program} {f:Nat} {as as':List AV} {K:AV→Prop} (h:ax P f as' K) (hl:aT as as'):ax P f as K:=by
 obtain ⟨r,⟨h1,h2⟩,h3⟩:=h
 exact ⟨r,⟨h1,fun F w us hF hg hv=>h2 F w us hF hg (hl.vrs hv)⟩,h3⟩
theorem ax.to {P:Program} {f:Nat} {as:List AV} {r:AV} (h:ax P f as fun x=>aG x r):ax P f as fun x=>x=r:=by
 obtain ⟨x,⟨h1,h2⟩,h3⟩:=h
 refine ⟨r,⟨h1,fun F w us hF hg hv=>(h2 F w us hF hg hv).mono ?_⟩,rfl⟩
 rintro e w' ⟨v,F',h4,h5,h6⟩
 exact ⟨v,F',h4,h3 _ _ h5,h6⟩
theorem un {cfg:q7} (hN:lQ cfg.P) (hmix:cfg.P.follows .mixedOrders=true) {A:xN} {f:Nat} {args:List AV} {o:List Ob} {K:AV→St→Prop} (hB:ay (cfg.pol f) A.ord (aj cfg.P f)=true) (h:DX (oQ cfg) (aV cfg.P) A f args o K) :
  rh cfg.P f∧∀ (G:Gh) (E:Env) (w:World) (us:Array Value),al G pn E (H6 o o.length) w→Cg E→bT E args us.toList→Calls cfg.P f us w fun e w'=>∃ v r S' E',K r S'∧e=.returned v∧al G pn E' S' w'∧VR E' r v:=by
 unfold DX at h
 split at h
 ·rename_i fn hf
  split at h
  ·rename_i c hb
   have hb0:cfg.P.funcs[f]?=some fn:=hf
   refine ⟨⟨fn,c,hb0,hb,hN f fn hb0⟩,fun G E w us hM hg hv=>?_⟩
   refine v0.1 (callsIn_of_wp (F:=rd none) (n:=0) hb0 hb trivial ?_)
   have hl:args.length=us.size:=by simpa using hv.1
   unfold aj at hB
   rw [hb0] at hB
   dsimp only at hB
   rw [hb] at hB
   refine ul hmix c hB h none G E _ w _ (hM.congr rfl rfl rfl) ⟨?_,fun n c' u h1 h2=>?_,rfl,hg⟩ (fun e S' E' a' w' hk hS htr=>?_)
   ·simp [v3,hl]
   ·dsimp only at h1 h2
    by_cases hn:n<args.length
    ·rw [List.getElem?_append_left hn] at h1
     rw [Array.getElem?_append_left (by omega)] at h2
     exact hv.2 n c' u h1 (by simpa using h2)
    ·rw [List.getElem?_append_right (by omega)] at h1
     rw [v2 h1]
     exact .bad _ _
   ·cases e with
    | ex i=>exact False.elim hk
    | nrm =>
     obtain ⟨r,u,hk',hr,hrun⟩:=jN hS htr hk
     exact ⟨htr.df,u,hrun,u,r,S',E',hk',rfl,hS,hr⟩
    | ret =>
     obtain ⟨r,u,hk',hr,hrun⟩:=jN hS htr hk
     exact ⟨htr.df,u,hrun,u,r,S',E',hk',rfl,hS,hr⟩
  ·exact False.elim h
 ·exact False.elim h
theorem ax.ofO {cfg:q7} (hN:lQ cfg.P) (hmix:cfg.P.follows .mixedOrders=true) {A:xN} {f:Nat} {args:List AV} {r:AV} (hB:ay (cfg.pol f) A.ord (aj cfg.P f)=true) (h:DY (oQ cfg) (aV cfg.P) A f args (fun x=>aG x r)):ax cfg.P f args (fun x=>x=r):=by
 obtain ⟨h1,h2⟩:=un hN hmix hB h
 refine ⟨r,⟨h1,fun F w us hF hg hv=>?_⟩,rfl⟩
 have hM:al { w0:=w,M:=fun _=>False,F:=F,mu:=fun _=>none } pn ⟨F,fun _=>none,w.heap⟩ (H6 [] 0) w :=
  ⟨rfl,rfl,rfl,rfl,Nat.le_refl _,fun _ _ _=>rfl,fun _ h=>h,hF,fun _ h _=>.inl h,fun _ _ _ _ _ h=>(by cases h),fun _ _ _ _ _ _ _ _ _ h _=>(by cases h),fun _=>rfl,fun _=>trivial,fun _ h=>(by cases h),Nat.le_refl _,fun _ _=>rfl,fun _ _ h=>(by cases h),fun _ _=>rfl⟩
 refine (h2 _ _ w us hM hg hv).mono ?_
 rintro e w' ⟨v,c,S',E',hk,rfl,hS,hr⟩
 unfold zo at hk
 split at hk
 ·rename_i b hb
  rw [ci] at hk
  have hd:=ij hS _ hb hr (ids:=dH S'.o 6 c) (fun i hi=>hi)
  refine ⟨v,FD E' (dH S'.o 6 c),rfl,?_,⟨hS.os,hS.tape,hS.output,hS.size,fun b' hb'=>hS.keep b' hb' (fun h=>h)⟩,fun b' h=>.inl (hS.F0 b' h),FY hS,fun b' h hlt=>?_⟩
  ·have e:(⟨FD E' (dH S'.o 6 c),fun _=>none,w'.heap⟩:Env)=E'.fd (dH S'.o 6 c):=by
    unfold Env.fd
    rw [hS.hp]
   rw [e]
   exact hk _ _ hd
  ·rcases h with h | ⟨id,_,o',s,n,h⟩
   ·rcases hS.Fnew b' h hlt with h3 | h3
    ·exact h3
    ·exact h3.elim
   ·rcases (hS.own _ _ _ _ _ h).2.2 with h3 | h3
    ·exact h3.elim
    ·have h3:w.heap.size≤b':=h3
     omega
 ·exact False.elim hk
theorem SD.ofO {cfg:q7} (hN:lQ cfg.P) (hmix:cfg.P.follows .mixedOrders=true) {A:xN} {f:Nat} {args:List AV} {o o1:List Ob} {r1:AV} {K:AV→List Ob→Prop} (hB:ay (cfg.pol f) A.ord (aj cfg.P f)=true) (h:C0 (oQ cfg) (aV cfg.P) A f args o (fun r o'=>r=r1∧o'=o1)) (hk:K r1 o1):SD cfg.P f args o K:=by
 obtain ⟨h1,h2⟩:=un hN hmix hB h
 refine ⟨r1,o1,⟨h1,fun E w us hM hg hv=>(h2 _ E w us hM hg hv).mono ?_⟩,hk⟩
 rintro e w' ⟨v,r,S',E',hk,rfl,hS,hr⟩
 obtain ⟨hb,rfl,rfl⟩:=ac hk
 simp only [Bool.and_eq_true] at hb
 have:=hS.obj_only
 rw [Nat.eq_of_beq_eq_true hb.2] at this
 exact ⟨v,r,S'.o,E'.ob,⟨rfl,rfl⟩,rfl,this,kZ 4 hb.1 hr⟩
def aH (k:IntKind) (x:Int):AV:=.v (.int k x)
def JO (x:Bool):AV:=.v (.bool x)
def RQ (x:ByteArray):AV:=.v (.string x)
def dm {α:Type} (f:α→List AV) (l:List α):AV:=.sl (l.map f)
def bD {α:Type} (f:α→List AV) (x:α):AV:=.agg (f x)
def mh (k:IntKind) (x:Int):List AV:=[.v (.int k x)]
def eo (x:Bool):List AV:=[.v (.bool x)]
def RR (x:ByteArray):List AV:=[.v (.string x)]
def cY {α:Type} (f:α→List AV) (l:List α):List AV:=[.sl (l.map f)]
def cH {α β:Type} (f:α→AV) (g:β→AV) (e:α×β):AV×AV:=(f e.1,g e.2)
def BV {α:Type} (f:α→List AV):Option α→AV
 | none=>.nilp
 | some x=>.fptr (f x) 0
def RS {α:Type} (f:α→List AV) (x:Option α):List AV:=[BV f x]
theorem xu {k:IntKind} {a b:Int} (h:(a==b)=true):AV.v (.int k a)=AV.v (.int k b):=by rw [eq_of_beq h]
theorem kp {i:Nat}:Ex.ex i≠Ex.nrm:=fun h=>by cases h
theorem gC:Ex.ret≠Ex.nrm:=fun h=>by cases h
theorem rL {α:Type} (f:α→List AV) (l:List α):AV.v (.int .i64 (((l.map f).length:Nat):Int))=AV.v (.int .i64 (l.length:Int)):=by rw [List.length_map]
theorem mi {α:Type} (f:α→List AV) {l:List α} {i:Int} {x:α} (h:av l i=some x):Ch (l.map f) i=some (f x):=by
 unfold av at h
 unfold Ch
 split
 ·rename_i h0
  rw [if_pos h0] at h
  rw [List.getElem?_map,h]
  rfl
 ·rename_i h0
  rw [if_neg h0] at h
  cases h
theorem pJ {α:Type} (f:α→List AV) {l:List α} {i:Int} {x:α} (h:av l i=some x):(l.map f)[i.toNat]?=some (f x):=by
 unfold av at h
 split at h
 ·rw [List.getElem?_map,h]
  rfl
 ·cases h
theorem BW {α:Type} (f:α→List AV) (l:List α) {sz:Nat} (hf:∀ x,Nat.beq (f x).length sz=true):cA sz (l.map f)=true:=by
 cases l with
 | nil=>rfl
 | cons x l=>exact hf x
theorem C5 {α:Type} (f:α→List AV) (l:List α) (hf:∀ x,(f x).all l6=true):aR (l.map f)=true:=by
 unfold aR
 rw [List.all_eq_true]
 intro r hr
 obtain ⟨x,_,rfl⟩:=List.mem_map.1 hr
 exact hf x
theorem lV {α:Type} (f:α→List AV) (l m:List α):l.map f++m.map f=(l++m).map f:=List.map_append.symm
theorem fO {α:Type} (f:α→List AV) (l:List α) (i:Nat) (x:α):(l.map f).set i (f x)=(l.set i x).map f:=(List.map_set).symm
theorem lW {α:Type} (f:α→List AV) (n:Nat) (x:α):List.replicate n (f x)=(List.replicate n x).map f:=List.map_replicate.symm
theorem Iu {α:Type} (f:α→List AV) (l:List α) (i off a b:Nat):AV.msl i off (a + (l.map f).length) (b - (l.map f).length)=AV.msl i off (a + l.length) (b - l.length):=by rw [List.length_map]
theorem D4 {α:Type} (f:α→List AV) (l:List α) (i off a b:Nat):AV.msl i off a ((l.map f).length - b)=AV.msl i off a (l.length - b):=by rw [List.length_map]
theorem BX {α:Type} (f:α→List AV) (l:List α) (i off a b:Nat):AV.msl i off ((l.map f).length - a) b=AV.msl i off (l.length - a) b:=by rw [List.length_map]
theorem Iv {α:Type} (f:α→List AV) (l m:List α) (a:Nat):(l.map f).take a++(m.map f++(l.map f).drop (a + (m.map f).length))=(l.take a++(m++l.drop (a + m.length))).map f:=by
 rw [List.length_map,List.map_append,List.map_append,List.map_take,List.map_drop]
theorem Fh {α:Type} {f:α→List AV} {l:List α} {k:Nat} (h:Nat.ble l.length k=true):Nat.ble (l.map f).length k=true:=by rw [List.length_map]; exact h
theorem Fi {α:Type} {f:α→List AV} {l:List α} {k:Nat} (h:Nat.ble k l.length=true):Nat.ble k (l.map f).length=true:=by rw [List.length_map]; exact h
theorem JP {α:Type} (f:α→List AV) (l:List α) (a b:Nat):AV.sl (((l.map f).drop a).take b)=AV.sl (((l.drop a).take b).map f):=by rw [List.map_take,List.map_drop]
theorem KB {α:Type} (f:α→List AV) (l:List α) (a b:Nat):aG (.sl (((l.map f).drop a).take b)) (.sl (((l.drop a).take b).map f)):=by rw [JP]; exact aG.refl _
theorem Ah {α:Type} {f:α→List AV} {l:List α} {h:Int} (e:(decide (0≤h)&&decide (h≤(l.length:Int)))=true):(decide (0≤h)&&decide (h≤(((l.map f).length:Nat):Int)))=true:=by rw [List.length_map]; exact e
theorem GI {α:Type} {f:α→List AV} {l:List α} {a h:Int} (e:(decide (0≤a)&&decide (a≤h)&&decide (h≤(l.length:Int)))=true):(decide (0≤a)&&decide (a≤h)&&decide (h≤(((l.map f).length:Nat):Int)))=true:=by rw [List.length_map]; exact e
theorem Iw {α:Type} (f:α→List AV) {l:List α} (h:l.map f=[]):aG .nilsl (.sl (l.map f)):=by rw [h]; exact aG.nil
theorem KC {α:Type} (f:α→List AV) (n:Nat) {z:List AV} {x:α} (h:aT z (f x)):eS (List.replicate n z) ((List.replicate n x).map f):=by
 rw [List.map_replicate]
 refine ⟨by simp,fun i a b h1 h2=>?_⟩
 rw [List.getElem?_replicate] at h1 h2
 split at h1
 ·cases h1
  rename_i hi
  rw [if_pos hi] at h2
  cases h2
  exact h
 ·cases h1
theorem Ix (n i off a b:Nat) (z:List AV):AV.msl i off a ((List.replicate n z).length - b)=AV.msl i off a (n - b):=by rw [List.length_replicate]
theorem lX {α:Type} {f:α→List AV} {l:List α} {k m:Nat} (h:Nat.ble (l.length * k) m=true):Nat.ble ((l.map f).length * k) m=true:=by rw [List.length_map]; exact h
theorem jp {α:Type} {f:α→List AV} {l:List α} {k m n:Nat} (h:Nat.ble ((l.length + n) * k) m=true):Nat.ble (((l.map f).length + n) * k) m=true:=by rw [List.length_map]; exact h
theorem Fj {α:Type} {f:α→List AV} {l l':List α} {k m:Nat} (h:Nat.ble ((l.length + l'.length) * k) m=true):Nat.ble (((l.map f).length + (l'.map f).length) * k) m=true:=by rw [List.length_map,List.length_map]; exact h
def mP {α:Type} (f:α→List AV) (c:Option (List α)):Option (List (List AV)):=c.map fun l=>l.map f
section
variable {α:Type} (f:α→List AV)
theorem KD {cs:List (Option (List α))} {i:Nat} {x:Option (List α)} {r:List α} (h:cs[i]?=some x) (h1:x=some r):(cs.map (mP f))[i]?=some (some (r.map f)):=by
 rw [List.getElem?_map,h,h1]
 rfl
theorem KF {cs:List (Option (List α))} {i:Nat} {x:Option (List α)} (h:cs[i]?=some x) (h1:x=none):(cs.map (mP f))[i]?=some none:=by
 rw [List.getElem?_map,h,h1]
 rfl
theorem JQ {cs:List (Option (List α))} {i:Nat} {x:Option (List α)} (h:cs[i]?=some x):Nat.blt i (cs.map (mP f)).length=true:=by
 have:i<cs.length:=(List.getElem?_eq_some_iff.1 h).1
 rw [List.length_map]
 exact Nat.blt_eq.mpr this
theorem xU (i:Nat):Nat.beq i i=true:=Nat.beq_refl i
theorem GJ (cs:List (Option (List α))) (i:Nat) (r:List α):(cs.map (mP f)).set i (some (r.map f))=(cs.set i (some r)).map (mP f):=by
 rw [List.map_set]
 rfl
theorem KG (cs:List (Option (List α))) (r:List α):(cs.map (mP f)++[none]).set (cs.map (mP f)).length (some (r.map f))=(cs++[some r]).map (mP f):=by
 rw [List.set_append_right _ _ (Nat.le_refl _),Nat.sub_self,List.map_append]
 rfl
theorem KH (cs:List (Option (List α))):Nat.blt (cs.map (mP f)).length (cs.map (mP f)++[none]).length=true:=by
 rw [List.length_append]
 exact Nat.blt_eq.mpr (Nat.lt_succ_self _)
theorem MJ {κ:Type} (kf:κ→AV):∀ (ks:List κ) (cs:List (Option (List α))),nP cs=true→lK (ks.map kf) (cs.map (mP f))=(AJ ks cs).map (cH kf (dm f))
 | [],_,_=>by cases ‹List (Option (List α))› <;> rfl
 | _::_,[],_=>rfl
 | k::ks,c::cs,h=>by
  unfold nP at h
  rw [Bool.and_eq_true] at h
  obtain ⟨r,rfl⟩:=Option.isSome_iff_exists.1 h.1
  show (kf k,AV.sl (r.map f))::lK (ks.map kf) (cs.map (mP f))=_
  rw [MJ kf ks cs h.2]
  rfl
end
theorem nr {α:Type} {P:Program} (c:Prop) [Decidable c] (x y:Sem α):aC P (if c then x else y)=if c then aC P x else aC P y:=by
 split <;> rfl
def KI (f:Nat→Option Bool):List Nat→Option Bool
 | []=>some true
 | i::is=>match f i with
  | some e=>match KI f is with
   | some s=>some (e&&s)
   | none=>none
  | none=>none
def Fl (P:Program):Nat→TypeId→Value→Value→Option Bool
 | 0,_,_,_=>none
 | n + 1,t,x,y =>
  match P.underlying t,x,y with
  | some .bool,.bool a,.bool b=>some (a==b)
  | some (.int _),.int k a,.int k' b=>if k=k' then some (a==b) else none
  | some .string,.string a,.string b=>some (a.toList==b.toList)
  | some (.struct fs),.agg xs,.agg ys=>match P.stoodInHeld t with
   | true=>none
   | false => fs.toList.foldr (fun f (r : Option Bool × Bool) => match f.name == "_", aC P (part f.type xs f.offset), aC P (part f.type ys f.offset) with
     | false,some a,some b=>match Fl P n f.type a b,r with
      | some e,(_,false)=>(some e,true)
      | some e,(some s,true)=>(some (e&&s),true)
      | _,_=>(none,true)
     | _,_,_=>(none,true)) (some true,false) |>.1
  | some (.array len e),.agg xs,.agg ys=>match aC P (sizeOf e) with
   | some m=>KI (fun i=>match aC P (part e xs (i * m)),aC P (part e ys (i * m)) with
    | some a,some b=>Fl P n e a b
    | _,_=>none) (List.range' 0 len)
   | none=>none
  | _,_,_=>none
theorem fK {P:Program} {t:TypeId} {d:TypeDesc} (h:P.underlying t=some d):aC P (underlying t)=some d:=by
 unfold underlying
 simp [a5,program,aC,h]
 rfl
theorem Fo {P:Program} {t:TypeId} {fs:Array Field} {xs ys:Array Value} {d:Nat} (ht:P.underlying t=some (.struct fs)) (hp:P.stoodInHeld t=false) :
  aC P (Op.equalIn (d + 1) t (.agg xs) (.agg ys))=aC P (Op.eqFields d xs ys fs.toList):=by
 simp only [Op.equalIn,a5,fK ht,Option.bind_some]
 have hprog:aC P program=some P:=rfl
 simp only [a5,hprog,Option.bind_some,hp,Bool.false_eq_true,if_false]
 rw [← Array.forIn_toList]
 generalize fs.toList=l
 clear ht
 induction l with
 | nil=>rfl
 | cons f l ih =>
  simp only [List.forIn_cons,Op.eqFields,a5,nr]
  split
  ·try simp only [a5]
   generalize aC P (part f.type xs f.offset)=r1
   cases r1 with
   | none=>rfl
   | some a =>
    simp only [Option.bind_some]
    generalize aC P (part f.type ys f.offset)=r2
    cases r2 with
    | none=>rfl
    | some b =>
     simp only [Option.bind_some]
     generalize aC P (Op.equalIn d f.type a b)=r3
     cases r3 with
     | none=>rfl
     | some r =>
      cases r
      ·rfl
      ·simp only [Option.bind_some]
       exact ih
  ·exact ih
def vg (d:Nat) (e:TypeId) (m:Nat) (xs ys:Array Value):List Nat→Sem Bool
 | []=>pure true
 | i::is=>do
  if !(← Op.equalIn d e (← part e xs (i * m)) (← part e ys (i * m))) then return false
  vg d e m xs ys is
theorem GK {P:Program} {t e:TypeId} {len m:Nat} {xs ys:Array Value} {d:Nat} (ht:P.underlying t=some (.array len e)) (hm:aC P (sizeOf e)=some m) :
  aC P (Op.equalIn (d + 1) t (.agg xs) (.agg ys))=aC P (vg d e m xs ys (List.range' 0 len)):=by
 simp only [Op.equalIn,a5,fK ht,Option.bind_some,hm]
 simp only [Std.Legacy.Range.forIn_eq_forIn_range',Std.Legacy.Range.size,Nat.sub_zero,Nat.add_one_sub_one,Nat.div_one]
 generalize List.range' 0 len=l
 clear ht
 induction l with
 | nil=>rfl
 | cons i l ih =>
  simp only [List.forIn_cons,vg,a5,nr]
  generalize aC P (part e xs (i * m))=r1
  cases r1 with
  | none=>rfl
  | some a =>
   simp only [Option.bind_some]
   generalize aC P (part e ys (i * m))=r2
   cases r2 with
   | none=>rfl
   | some b =>
    simp only [Option.bind_some]
    generalize aC P (Op.equalIn d e a b)=r3
    cases r3 with
    | none=>rfl
    | some r =>
     cases r
     ·rfl
     ·simp only [Option.bind_some]
      exact ih
theorem pK {P:Program}:∀ (n d:Nat) {t:TypeId} {x y:Value} {b:Bool},n≤d→Fl P n t x y=some b→aC P (Op.equalIn d t x y)=some b
 | 0,_,_,_,_,_,_,h=>by cases h
 | n + 1,0,_,_,_,_,hd,_=>by omega
 | n + 1,d + 1,t,x,y,b,hd,h=>by
  unfold Fl at h
  split at h
  ·rename_i hu
   cases h
   simp only [Op.equalIn,a5,fK hu,Option.bind_some]
   rfl
  ·rename_i hu
   split at h
   ·rename_i hk
    cases h
    simp only [Op.equalIn,a5,fK hu,Option.bind_some]
    rw [if_pos hk]
    rfl
   ·cases h
  ·rename_i hu
   cases h
   simp only [Op.equalIn,a5,fK hu,Option.bind_some,← beq_toListBytes]
   rfl
  ·rename_i fs xs ys hu
   split at h
   ·cases h
   ·rename_i hp
    rw [Fo hu hp]
    have key : ∀ (l : List Field) (r : Option Bool) (m : Bool), l.foldr (fun f (r : Option Bool × Bool) => match f.name == "_", aC P (part f.type xs f.offset), aC P (part f.type ys f.offset) with
     | false,some a,some b=>match Fl P n f.type a b,r with
      | some e,(_,false)=>(some e,true)
      | some e,(some s,true)=>(some (e&&s),true)
      | _,_=>(none,true)
     | _,_,_=>(none,true)) (some true,false)=(r,m)→(m=false→l=[])∧∀ b,r=some b→aC P (Op.eqFields d xs ys l)=some b:=by
     intro l
     induction l with
     | nil =>
      intro r m h
      cases h
      exact ⟨fun _=>rfl,fun b hb=>by cases hb; rfl⟩
     | cons f l ih =>
      intro r m h
      rw [List.foldr_cons] at h
      generalize hq:(l.foldr _ (some true,false):Option Bool×Bool)=q at h
      obtain ⟨r',m'⟩:=q
      obtain ⟨ih1,ih2⟩:=ih r' m' hq
      split at h
      ·rename_i a b hn ha hb
       have hn' : f.name ≠ "_" := by simpa using hn
       have step:∀ e,Fl P n f.type a b=some e→aC P (Op.eqFields d xs ys (f::l))=match e with | true=>aC P (Op.eqFields d xs ys l) | false=>some false:=by
        intro e he
        simp only [Op.eqFields]
        rw [if_pos hn']
        simp only [a5,ha,hb,Option.bind_some,pK n d (by omega) he]
        cases e <;> rfl
       cases hv:Fl P n f.type a b with
       | none =>
        rw [hv] at h
        cases h
        exact ⟨fun h=>(by cases h),fun b' hb'=>(by cases hb')⟩
       | some e =>
        rw [hv] at h
        cases m' with
        | false =>
         cases h
         refine ⟨fun h=>(by cases h),fun b' hb'=>?_⟩
         cases hb'
         rw [step e hv,ih1 rfl]
         cases e <;> rfl
        | true =>
         cases r' with
         | none =>
          cases h
          exact ⟨fun h=>(by cases h),fun b' hb'=>(by cases hb')⟩
         | some s =>
          cases h
          refine ⟨fun h=>(by cases h),fun b' hb'=>?_⟩
          cases hb'
          rw [step e hv,ih2 s rfl]
          cases e <;> rfl
      ·cases h
       exact ⟨fun h=>(by cases h),fun b' hb'=>(by cases hb')⟩
    generalize hq:(fs.toList.foldr _ (some true,false):Option Bool×Bool)=q at h
    obtain ⟨r,m⟩:=q
    exact (key _ r m hq).2 b h
  ·rename_i len e xs ys hu
   split at h
   ·rename_i m hm
    rw [GK hu hm]
    generalize List.range' 0 len=l at h ⊢
    induction l generalizing b with
    | nil =>
     cases h
     rfl
    | cons i l ih =>
     unfold KI at h
     split at h
     ·rename_i c hc
      split at hc
      ·rename_i u v h1 h2
       split at h
       ·rename_i s hs
        cases h
        simp only [vg,a5,h1,h2,Option.bind_some,pK n d (by omega) hc]
        cases c
        ·rfl
        ·exact ih _ hs
       ·cases h
      ·cases hc
     ·cases h
   ·cases h
  ·cases h
theorem yY {P:Program} {t:TypeId} {xs ys:List Value} {b:Bool} (hg:P.eqGuardType P.depth t=false) (h:Fl P 16 t (.agg xs.toArray) (.agg ys.toArray)=some b):nV P .eql t xs ys=some (.bool b):=by
 unfold nV
 have h1:aC P (eqGuard .eql t (.tmp 0) (.tmp 0) (.agg xs.toArray) (.agg ys.toArray))=some ():=by
  simp [eqGuard,a5,program,aC,hg]
  rfl
 have h2:aC P (binOp .eql t (.agg xs.toArray) (.agg ys.toArray))=some (.bool b):=by
  have:=pK (P:=P) 16 10000 (by omega) h
  simp only [binOp,Op.equal,Op.maxDepth]
  rw [a5,this]
  rfl
 rw [a5,h1]
 exact h2
structure uo (P:Program) (kt:TypeId) {κ:Type} (kf:κ→AV) (kv:κ→Value) (beq:κ→κ→Bool):Prop where
 tok:∀ k,tL (kf k)=some (kv k)
 eqv:∀ a b,Fl P 16 kt (kv a) (kv b)=some (beq a b)
 chk:∀ e k,aC P (Instr.checkKey e 10000 kt (kv k))=some ()
 sam:∀ a b,beq a b=true→Instr.sameBits 10000 (kv b) (kv a)=true
def Ai:List Bool→Nat→Option Nat
 | [],_=>none
 | true::_,i=>some i
 | false::bs,i=>Ai bs (i + 1)
theorem wO {P:Program} {kt:TypeId} {x:Value}:∀ {es:List MapEntry} {bs:List Bool} {i:Nat},es.length=bs.length→(∀ (j:Nat) (e:MapEntry) (b:Bool),es[j]?=some e→bs[j]?=some b→Fl P 16 kt x e.key=some b) →
  ∃ r,aC P (Instr.findAsking kt x es i)=some r∧r.map (·.1)=Ai bs i
 | [],[],i,_,_=>⟨none,rfl,rfl⟩
 | [],_::_,_,h,_=>by simp at h
 | _::_,[],_,h,_=>by simp at h
 | e::es,b::bs,i,hl,hv=>by
  have h0:=pK (P:=P) 16 10000 (by omega) (hv 0 e b rfl rfl)
  unfold Instr.findAsking
  rw [a5]
  have h1:aC P (Op.equal kt x e.key)=some b:=h0
  rw [h1,Option.bind_some,nr]
  cases b with
  | true=>exact ⟨some (i,e.val),rfl,rfl⟩
  | false=>exact wO (es:=es) (bs:=bs) (i:=i + 1) (by simpa using hl) (fun j e' b' h2 h3=>hv (j + 1) e' b' (by simpa using h2) (by simpa using h3))
theorem D5 {P:Program} {kt:TypeId} {x:Value} {d:TypeDesc} (hd:P.underlying kt=some d):∀ {es:List MapEntry} {bs:List Bool} {i:Nat} {r:Option (Nat×Value)},es.length=bs.length→(∀ (j:Nat) (e:MapEntry) (b:Bool),es[j]?=some e→bs[j]?=some b→Fl P 16 kt x e.key=some b) →
  Instr.findNow d x es i=some r→r.map (·.1)=Ai bs i
 | [],[],i,r,_,_,h=>by cases h; rfl
 | [],_::_,_,_,h,_,_=>by simp at h
 | _::_,[],_,_,h,_,_=>by simp at h
 | e::es,b::bs,i,r,hl,hv,h=>by
  have h0:=hv 0 e b rfl rfl
  have hs:∀ c,Instr.sameNow d x e.key=some c→c=b:=by
   intro c hc
   unfold Fl at h0
   rw [hd] at h0
   generalize e.key=y at h0 hc
   unfold Instr.sameNow at hc
   split at hc
   ·dsimp only at h0
    split at hc
    ·rename_i hk
     rw [if_pos hk] at h0
     rw [hc] at h0
     exact Option.some.inj h0
    ·cases hc
   ·dsimp only at h0
    rw [beq_toListBytes] at hc
    rw [hc] at h0
    exact Option.some.inj h0
   ·dsimp only at h0
    rw [hc] at h0
    exact Option.some.inj h0
   ·cases hc
  unfold Instr.findNow at h
  split at h
  ·rename_i hc
   cases h
   rw [← hs _ hc]
   rfl
  ·rename_i hc
   rw [← hs _ hc]
   exact D5 hd (es:=es) (bs:=bs) (i:=i + 1) (by simpa using hl) (fun j e' b' h2 h3=>hv (j + 1) e' b' (by simpa using h2) (by simpa using h3)) h
  ·cases h
theorem Iy {P:Program} {kt:TypeId} {x:Value} {es:List MapEntry} {bs:List Bool} {d:TypeDesc} (hd:P.underlying kt=some d) (hl:es.length=bs.length) (hv:∀ (j:Nat) (e:MapEntry) (b:Bool),es[j]?=some e→bs[j]?=some b→Fl P 16 kt x e.key=some b) :
  ∃ r,aC P (Instr.findKey kt x es)=some r∧r.map (·.1)=Ai bs 0:=by
 unfold Instr.findKey
 rw [a5,fK hd,Option.bind_some]
 split
 ·rename_i r hr
  exact ⟨r,rfl,D5 hd hl hv hr⟩
 ·exact wO hl hv
theorem wP {κ β:Type} {kf:κ→AV} {kv:κ→Value} {vf:β→AV} (ht:∀ k,tL (kf k)=some (kv k)):∀ l:List (κ×β),keysOf (l.map (cH kf vf))=some (l.map fun e=>({ key:=kv e.1,val:=.bool false,born:=0 }:MapEntry))
 | []=>rfl
 | e::l=>by
  show (match tL (kf e.1),keysOf (l.map (cH kf vf)) with
   | some x,some xs=>some (({ key:=x,val:=.bool false,born:=0 }:MapEntry)::xs)
   | _,_=>none)=_
  rw [ht,wP ht l]
  rfl
theorem ti {P:Program} {kt:TypeId} {κ β:Type} {kf:κ→AV} {kv:κ→Value} {beq:κ→κ→Bool} {vf:β→AV} (hd:(P.underlying kt).isSome=true) (hk:uo P kt kf kv beq) (l:List (κ×β)) (k:κ) {K:Value→Option Nat→Prop}
  (h:K (kv k) (Ai (l.map fun e=>beq k e.1) 0)):cw P kt (kf k) (l.map (cH kf vf)) K:=by
 obtain ⟨d,hd⟩:=Option.isSome_iff_exists.1 hd
 unfold cw
 rw [hk.tok,wP hk.tok]
 dsimp only
 rw [hk.chk]
 obtain ⟨r,h1,h2⟩:=Iy (P:=P) (x:=kv k) (es:=l.map fun e=>({ key:=kv e.1,val:=.bool false,born:=0 }:MapEntry)) (bs:=l.map fun e=>beq k e.1) hd (by simp) (fun j e b h1 h2=>by
  rw [List.getElem?_map,Option.map_eq_some_iff] at h1 h2
  obtain ⟨x,h3,rfl⟩:=h1
  obtain ⟨y,h4,rfl⟩:=h2
  rw [h3] at h4
  cases h4
  exact hk.eqv _ _)
 rw [h1]
 dsimp only
 rw [h2]
 exact h
theorem wQ {κ β:Type} {beq:κ→κ→Bool} {k:κ}:∀ (l:List (κ×β)) (i:Nat),(Ai (l.map fun e=>beq k e.1) i=none∧j6 beq l k=none)∨∃ j e,Ai (l.map fun e=>beq k e.1) i=some (i + j)∧l[j]?=some e∧beq k e.1=true∧j6 beq l k=some e.2
 | [],i=>.inl ⟨rfl,rfl⟩
 | e::l,i=>by
  rw [List.map_cons]
  cases hb:beq k e.1 with
  | true=>exact .inr ⟨0,e,rfl,rfl,hb,by unfold j6; rw [if_pos hb]⟩
  | false =>
   have hg:j6 beq (e::l) k=j6 beq l k:=by
    show (if beq k e.1=true then some e.2 else j6 beq l k)=_
    rw [if_neg (by rw [hb]; exact Bool.false_ne_true)]
   rcases wQ (β:=β) (beq:=beq) (k:=k) l (i + 1) with ⟨h1,h2⟩ | ⟨j,e',h1,h2,h3,h4⟩
   ·exact .inl ⟨h1,hg.trans h2⟩
   ·exact .inr ⟨j + 1,e',by rw [show i + (j + 1)=i + 1 + j by omega]; exact h1,h2,h3,hg.trans h4⟩
def Pi (P:Program) (kt e:TypeId) {κ β:Type} (kf:κ→AV) (beq:κ→κ→Bool) (vf:β→AV) (z:β) (l:List (κ×β)) (k:κ):Prop :=
 ∀ k':AV→Prop,k' (vf ((j6 beq l k).getD z))→cw P kt (kf k) (l.map (cH kf vf)) fun _ r=>dI P e false (l.map (cH kf vf)) r k'
def Mt (P:Program) (kt e:TypeId) {κ β:Type} (kf:κ→AV) (beq:κ→κ→Bool) (vf:β→AV) (z:β) (l:List (κ×β)) (k:κ):Prop :=
 ∀ k':AV→Prop,k' (.tup [vf ((j6 beq l k).getD z),.v (.bool (j6 beq l k).isSome)])→cw P kt (kf k) (l.map (cH kf vf)) fun _ r=>dI P e true (l.map (cH kf vf)) r k'
def Pj (P:Program) (kt:TypeId) {κ β:Type} (kf:κ→AV) (beq:κ→κ→Bool) (vf:β→AV) (l:List (κ×β)) (k:κ) (v:β):Prop :=
 ∀ K':List (AV×AV)→Prop,K' ((Mv beq l k v).map (cH kf vf))→cw P kt (kf k) (l.map (cH kf vf)) fun kv' r=>bu (qp P kt kv') (
     match r with
     | some i=>bu (Instr.sameBits 10000 (((l.map (cH kf vf))[i]?.bind fun e=>tL e.1).getD (.bool false)) kv') (K' ((l.map (cH kf vf)).set i (kf k,vf v)))
     | none=>K' (l.map (cH kf vf)++[(kf k,vf v)]))
def vh (P:Program) (kt e:TypeId) (ok:Bool) {κ β:Type} (kf:κ→AV) (vf:β→AV) (l:List (κ×β)) (k:κ) (a:AV):Prop :=
 ∀ k':AV→Prop,k' a→cw P kt (kf k) (l.map (cH kf vf)) fun _ r=>dI P e ok (l.map (cH kf vf)) r k'
theorem Iz {P:Program} {kt e:TypeId} {ok:Bool} {κ β:Type} {kf:κ→AV} {kv:κ→Value} {beq:κ→κ→Bool} {vf:β→AV} (hd:(P.underlying kt).isSome=true) (hk:uo P kt kf kv beq) (z:AV) (hz:∀ k',iK P e ok k'=k' z) (l:List (κ×β)) (k:κ) (h:j6 beq l k=none):vh P kt e ok kf vf l k z:=by
 intro k' hz'
 refine ti hd hk l k ?_
 rcases wQ (β:=β) (beq:=beq) (k:=k) l 0 with ⟨h1,h2⟩ | ⟨j,en,h1,h2,h3,h4⟩
 ·rw [h1]
  show iK P e ok k'
  rw [hz]
  exact hz'
 ·rw [h] at h4
  cases h4
theorem IA {P:Program} {kt e:TypeId} {ok:Bool} {κ β:Type} {kf:κ→AV} {kv:κ→Value} {beq:κ→κ→Bool} {vf:β→AV} (hd:(P.underlying kt).isSome=true) (hk:uo P kt kf kv beq) (l:List (κ×β)) (k:κ) {v:β} (h:j6 beq l k=some v):vh P kt e ok kf vf l k (match ok with | true=>.tup [vf v,.v (.bool true)] | false=>vf v):=by
 intro k' hk'
 refine ti hd hk l k ?_
 rcases wQ (β:=β) (beq:=beq) (k:=k) l 0 with ⟨h1,h2⟩ | ⟨j,en,h1,h2,h3,h4⟩
 ·rw [h] at h2
  cases h2
 ·rw [h1]
  show dI P e ok _ (some (0 + j)) k'
  unfold dI
  dsimp only
  rw [Nat.zero_add,List.getElem?_map,h2]
  rw [h] at h4
  cases h4
  cases ok with
  | true=>exact hk'
  | false=>exact hk'
theorem yZ {κ:Type} (kf:κ→AV):∀ ks:List κ,eN (ks.map kf)=(ks.map fun k=>(k,())).map (cH kf fun _=>AV.bad)
 | []=>rfl
 | k::ks=>by
  show (kf k,AV.bad)::eN (ks.map kf)=_
  rw [yZ kf ks]
  rfl
theorem wR {κ:Type} {beq:κ→κ→Bool} {k:κ}:∀ (ks:List κ) (i:Nat),Ai ((ks.map fun k=>(k,())).map fun e=>beq k e.1) i=(dK beq ks k).map (i + ·)
 | [],_=>rfl
 | e::ks,i=>by
  rw [List.map_cons,List.map_cons]
  cases hb:beq k e with
  | true =>
   show some i=_
   unfold dK
   rw [if_pos hb]
   rfl
  | false =>
   show Ai ((ks.map fun k=>(k,())).map fun e=>beq k e.1) (i + 1)=_
   rw [wR ks (i + 1)]
   have hk:dK beq (e::ks) k=(if beq k e=true then some 0 else (dK beq ks k).map (· + 1)):=rfl
   rw [hk,if_neg (by rw [hb]; exact Bool.false_ne_true),Option.map_map]
   congr 1
   funext j
   show i + 1 + j=i + (j + 1)
   omega
theorem y_ {κ:Type} {beq:κ→κ→Bool} {k:κ}:∀ {ks:List κ} {j:Nat},dK beq ks k=some j→∃ e,ks[j]?=some e∧beq k e=true
 | [],_,h=>by cases h
 | e::ks,j,h=>by
  unfold dK at h
  split at h
  ·rename_i hb
   cases h
   exact ⟨e,rfl,hb⟩
  ·rw [Option.map_eq_some_iff] at h
   obtain ⟨j',h1,rfl⟩:=h
   obtain ⟨e',h2,h3⟩:=y_ h1
   exact ⟨e',by simpa using h2,h3⟩
def GL (P:Program) (kt:TypeId) {κ:Type} (kf:κ→AV) (ks:List κ) (k:κ) (r:Option Nat):Prop:=∀ K':Option Nat→Prop,K' r→cw P kt (kf k) (eN (ks.map kf)) fun _ r=>K' r
def D6 (P:Program) (kt:TypeId) {κ:Type} (kf:κ→AV) (ks:List κ) (k:κ) (r:Option Nat) (ks':List AV):Prop:=∀ K':Option Nat→List AV→Prop,K' r ks'→cw P kt (kf k) (eN (ks.map kf)) fun kv r=>bu (qp P kt kv) (match r with
     | some i=>bu (Instr.sameBits 10000 (((ks.map kf)[i]?.bind tL).getD (.bool false)) kv) (K' (some i) ((ks.map kf).set i (kf k)))
     | none=>K' none (ks.map kf++[kf k]))
section
variable {P:Program} {kt:TypeId} {κ:Type} {kf:κ→AV} {kv:κ→Value} {beq:κ→κ→Bool}
theorem KJ (hd:(P.underlying kt).isSome=true) (hk:uo P kt kf kv beq) (ks:List κ) (k:κ) {K:Value→Option Nat→Prop} (h:K (kv k) (dK beq ks k)):cw P kt (kf k) (eN (ks.map kf)) K:=by
 rw [yZ]
 refine ti hd hk (ks.map fun k=>(k,())) k ?_
 rw [wR]
 have:(dK beq ks k).map (0 + ·)=dK beq ks k:=by
  cases dK beq ks k with
  | none=>rfl
  | some j=>show some (0 + j)=_; rw [Nat.zero_add]
 rw [this]
 exact h
theorem IB (hd:(P.underlying kt).isSome=true) (hk:uo P kt kf kv beq) (ks:List κ) (k:κ) {r:Option Nat} (h:dK beq ks k=r):∀ K':Option Nat→Prop,K' r→cw P kt (kf k) (eN (ks.map kf)) fun _ r=>K' r:=fun _ hK=>KJ hd hk ks k (h.symm▸hK)
theorem IC (hd:(P.underlying kt).isSome=true) (hk:uo P kt kf kv beq) (ks:List κ) (k:κ) (h:dK beq ks k=none):∀ K':Option Nat→List AV→Prop,K' none ((ks++[k]).map kf)→cw P kt (kf k) (eN (ks.map kf)) fun kv r=>bu (qp P kt kv) (match r with
     | some i=>bu (Instr.sameBits 10000 (((ks.map kf)[i]?.bind tL).getD (.bool false)) kv) (K' (some i) ((ks.map kf).set i (kf k)))
     | none=>K' none (ks.map kf++[kf k])):=by
 intro K' hK
 refine KJ hd hk ks k ?_
 refine ar (by unfold qp; rw [hk.chk]) ?_
 rw [h]
 rw [List.map_append] at hK
 exact hK
theorem ID (hd:(P.underlying kt).isSome=true) (hk:uo P kt kf kv beq) (he:∀ a b,beq a b=true→a=b) (ks:List κ) (k:κ) {i:Nat} (h:dK beq ks k=some i):∀ K':Option Nat→List AV→Prop,K' (some i) (ks.map kf)→cw P kt (kf k) (eN (ks.map kf)) fun kv r=>bu (qp P kt kv) (match r with
     | some i=>bu (Instr.sameBits 10000 (((ks.map kf)[i]?.bind tL).getD (.bool false)) kv) (K' (some i) ((ks.map kf).set i (kf k)))
     | none=>K' none (ks.map kf++[kf k])):=by
 intro K' hK
 refine KJ hd hk ks k ?_
 refine ar (by unfold qp; rw [hk.chk]) ?_
 obtain ⟨e,h1,h2⟩:=y_ h
 have e1:=he _ _ h2
 subst e1
 rw [h]
 have hm:(ks.map kf)[i]?=some (kf k):=by rw [List.getElem?_map,h1]; rfl
 refine ar ?_ ?_
 ·rw [hm]
  show Instr.sameBits 10000 ((tL (kf k)).getD (.bool false)) (kv k)=true
  rw [hk.tok]
  exact hk.sam _ _ h2
 ·have hset:(ks.map kf).set i (kf k)=ks.map kf:=by
   apply List.ext_getElem?
   intro j
   rw [List.getElem?_set]
   split
   ·rename_i hj
    subst hj
    rw [hm]
    split
    ·rfl
    ·rename_i hn
     exact absurd (List.getElem?_eq_some_iff.1 hm).1 hn
   ·rfl
  rw [hset]
  exact hK
end
def ly (H:Type) (P:Program) (t:TypeId) {α:Type} (f:α→List AV) (wf:α→Prop):Prop:=∀ (n:Nat) (d:DataW H),cX P n t d=true→∃ x,aT (gS P n t d) (f x)∧wf x
def g0 (H:Type) (P:Program) (ts:List TypeId) {α:Type} (f:α→List AV) (wf:α→Prop):Prop:=∀ (n:Nat) (ds:List (DataW H)),ds.length=ts.length→((ts.zip ds).all fun x=>cX P n x.1 x.2)=true→∃ x,aT ((ts.zip ds).flatMap fun x=>gS P n x.1 x.2) (f x)∧wf x
section
variable {H:Type} {P:Program} {t:TypeId}
theorem ly.int {k:IntKind} (hu:P.underlying t=some (.int k)):ly H P t (mh k) (yc k):=by
 intro n d h
 cases n with
 | zero=>cases h
 | succ n =>
  unfold cX at h
  rw [hu] at h
  cases d with
  | lit l =>
   cases l with
   | int k' m =>
    have h:(decide (k'=k)&&(Lit.int k m).wf)=true:=h
    rw [Bool.and_eq_true] at h
    obtain ⟨h1,h2⟩:=h
    have h1:=of_decide_eq_true h1
    subst h1
    have h2:(decide (k'.min≤m)&&decide (m≤k'.max))=true:=h2
    rw [Bool.and_eq_true] at h2
    refine ⟨m,?_,of_decide_eq_true h2.1,of_decide_eq_true h2.2⟩
    unfold gS
    rw [hu]
    exact aT.refl _
   | _=>cases h
  | _=>cases h
theorem ly.bool (hu:P.underlying t=some .bool):ly H P t eo (fun _=>True):=by
 intro n d h
 cases n with
 | zero=>cases h
 | succ n =>
  unfold cX at h
  rw [hu] at h
  cases d with
  | lit l =>
   cases l with
   | bool b =>
    refine ⟨b,?_,trivial⟩
    unfold gS
    rw [hu]
    exact aT.refl _
   | _=>cases h
  | _=>cases h
theorem ly.slice {e:TypeId} (hu:P.underlying t=some (.slice e)) {α:Type} {f:α→List AV} {wf:α→Prop} (he:ly H P e f wf):ly H P t (cY f) (fun l=>l.length≤maxLen∧∀ x∈l,wf x):=by
 intro n d h
 cases n with
 | zero=>cases h
 | succ n =>
  unfold cX at h
  rw [hu] at h
  cases d with
  | nil =>
   refine ⟨[],?_,by simp [maxLen],fun x hx=>by cases hx⟩
   unfold gS
   rw [hu]
   exact aT.cons aG.nil aT.nil
  | slice xs sp =>
   have h:(decide (xs.length≤maxLen)&&xs.all (cX P n e))=true:=h
   rw [Bool.and_eq_true] at h
   obtain ⟨h1,h2⟩:=h
   have key:∀ xs:List (DataW H),xs.all (cX P n e)=true→∃ l:List α,eS (xs.map (gS P n e)) (l.map f)∧l.length=xs.length∧∀ x∈l,wf x:=by
    intro xs
    induction xs with
    | nil=>exact fun _=>⟨[],eS.nil,rfl,fun x hx=>by cases hx⟩
    | cons x xs ih =>
     intro h
     rw [List.all_cons,Bool.and_eq_true] at h
     obtain ⟨y,hy1,hy2⟩:=he n x h.1
     obtain ⟨l,hl1,hl2,hl3⟩:=ih h.2
     refine ⟨y::l,eS.cons hy1 hl1,by simp [hl2],fun z hz=>?_⟩
     rcases List.mem_cons.1 hz with rfl | hz
     ·exact hy2
     ·exact hl3 z hz
   obtain ⟨l,hl1,hl2,hl3⟩:=key xs h2
   refine ⟨l,?_,by rw [hl2]; exact of_decide_eq_true h1,hl3⟩
   unfold gS
   rw [hu]
   exact aT.cons (aG.sl hl1) aT.nil
  | _=>cases h
theorem g0.nil:g0 H P [] (fun _:Unit=>[]) (fun _=>True):=fun _ _ _ _=>⟨(),aT.nil,trivial⟩
theorem g0.cons {ts:List TypeId} {α β:Type} {f:α→List AV} {wf:α→Prop} {g:β→List AV} {wg:β→Prop} (h:ly H P t f wf) (hs:g0 H P ts g wg):g0 H P (t::ts) (fun x:α×β=>f x.1++g x.2) (fun x=>wf x.1∧wg x.2):=by
 intro n ds hl ha
 cases ds with
 | nil=>simp at hl
 | cons d ds =>
  rw [List.zip_cons_cons,List.all_cons,Bool.and_eq_true] at ha
  obtain ⟨x,h1,h2⟩:=h n d ha.1
  obtain ⟨y,h3,h4⟩:=hs n ds (by simpa using hl) ha.2
  refine ⟨(x,y),?_,h2,h4⟩
  rw [List.zip_cons_cons,List.flatMap_cons]
  exact h1.app h3
theorem ly.struct {fs:Array Field} (hu:P.underlying t=some (.struct fs)) {α:Type} {g:α→List AV} {wg:α→Prop} (h:g0 H P (fs.toList.map (·.type)) g wg):ly H P t g wg:=by
 intro n d hd
 cases n with
 | zero=>cases hd
 | succ n =>
  unfold cX at hd
  rw [hu] at hd
  cases d with
  | agg ds =>
  have hd:(Nat.beq ds.length fs.size&&(fs.toList.zip ds).all fun x=>cX P n x.1.type x.2)=true:=hd
  rw [Bool.and_eq_true] at hd
  obtain ⟨h1,h2⟩:=hd
  have hlen:=Nat.eq_of_beq_eq_true h1
  obtain ⟨x,h3,h4⟩:=h n ds (by simpa using hlen) (by
   rw [List.zip_map_left,List.all_map]
   exact h2)
  refine ⟨x,?_,h4⟩
  unfold gS
  rw [hu]
  dsimp only
  rw [List.zip_map_left,List.flatMap_map] at h3
  exact h3
  | _=>cases hd
theorem ly.conv {α β:Type} {f:α→List AV} {wf:α→Prop} {g:β→List AV} {wg:β→Prop} (h:ly H P t f wf) (φ:α→β) (hf:∀ x,f x=g (φ x)) (hw:∀ x,wf x→wg (φ x)):ly H P t g wg:=fun n d hd=>by
 obtain ⟨x,h1,h2⟩:=h n d hd
 exact ⟨φ x,by rw [← hf]; exact h1,hw x h2⟩
theorem ly.argS {fs:Array Field} (hu:P.underlying t=some (.struct fs)) {α:Type} {f:α→List AV} {wf:α→Prop} (h:ly H P t f wf) {n:Nat} {d:DataW H} (hd:cX P n t d=true):∃ x,aG (p_ P n t d) (.agg (f x))∧wf x:=by
 obtain ⟨x,h1,h2⟩:=h n d hd
 refine ⟨x,?_,h2⟩
 unfold p_
 rw [hu]
 exact aG.agg h1
theorem ly.arg1 (hs:lm P t=false) {α:Type} {f:α→List AV} {wf:α→Prop} {g:α→AV} (h:ly H P t f wf) (hg:∀ x,f x=[g x]) {n:Nat} {d:DataW H} (hd:cX P n t d=true):∃ x,aG (p_ P n t d) (g x)∧wf x:=by
 obtain ⟨x,h1,h2⟩:=h n d hd
 refine ⟨x,?_,h2⟩
 rw [hg] at h1
 unfold lm at hs
 unfold p_
 split
 ·rename_i fs hu
  rw [hu] at hs
  cases hs
 ·generalize gS P n t d=r at h1
  cases r with
  | nil=>exact absurd h1.1 (by simp)
  | cons a r=>exact h1.2 0 a _ rfl rfl
end
end A
end Go.Proofs.YtomahedcdcnnhaaGreatDoor
