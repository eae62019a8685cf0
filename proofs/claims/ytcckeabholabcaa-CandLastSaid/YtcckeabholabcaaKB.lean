/- The evaluator with answers; contracts out of it. Nothing is claimed here of the program. -/
import Derived.Test.YtcckeabholabcaaK6
import Derived.Test.YtcckeabholabcaaM0
import Derived.Laws.StructEq
namespace Go.Proofs.Ytcckeabholabcaa
namespace A
open Go
def oU {α:Type}:List (Nat×α)→Nat→Option α
  | [],_=>none
  | (d,x)::xs,e=>match Nat.beq d e with | true=>some x | false=>oU xs e
structure Wk where
  ts:List Nat
  ls:List Nat
  no:Nat
  pr:List (Nat×Nat)
  pl:List (Nat×Nat×Nat)
  fz:List Nat
def ET (ts:List Nat):Nat→List AV→List AV
  | _,[]=>[]
  | i,x::xs=>(match ep ts i with | true=>x | false=>.bad)::ET ts (i + 1) xs
def xB:List Nat→St→St
  | [],S=>S
  | d::ds,S=>xB ds (eq d S)
def AJ:Nat→Nat→List Nat
  | _,0=>[]
  | i,n + 1=>i::AJ (i + 1) n
def DC:List Nat→St→St
  | [],S=>S
  | i::is,S=>DC is (dJ i S)
def xC:List Ob→Bool
  | []=>true
  | .dead::os=>xC os
  | _=>false
def Gq (n:Nat) (S:St):St :=
  match xC (S.o.drop n)&&Nat.ble S.b n with
  | true=>{ t:=S.t,l:=S.l,o:=S.o.take n,b:=S.b }
  | false=>S
def zj:List (Nat×Nat)→St→St
  | [],S=>S
  | (d,sz)::ps,S=>match S.t[d]? with
    | some .nilsl=>zj ps { t:=S.t.set d (.mf S.o.length),l:=S.l,o:=S.o++[.arr true sz []],b:=S.b }
    | _=>zj ps S
def wv:List (Nat×Nat×Nat)→St→St
  | [],S=>S
  | (d,j,sz)::ps,S=>match aG S.l d with
    | some row=>match row[j]? with
      | some .nilsl=>wv ps { t:=S.t,l:=oZ S.l d (row.set j (.mf S.o.length)),o:=S.o++[.arr true sz []],b:=S.b }
      | _=>wv ps S
    | none=>wv ps S
def Gr (ids:List Nat) (d j:Nat) (b:AV) (S:St):St :=
  match aG (et ids S).l d with
  | some row=>{ t:=(et ids S).t,l:=oZ (et ids S).l d (row.set j b),o:=(et ids S).o,b:=(et ids S).b }
  | none=>et ids S
def vh:List Nat→St→St
  | [],S=>S
  | d::ds,S=>match Nat.ble 10000 d with
    | true=>match aG S.l ((d - 10000) / 100) with
      | some row=>match row[d % 100]? with
        | some a=>match zZ S.o 6 a with
          | some b=>vh ds (Gr (dB S.o 6 a) ((d - 10000) / 100) (d % 100) b S)
          | none=>vh ds S
        | none=>vh ds S
      | none=>vh ds S
    | false=>match S.t[d]? with
      | some a=>match zZ S.o 6 a with
        | some b=>vh ds { t:=(et (dB S.o 6 a) S).t.set d b,l:=(et (dB S.o 6 a) S).l,o:=(et (dB S.o 6 a) S).o,b:=(et (dB S.o 6 a) S).b }
        | none=>vh ds S
      | none=>vh ds S
def It (W:Wk) (S:St):St :=
  wv W.pl (zj W.pr (Gq W.no (DC (AJ W.no (S.o.length - W.no)) (xB W.ls { t:=ET W.ts 0 S.t,l:=S.l,o:=S.o,b:=S.b }))))
def wk (W:Wk) (S:St):St:=It W (vh W.fz S)
def cV (a b:AV):Prop:=∀ E u,VR E a u→VR E b u
def cR (r r':List AV):Prop:=r.length=r'.length∧∀ (i:Nat) (a b:AV),r[i]?=some a→r'[i]?=some b→cV a b
def gX (r r':List (List AV)):Prop:=r.length=r'.length∧∀ (i:Nat) (a b:List AV),r[i]?=some a→r'[i]?=some b→cR a b
structure Le where
  ts:List (Nat×AV)
  ls:List (Nat×List AV)
  os:List (Nat×List (List AV))
def Gs:List (Nat×AV)→St→(St→Prop)→Prop
  | [],S,K=>K S
  | (d,v)::xs,S,K=>nS S.t d fun a=>cV a v∧p5 S.t d v fun t=>Gs xs { t:=t,l:=S.l,o:=S.o,b:=S.b } K
def EU:List (Nat×List AV)→St→(St→Prop)→Prop
  | [],S,K=>K S
  | (d,r)::xs,S,K=>match aG S.l d with
    | some row=>cR row r∧mi (oZ S.l d r) fun l=>EU xs { t:=S.t,l:=l,o:=S.o,b:=S.b } K
    | none=>ad 450
def EV:List (Nat×List (List AV))→St→(St→Prop)→Prop
  | [],S,K=>K S
  | (i,R)::xs,S,K=>match S.o[i]? with
    | some (.arr fl sz rows)=>gX rows R∧bk (S.o.set i (.arr fl sz R)) fun o=>EV xs { t:=S.t,l:=S.l,o:=o,b:=S.b } K
    | _=>ad 451
def DD (L:Le) (S:St) (K:St→Prop):Prop:=Gs L.ts S fun S=>EU L.ls S fun S=>EV L.os S K
structure vi where
  at_:Option Nat
  row:Option (List (List AV))
  ks:List AV
  cs:List (Option (List (List AV)))
structure dT where
  dem:List Nat
  chk:List Nat
  row:List (Nat×List AV)
  val:List (Nat×AV)
  call:List (Nat×AV)
  sto:List (Nat×(AV×List Ob))
  obr:List (Nat×(Nat×List (List AV)))
  mpr:List (Nat×List (AV×AV))
  own:List (Nat×vi)
inductive PT where
  | done
  | go (i:Nat) (t:PT)
  | alt (i:Nat) (t r:PT)
def jB:List Nat→PT
  | []=>.done
  | i::is=>.go i (jB is)
def AK:PT→PT→Bool
  | .done,.done=>true
  | .go i t,.go j u=>Nat.beq i j&&AK t u
  | .alt i t r,.alt j u s=>Nat.beq i j&&(AK t u&&AK r s)
  | _,_=>false
structure Gt where
  ord:List (Nat×PT)
  reg:List (Nat×dT)
  wr:List (Nat×Le)
  lps:List (Nat×(Wk×Le×Ex×St))
  cut:List (Nat×(Wk×Le×Ex×St))
def Cn (A:Gt) (id:Nat):dT :=
  match oU A.reg id with
  | some R=>R
  | none=>⟨[],[],[],[],[],[],[],[],[]⟩
def keyOf (o:Oper):Nat :=
  match o.dst with
  | some d=>d
  | none=>match o.op with
    | .store _ (.tmp t) _=>t + 1000000
    | .mapUpdate _ (.tmp t) _ _=>t + 1000000
    | .insert _ (.tmp t) _ _=>t + 1000000
    | _=>0
def FM (rows:List (List AV)) (i:Int):Option (List AV):=if 0≤i then rows[i.toNat]? else none
def DF (op:BinOp) (x y:Value) (K:Value→Prop):Prop :=
  match op,x,y with
  | .quo,.int k a,.int k' b=>(decide (k=k')&&!(b==0))=true∧K (.int k (k.wrap (a.tdiv b)))
  | .rem,.int k a,.int k' b=>(decide (k=k')&&!(b==0))=true∧K (.int k (a.tmod b))
  | .shl,.int k a,.int _ b=>decide (0≤b)=true∧K (.int k (k.wrap (a * 2 ^ (min b.toNat k.bits))))
  | .shr,.int k a,.int _ b=>decide (0≤b)=true∧K (.int k (a.fdiv (2 ^ (min b.toNat k.bits))))
  | .add,.string a,.string b=>decide (((a.size + b.size:Nat):Int)≤9223372036854775807)=true∧K (.string (a++b))
  | _,_,_=>ad 20
def DG (C:Ctx) (A:dT) (o:Oper) (op:BinOp) (t:TypeId) (x y:AV) (k:AV→Prop):Prop :=
  match x,y with
  | .v a,.v b=>match EI op a b with
    | none=>match a,b with
      | .bool x,.bool y=>yf C.P op t x y k
      | a,b=>DF op a b fun c=>k (.v c)
    | some c=>k (.v c)
  | .agg as,.agg bs=>match ru as,ru bs with
    | some xs,some ys=>match oU A.val (keyOf o) with
      | some (.v (.bool b))=>kV C.P op t xs ys=some (.bool b)∧k (.v (.bool b))
      | _=>ad 400
    | _,_=>ad 401
  | _,_=>ad 402
def xD (C:Ctx) (A:dT) (o:Oper) (t:TypeId) (x ix:AV) (k:AV→Prop):Prop :=
  intOf ix fun i =>
  match C.P.underlying t,x with
  | some .string,.v (.string s)=>match oU A.val (keyOf o) with
    | some (.v (.int .u8 n))=>(if 0≤i then s[i.toNat]? else none)=some (UInt8.ofNat n.toNat)∧(n=((UInt8.ofNat n.toNat).toNat:Int)∧k (.v (.int .u8 n)))
    | _=>ad 403
  | some (.array len e),.agg cs=>match C.P.info? e with
    | some inf=>(decide (0≤i)&&decide (i<len))=true∧hP C.P e cs (i.toNat * inf.size) k
    | none=>ad 404
  | _,_=>ad 405
def Gu (C:Ctx) (A:dT) (pl:bV) (o:Oper) (vs:List AV) (k:AV→Prop):Prop :=
  match ep A.chk (keyOf o) with
  | false=>pop C pl o vs k
  | true=>match o.op,vs with
    | .binOp op t _ _ _,[a,b]=>DG C A o op t a b k
    | .index t _ _,[a,i]=>xD C A o t a i k
    | _,_=>ad 406
def ww (len cap:Nat) (lo hi mx:Option Int) (k:Nat→Nat→Nat→Prop):Prop :=
  match lo,hi,mx with
  | none,none,none=>k 0 len cap
  | some l,none,none=>(decide (0≤l)&&decide (l≤len))=true∧k l.toNat len cap
  | none,some h,none=>(decide (0≤h)&&decide (h≤cap))=true∧k 0 h.toNat cap
  | some l,some h,none=>(decide (0≤l)&&decide (l≤h)&&decide (h≤cap))=true∧k l.toNat h.toNat cap
  | none,some h,some m=>(decide (0≤h)&&decide (h≤m)&&decide (m≤cap))=true∧k 0 h.toNat m.toNat
  | some l,some h,some m=>(decide (0≤l)&&decide (l≤h)&&decide (h≤m)&&decide (m≤cap))=true∧k l.toNat h.toNat m.toNat
  | _,_,_=>ad 63
def kz (C:Ctx) (t:TypeId) (x:AV) (lo hi mx:Option Int) (S:St) (k:AV→Prop):Prop :=
  match C.P.underlying t with
  | some .string =>
    match x,mx with
    | .v (.string s),none=>ww s.size s.size lo hi none fun l h _=>k (.v (.string (s.extract l h)))
    | _,_=>ad 64
  | some (.slice e) =>
    match C.P.info? e with
    | some i=>bO (Nat.blt 0 i.size) (
      match x with
      | .sl rows=>oY i.size rows=true∧ww rows.length rows.length lo hi mx fun l h _ =>
        match lo,hi,iy mx&&iy hi with
        | _,_,true=>k .esl
        | none,none,_=>k (.sl rows)
        | _,none,_=>k (.sl (rows.drop l))
        | none,_,_=>k (.sl (rows.take h))
        | _,_,_=>k (.sl ((rows.drop l).take (h - l)))
      | .mf id=>match S.o[id]? with
        | some (.arr _ sz rows)=>bO (Nat.beq sz i.size) (ww rows.length rows.length lo hi mx fun l h m =>
          match lo,hi,iy mx&&iy hi with
          | _,_,true=>k .esl
          | none,none,_=>k (.mf id)
          | _,none,_=>k (.msl id l (rows.length - l) 0)
          | _,_,_=>k (.msl id l (h - l) (m - h)))
        | _=>ad 65
      | .msl id off len ext=>match S.o[id]? with
        | some (.arr _ sz _)=>bO (Nat.beq sz i.size) (ww len (len + ext) lo hi mx fun l h m =>
          match iy mx&&iy hi with
          | true=>k .esl
          | false=>k (.msl id (l + off) (h - l) (m - h)))
        | _=>ad 66
      | _=>ad 67)
    | none=>ad 68
  | _=>ad 69
def mV (C:Ctx) (row:List AV) (t:TypeId) (x ix:AV) (S:St) (k:AV→Prop):Prop :=
  intOf ix fun i =>
  match C.P.underlying t with
  | some (.slice e) =>
    match C.P.info? e with
    | some inf =>
      match x with
      | .sl rows=>FM rows i=some row∧bO (Nat.beq row.length inf.size&&Nat.blt 0 inf.size) (k (.fptr row 0))
      | .mf id=>match S.o[id]? with
        | some (.arr _ _ rows)=>FM rows i=some row∧bO (Nat.beq row.length inf.size&&Nat.blt 0 inf.size) (k (.ptr (.O id) i.toNat 0))
        | some (.own none _ cells _)=>bO (Nat.beq inf.size 1) ((decide (0≤i)&&Nat.blt i.toNat cells.length)=true∧k (.ptr (.O id) i.toNat 0))
        | _=>ad 72
      | .msl id off len _=>match S.o[id]? with
        | some (.arr _ _ rows)=>(decide (0≤i)&&decide (i<len))=true∧(rows[i.toNat + off]?=some row∧bO (Nat.beq row.length inf.size&&Nat.blt 0 inf.size) (k (.ptr (.O id) (i.toNat + off) 0)))
        | _=>ad 74
      | _=>ad 75
    | none=>ad 76
  | some (.array len e) =>
    match C.P.info? e with
    | some inf=>(decide (0≤i)&&decide (i<len))=true∧(
      match x with
      | .ptr key a j=>k (.ptr key a (i.toNat * inf.size + j))
      | .fptr row j=>k (.fptr row (i.toNat * inf.size + j))
      | _=>ad 77)
    | none=>ad 78
  | _=>ad 79
def rT (C:Ctx) (A:dT) (o:Oper) (fid:Nat) (as:List AV) (k:AV→Prop):Prop :=
  match oU A.call (keyOf o) with
  | some r=>(C.pcall fid as fun x=>x=r)∧k r
  | none=>C.pcall fid as k
def AL (P:Program) (op:BinOp) (t:TypeId) (x y:AV) (S:St) (k:AV→Prop):Prop :=
  match x,y with
  | .mf id,.nilsl=>match S.o[id]? with
    | some (.arr _ _ rows)=>Hi rows=true∧(match P.underlying t,op with
      | some (.slice _),.eql=>k (.v (.bool false))
      | some (.slice _),.neq=>k (.v (.bool true))
      | _,_=>ad 265)
    | _=>ad 472
  | _,_=>ad 473
def qx (size:Nat) (S:St) (x:AV) (k:Bool→List (List AV)→Prop):Prop :=
  match x with
  | .nilsl | .esl=>k true []
  | .sl rows=>oY size rows=true∧k true rows
  | .mf id=>match S.o[id]? with | some (.arr fl sz rows)=>bO (Nat.beq sz size) (k fl rows) | _=>ad 45
  | .msl id off len _=>match S.o[id]? with | some (.arr fl sz rows)=>bO (Nat.beq sz size) (k fl ((rows.drop off).take len)) | _=>ad 46
  | .v (.string s)=>bO (Nat.beq size 1) (k true (s.data.toList.map fun b=>[.v (.int .u8 b.toNat)]))
  | x=>iY size S x k
def xE (P:Program) (src dst:TypeId) (x:AV) (S:St) (s:ByteArray) (k:AV→Prop):Prop :=
  match P.underlying src,P.underlying dst with
  | some (.slice e),some .string =>
    match P.underlying e with
    | some (.int .u8)=>bO (!(Hf x)) (qx 1 S x fun _ rows=>bytesOf rows=some s.data.toList∧k (.v (.string s)))
    | _=>ad 481
  | _,_=>ad 482
def Gv (C:Ctx) (A:dT) (o:Oper) (vs:List AV) (M:St) (k:AV→Prop):Prop :=
  match o.op,vs with
  | .load t _,[p]=>match oU A.row (keyOf o) with
    | some row=>match p with
      | .ptr (.O id) i j=>match M.o[id]? with
        | some (.arr _ _ rows)=>rows[i]?=some row∧hP C.P t row j k
        | _=>ad 410
      | _=>ad 411
    | none=>nt C o vs M k
  | .slice t _ lo hi mx,a::rest=>match ep A.chk (keyOf o) with
    | false=>nt C o vs M k
    | true=>match lo,hi,mx,rest with
      | none,none,none,[]=>kz C t a none none none M k
      | some _,none,none,[x]=>intOf x fun x=>kz C t a (some x) none none M k
      | none,some _,none,[y]=>intOf y fun y=>kz C t a none (some y) none M k
      | some _,some _,none,[x,y]=>intOf x fun x=>intOf y fun y=>kz C t a (some x) (some y) none M k
      | none,some _,some _,[y,z]=>intOf y fun y=>intOf z fun z=>kz C t a none (some y) (some z) M k
      | some _,some _,some _,[x,y,z]=>intOf x fun x=>intOf y fun y=>intOf z fun z=>kz C t a (some x) (some y) (some z) M k
      | _,_,_,_=>ad 202
  | .indexAddr t _ _,[a,i]=>match oU A.row (keyOf o) with
    | some row=>mV C row t a i M k
    | none=>nt C o vs M k
  | .lookup t _ _ ok,[m,key]=>match oU A.call (keyOf o) with
    | some a=>match C.P.underlying t,m with
      | some (.map kt e),.mp id=>match M.o[id]? with
        | some (.mapo _ es)=>(∀ k':AV→Prop,k' a→gM C.P kt key es fun _ r=>iP C.P e ok es r k')∧k a
        | _=>ad 412
      | _,_=>ad 413
    | none=>nt C o vs M k
  | .binOp op t _ _ _,[a,b]=>match ep A.chk (keyOf o) with
    | false=>nt C o vs M k
    | true=>AL C.P op t a b M k
  | .convert src dst _,[x]=>match oU A.call (keyOf o) with
    | some (.v (.string s))=>xE C.P src dst x M s k
    | _=>nt C o vs M k
  | .call c,vs=>match c.callee with
    | .value _=>match vs with
      | .fn fid first cap::as=>bO (C.pure fid) (iz M.o (first++as++cap) fun bs=>rT C A o fid bs fun r=>bO (r9 4 r||((first++as++cap).flatMap (dB M.o 6)).isEmpty) (k r))
      | _=>ad 205
    | _=>nt C o vs M k
  | _,_=>nt C o vs M k
def xF (S:St) (row:List AV) (a:AV) (cs:List AV) (K:St→Prop):Prop :=
  match a with
  | .ptr (.O id) i j =>
    match S.o[id]? with
    | some (.arr fl sz rows)=>rows[i]?=some row∧bO (Nat.ble (j + cs.length) row.length&&cs.all (rK 4)) (hG (splice row j cs) fun row'=>bk (S.o.set id (.arr (fl&&cs.all (dA 4)) sz (rows.set i row'))) fun o=>K { t:=S.t,l:=S.l,o:=o,b:=S.b })
    | _=>ad 18
  | _=>ad 19
def EW (C:Ctx) (A:dT) (o:Oper) (vs:List AV) (M:St) (k:AV→St→Prop):Prop :=
  match oU A.row (keyOf o) with
  | none=>vB C o vs M k
  | some row=>match o.op,vs with
    | .store t _ _,[p,y]=>match p with
      | .ptr (.O _) _ _=>lm y fun cs=>match C.P.info? t with
        | some i=>bO (Nat.beq cs.length i.size) (xF M row p cs fun M'=>k .bad M')
        | none=>ad 208
      | _=>vB C o vs M k
    | _,_=>vB C o vs M k
def tU (P:Program) (ts:List TypeId) (base x:AV) (S:St) (k:St→AV→Prop):Prop :=
  match ts with
  | [t0,t1] =>
    match P.underlying t0 with
    | some (.slice e) =>
      match P.info? e with
      | some i=>bO (Nat.blt 0 i.size&&Nat.blt 0 i.bytes&&FI i&&(match P.underlying t1 with | some (.slice _) | some .string=>true | _=>false)) (qx i.size S x fun fl src=>fo src=true∧(
          match base with
          | .nilsl | .esl=>Nat.ble (src.length * i.bytes) 140737488355328=true∧(bk (S.o++[.arr fl i.size src]) fun o=>k { t:=S.t,l:=S.l,o:=o,b:=S.b } (.mf S.o.length))
          | .mf id=>match S.o[id]? with
            | some (.arr fl' sz rows)=>bO (Nat.beq sz i.size&&(fl||!fl')) (Nat.ble ((rows.length + src.length) * i.bytes) 140737488355328=true∧ny S id (.arr (fl'&&fl) sz (rows++src)) fun S' id'=>k S' (.mf id'))
            | _=>ad 48
          | .msl id off len ext=>match S.o[id]? with
            | some (.arr fl' sz rows)=>bO (Nat.beq sz i.size&&(fl||!fl')) (Nat.ble src.length ext=true∧(Nat.ble (off + len + ext) rows.length=true ∧
                bk (S.o.set id (.arr (fl'&&fl) sz (rows.take (off + len)++(src++rows.drop (off + len + src.length))))) fun o=>k { t:=S.t,l:=S.l,o:=o,b:=S.b } (.msl id off (len + src.length) (ext - src.length))))
            | _=>ad 49
          | _=>ad 50))
      | none=>ad 51
    | _=>ad 52
  | _=>ad 53
def qy (P:Program) (ts:List TypeId) (base x:AV) (k:AV→Prop):Prop :=
  match ts with
  | [t0,t1] =>
    match P.underlying t0 with
    | some (.slice e) =>
      match P.info? e with
      | some i=>bO (Nat.blt 0 i.size&&Nat.blt 0 i.bytes&&FI i&&(match P.underlying t1 with | some (.slice _) | some .string=>true | _=>false)) (qx i.size H_ x fun fl src=>bO fl (fo src=true∧(Nat.ble (src.length * i.bytes) 140737488355328=true∧(
          match base with
          | .nilsl | .esl=>k (.sl src)
          | _=>ad 254))))
      | none=>ad 255
    | _=>ad 256
  | _=>ad 257
def Gw (C:Ctx) (o:Oper) (vs:List AV) (k:AV→Prop):Prop :=
  match o.op,vs with
  | .call c,[x,y]=>match c.callee with
    | .builtin .append=>qy C.P c.argTypes.toList x y k
    | _=>ad 258
  | _,_=>ad 259
def qz (P:Program) (ts:List TypeId) (base:AV) (n:Int) (S:St) (k:St→AV→Prop):Prop :=
  match ts with
  | [t0,t1] =>
    match P.underlying t0,P.underlying t1 with
    | some (.slice e),some (.int _) =>
      match P.info? e with
      | some i=>(Nat.blt 0 i.size&&Nat.blt 0 i.bytes&&decide (0<n)&&decide (n * i.bytes≤140737488355328)&&decide (n≤140737488355328))=true∧(cO P e fun z=>bO (z.all (dA 2)) (
          match base with
          | .nilsl | .esl=>bk (S.o++[.arr true i.size (List.replicate n.toNat z)]) fun o=>k { t:=S.t,l:=S.l,o:=o,b:=S.b } (.mf S.o.length)
          | _=>ad 250))
      | none=>ad 251
    | _,_=>ad 252
  | _=>ad 253
def kA (P:Program) (t:TypeId) (l c:AV) (S:St) (k:St→AV→Prop):Prop :=
  match P.underlying t with
  | some (.slice e) =>
    match P.info? e with
    | some i=>intOf l fun l=>intOf c fun c=>(decide (0≤l)&&decide (l≤c)&&decide (i.bytes * c≤140737488355328)&&decide (c≤140737488355328)&&Nat.blt 0 i.size)=true ∧
        (cO P e fun z=>bO (z.all (dA 2)) (bk (S.o++[.arr true i.size (List.replicate l.toNat z)]) fun o=>k { t:=S.t,l:=S.l,o:=o,b:=S.b } (.mf S.o.length)))
    | none=>ad 61
  | _=>ad 62
def AM (P:Program) (ts:List TypeId) (x y:AV) (M:St) (k:AV→St→Prop):Prop :=
  match ts with
  | t::_ =>
    match P.underlying t with
    | some (.slice e) =>
      match P.info? e with
      | some i=>bO (Nat.blt 0 i.size) (qx i.size M y fun fl src=>fo src=true∧bO (!(Hf y)) (
          match x with
          | .mf id=>match M.o[id]? with
            | some (.arr fl' sz rows)=>bO (Nat.beq sz i.size) (bk (M.o.set id (.arr (fl'&&fl) sz (src.take rows.length++rows.drop src.length))) fun o=>k (.v (.int .i64 ((min src.length rows.length:Nat):Int))) { t:=M.t,l:=M.l,o:=o,b:=M.b })
            | _=>ad 243
          | .msl id off len _=>match M.o[id]? with
            | some (.arr fl' sz rows)=>bO (Nat.beq sz i.size) (Nat.ble (off + len) rows.length=true∧(bk (M.o.set id (.arr (fl'&&fl) sz (rows.take off++(src.take len++rows.drop (off + min src.length len))))) fun o=>k (.v (.int .i64 ((min src.length len:Nat):Int))) { t:=M.t,l:=M.l,o:=o,b:=M.b }))
            | _=>ad 244
          | _=>ad 245))
      | none=>ad 246
    | _=>ad 247
  | []=>ad 248
def AO (C:Ctx) (A:dT) (o:Oper) (f:AV) (args:List AV) (S:St) (k:St→AV→Prop):Prop :=
  match f with
  | .fn fid first cap =>
    match C.pure fid with
    | true=>iz S.o (first++args++cap) fun as=>rT C A o fid as fun r =>
        match r9 4 r with
        | true=>k S r
        | false=>fQ ((first++args++cap).flatMap (dB S.o 6)) S fun S'=>k S' r
    | false=>bO ((first++args++cap).all (rK 4)) (match oU A.sto (keyOf o) with
      | some (r,o')=>(C.scall fid (first++args++cap) S.o fun r' o''=>r'=r∧o''=o')∧jk (cf S.o o' 0) S.t S.l fun t l=>k { t:=t,l:=l,o:=o',b:=S.b } r
      | none=>C.scall fid (first++args++cap) S.o fun r o'=>jk (cf S.o o' 0) S.t S.l fun t l=>k { t:=t,l:=l,o:=o',b:=S.b } r)
  | _=>ad 97
def kB (P:Program) (R:List (AV×AV)) (t:TypeId) (m key x:AV) (S:St) (K:St→Prop):Prop :=
  match P.underlying t with
  | some (.map kt _) =>
    match m with
    | .mp id=>match S.o[id]? with
      | some (.mapo fl es)=>bO (rK 4 x) ((∀ K':List (AV×AV)→Prop,K' R→gM P kt key es fun kv r=>bO (wR P kt kv) (
          match r with
          | some i=>bO (Instr.sameBits 10000 ((es[i]?.bind fun e=>rL e.1).getD (.bool false)) kv) (K' (es.set i (key,x)))
          | none=>K' (es++[(key,x)])))∧bk (S.o.set id (.mapo (fl&&dA 4 x) R)) fun o=>K { t:=S.t,l:=S.l,o:=o,b:=S.b })
      | _=>ad 106
    | _=>ad 107
  | _=>ad 108
def EX (C:Ctx) (A:dT) (pl:bV) (o:Oper) (S:St) (K:St→Prop):Prop :=
  match o.op with
  | .mapUpdate t m key x=>match oU A.mpr (keyOf o) with
    | some R=>cY S m fun m=>cY S key fun key=>cY S x fun x=>kB C.P R t m key x S fun S'=>bN o.dst .bad S' K
    | none=>uU C pl o S K
  | .insert t m key x=>match oU A.mpr (keyOf o) with
    | some R=>cY S m fun m=>cY S key fun key=>cY S x fun x=>kB C.P R t m key x S fun S'=>bN o.dst .bad S' K
    | none=>uU C pl o S K
  | .makeSlice t l c=>match ep A.chk (keyOf o) with
    | true=>cY S l fun l=>cY S c fun c=>kA C.P t l c S fun S' a=>bN o.dst a S' K
    | false=>uU C pl o S K
  | .call c=>match c.callee with
    | .builtin .append=>match ep A.chk (keyOf o) with
      | true=>dK S c.args.toList fun as=>match as with
        | [x,.v (.int _ n)]=>qz C.P c.argTypes.toList x n S fun S' r=>bN o.dst r S' K
        | [x,y]=>tU C.P c.argTypes.toList x y S fun S' r=>bN o.dst r S' K
        | _=>ad 210
      | false=>uU C pl o S K
    | .builtin .copy=>dK S c.args.toList fun as=>match as with
        | [x,y]=>AM C.P c.argTypes.toList x y S fun r S'=>bN o.dst r S' K
        | _=>ad 249
    | .value f=>cY S f fun fv=>dK S c.args.toList fun as=>AO C A o fv as S fun S' r=>bN o.dst r S' K
    | _=>uU C pl o S K
  | _=>uU C pl o S K
def FN (A:dT) (dst:Option Tmp) (S:St) (K:St→Prop):Prop :=
  match dst with
  | none=>K S
  | some d=>match oU A.val d with
    | none=>K S
    | some v=>nS S.t d fun a=>a=v∧p5 S.t d v fun t=>K { t:=t,l:=S.l,o:=S.o,b:=S.b }
def DI (A:dT) (key:Nat) (S:St) (K:St→Prop):Prop :=
  match oU A.obr key with
  | none=>K S
  | some (id,R)=>match S.o[id]? with
    | some (.arr fl sz rows)=>rows=R∧bk (S.o.set id (.arr fl sz R)) fun o=>K { t:=S.t,l:=S.l,o:=o,b:=S.b }
    | _=>ad 430
def DJ (C:Ctx) (A:dT) (pl:bV) (o:Oper) (S:St) (K:St→Prop):Prop :=
  dK S o.op.operands.toList fun vs=>Gu C A pl o vs fun r=>bN o.dst r S K
def DK (C:Ctx) (A:dT) (o:Oper) (S:St) (K:St→Prop):Prop :=
  dK S o.op.operands.toList fun vs=>Gv C A o vs (da S) fun r=>bN o.dst r S K
def FO (C:Ctx) (A:dT) (o:Oper) (S:St) (K:St→Prop):Prop :=
  dK S o.op.operands.toList fun vs=>EW C A o vs (da S) fun r M=>bN o.dst r (e_ S M) K
def nk (row:Option (List (List AV))) (M:St) (id i:Nat) (k:AV→St→Prop):Prop :=
  match M.o[id]? with
  | some (.own ks sz cells none)=>match row with
    | none=>cells[i]?=some none∧k .nilsl M
    | some rows=>cells[i]?=some (some rows)∧bk (M.o.set id (.own ks sz cells (some (i,.mf M.o.length)))++[.arr true sz rows]) fun o=>k (.mf M.o.length) { t:=M.t,l:=M.l,o:=o,b:=M.b }
  | _=>ad 323
def qA (P:Program) (a:vi) (t:TypeId) (same:Bool) (M:St) (id i:Nat) (k:AV→St→Prop):Prop :=
  match same with
  | true=>match M.o[id]? with
    | some (.own none _ cells (some (j,a)))=>(Nat.beq i j&&Nat.blt j cells.length)=true∧hP P t [a] 0 fun r=>k r M
    | _=>ad 324
  | false=>nk a.row M id i fun a M'=>hP P t [a] 0 fun r=>k r M'
def oM (P:Program) (t:TypeId) (M:St) (id i:Nat) (v:AV) (K:St→Prop):Prop :=
  match P.info? t,M.o[id]? with
  | some inf,some (.own none sz cells hole)=>bO (p9 v&&Nat.beq inf.size 1) ((Nat.blt i cells.length&&mo hole i)=true∧(bk (M.o.set id (.own none sz cells (some (i,v)))) fun o=>K { t:=M.t,l:=M.l,o:=o,b:=M.b }))
  | _,_=>ad 325
def qB (P:Program) (j:Nat) (a:vi) (t:TypeId) (l c:AV) (M:St) (k:AV→St→Prop):Prop :=
  match P.underlying t with
  | some (.slice e) =>
    match P.info? e,P.underlying e with
    | some i,some (.slice e2)=>match P.info? e2 with
      | some i2=>intOf l fun l=>intOf c fun c=>(decide (0≤l)&&decide (l≤c)&&decide (i.bytes * c≤140737488355328)&&decide (c≤140737488355328)&&Nat.blt 0 i.size)=true∧bO (Nat.beq i.size 1&&Nat.blt 0 i2.size)
          (cO P e fun z=>match z with
            | [.nilsl]=>List.replicate l.toNat none=a.cs∧nU j M.o M.b (.own none i2.size a.cs none) fun o=>k (.mf j) { t:=M.t,l:=M.l,o:=o,b:=M.b }
            | _=>ad 325)
      | none=>ad 326
    | _,_=>ad 61
  | _=>ad 62
def qC (P:Program) (a:vi) (t:TypeId) (m key:AV) (ok:Bool) (M:St) (k:AV→St→Prop):Prop :=
  match P.underlying t with
  | some (.map kt e)=>match m with
    | .mp id=>match M.o[id]? with
      | some (.own (some ks) _ _ none)=>match a.at_ with
        | some i=>(∀ K':Option Nat→Prop,K' (some i)→gM P kt key (kp ks) fun _ r=>K' r)∧nk a.row M id i fun a M'=>mm ok a true fun r=>k r M'
        | none=>(∀ K':Option Nat→Prop,K' none→gM P kt key (kp ks) fun _ r=>K' r)∧hU P e ok fun r=>k r M
      | _=>ad 333
    | _=>ad 334
  | _=>ad 335
def Hr (M:St) (id sz:Nat) (cells:List (Option (List (List AV)))) (hole:Option (Nat×AV)) (x:AV) (K:St→Prop) (r:Option Nat) (ks:List AV):Prop :=
  match r with
  | some i=>mo hole i=true∧(bk (M.o.set id (.own (some ks) sz cells (some (i,x)))) fun o=>K { t:=M.t,l:=M.l,o:=o,b:=M.b })
  | none=>match hole with
    | none=>bk (M.o.set id (.own (some ks) sz (cells++[none]) (some (cells.length,x)))) fun o=>K { t:=M.t,l:=M.l,o:=o,b:=M.b }
    | some _=>ad 339
def pH (P:Program) (a:vi) (t:TypeId) (m key x:AV) (M:St) (K:St→Prop):Prop :=
  match P.underlying t with
  | some (.map kt _)=>match m with
    | .mp id=>match M.o[id]? with
      | some (.own (some ks) sz cells hole)=>bO (p9 x) ((∀ K':Option Nat→List AV→Prop,K' a.at_ a.ks→gM P kt key (kp ks) fun kv r=>bO (wR P kt kv) (match r with
          | some i=>bO (Instr.sameBits 10000 ((ks[i]?.bind rL).getD (.bool false)) kv) (K' (some i) (ks.set i key))
          | none=>K' none (ks++[key])))∧Hr M id sz cells hole x K a.at_ a.ks)
      | _=>ad 340
    | _=>ad 341
  | _=>ad 342
def Bq (P:Program) (A:dT) (pl:bV) (o:Oper) (vs:List AV) (M:St) (k:AV→St→Prop):Prop :=
  match oU A.own (keyOf o) with
  | none=>kh P pl o vs M k
  | some a=>match o.op,vs with
    | .load t _,[p]=>iE M p fun id i=>qA P a t (Ba pl o) M id i k
    | .store t _ _,[p,v]=>iE M p fun id i=>oM P t M id i v fun M'=>k .bad M'
    | .makeSlice t _ _,[l,c]=>qB P (Bb pl.ix o.dst M.o.length) a t l c M k
    | .lookup t _ _ ok,[m,key]=>qC P a t m key ok M k
    | .mapUpdate t _ _ _,[m,key,x]=>pH P a t m key x M fun M'=>k .bad M'
    | .insert t _ _ _,[m,key,x]=>pH P a t m key x M fun M'=>k .bad M'
    | _,_=>ad 343
def nm (A:dT) (S:St) (id:Nat) (K:St→Prop):Prop :=
  match oU A.own (id + 2000000) with
  | none=>hZ S id K
  | some a=>match S.o[id]? with
    | some (.own ks sz cells (some (j,.mf k)))=>match S.o[k]? with
      | some (.arr true sz' rows)=>bO (Nat.beq sz' sz) (Nat.blt j cells.length=true∧(cells.set j (some rows)=a.cs∧fQ [k] S fun S1=>bk (S1.o.set id (.own ks sz a.cs none)) fun o=>K { t:=S1.t,l:=S1.l,o:=o,b:=S1.b }))
      | _=>ad 320
    | some (.own ks sz cells (some (j,.nilsl)))=>Nat.blt j cells.length=true∧(cells.set j none=a.cs∧(bk (S.o.set id (.own ks sz a.cs none)) fun o=>K { t:=S.t,l:=S.l,o:=o,b:=S.b }))
    | _=>ad 321
def tV (A:dT):List Nat→St→(St→Prop)→Prop
  | [],S,K=>K S
  | id::ids,S,K=>nm A S id fun S'=>tV A ids S' K
def pI (A:dT) (S:St) (id:Nat) (K:St→Prop):Prop :=
  match oU A.mpr (id + 2000000) with
  | none=>jy S id K
  | some R=>match S.o[id]? with
    | some (.own (some ks) _ cells none)=>mn ks cells=R∧(bk (S.o.set id (.mapo true R)) fun o=>K { t:=S.t,l:=S.l,o:=o,b:=S.b })
    | _=>ad 344
def qD (A:dT):List Nat→St→(St→Prop)→Prop
  | [],S,K=>K S
  | id::ids,S,K=>pI A S id fun S'=>qD A ids S' K
def tY (A:dT) (pl:bV) (id:Nat) (S:St) (K:St→Prop):Prop :=
  match ep pl.cl id with
  | false=>K S
  | true=>tV A (z5 S.o.length) S fun S1=>match ep pl.fr id with
    | false=>K S1
    | true=>qD A (z5 S1.o.length) S1 K
def AP (C:Ctx) (A:dT) (o:Oper) (vs:List AV) (M:St) (k:AV→St→Prop):Prop :=
  match o.op,vs with
  | .makeSlice t _ _,[l,c]=>match ep A.chk (keyOf o) with
    | true=>kA C.P t l c M fun M' r=>k r M'
    | false=>kq C o vs M k
  | .call c,.fn fid first cap::as=>match c.callee with
    | .value _=>bO (!(C.pure fid)&&(first++as++cap).all (rK 4)) (match oU A.sto (keyOf o) with
      | some (r,o')=>(C.scall fid (first++as++cap) M.o fun r' o''=>r'=r∧o''=o')∧bO (cf M.o o' 0).isEmpty (k r { t:=M.t,l:=M.l,o:=o',b:=M.b })
      | none=>C.scall fid (first++as++cap) M.o fun r o'=>bO (cf M.o o' 0).isEmpty (k r { t:=M.t,l:=M.l,o:=o',b:=M.b }))
    | _=>ad 310
  | _,_=>EW C A o vs M k
def DL (C:Ctx) (A:dT) (pl:bV) (o:Oper) (vs:List AV) (M:St) (k:AV→St→Prop):Prop :=
  match fE pl o with
  | true=>Bq C.P A pl o vs M k
  | false=>AP C A o vs M k
def FP (C:Ctx) (A:dT) (pl:bV) (o:Oper) (S:St) (K:St→Prop):Prop :=
  dK S o.op.operands.toList fun vs=>Bq C.P A pl o vs (da S) fun r M=>bN o.dst r (e_ S M) K
def DN (C:Ctx) (A:dT) (pl:bV) (o:Oper) (S:St) (K:St→Prop):Prop :=
  dK S o.op.operands.toList fun vs=>DL C A pl o vs (da S) fun r M=>bN o.dst r (e_ S M) K
def FQ (C:Ctx) (o:Oper) (S:St) (K:St→Prop):Prop :=
  dK S o.op.operands.toList fun vs=>Gw C o vs fun r=>bN o.dst r S K
def ma (A:dT) (o:Oper) (K:St→Prop) (S:St):Prop:=FN A o.dst S fun S'=>DI A (keyOf o) S' K
def Gx (C:Ctx) (A:dT) (pl:bV) (o:Oper) (S:St) (K:St→Prop):Prop :=
  match C8 o with
  | 0=>DJ C A pl o S (ma A o K)
  | 1=>DK C A o S (ma A o K)
  | 2=>FO C A o S (ma A o K)
  | _=>EX C A pl o S (ma A o K)
def FR (C:Ctx) (A:dT) (pl:bV) (o:Oper) (S:St) (K:St→Prop):Prop :=
  match fE pl o with
  | true=>FP C A pl o S (ma A o K)
  | false=>Gx C A pl o S K
def zk (C:Ctx) (A:dT) (pl:bV) (o:Oper) (S:St) (K:St→Prop):Prop :=
  match fp pl o with
  | 0=>DJ C A pl o S (ma A o K)
  | 1=>DK C A o S (ma A o K)
  | 2=>DN C A pl o S (ma A o K)
  | 4=>match o.dst with
    | some d=>bN o.dst (.ptr (.L d) 0 0) S K
    | none=>ad 217
  | 5=>FQ C o S (ma A o K)
  | _=>match yh pl o with
    | true=>ad 219
    | false=>EX C A pl o S (ma A o K)
def Gy (op:BinOp):Bool :=
  match op with
  | .eql | .neq=>true
  | _=>false
def wx (op:BinOp):Bool :=
  match op with
  | .eql=>true
  | _=>false
def FS (P:Program) (o:Oper) (S:St) (K:St→Prop):Prop :=
  match o.op with
  | .binOp op t x (.const (.slice none 0 0)) _=>match P.underlying t with
    | some (.slice _)=>cY S x fun a=>match a with
      | .sl rows=>bO (Gy op) ((rows=[]→bN o.dst (.v (.bool (wx op))) S K)∧bN o.dst (.v (.bool (!(wx op)))) S K)
      | _=>ad 460
    | _=>ad 461
  | _=>ad 462
def xG (C:Ctx) (A:dT) (pl:bV) (all:Array Oper):List Oper→St→(St→Prop)→Prop
  | [],S,K=>K S
  | o::rest,S,K =>
    match o.guard with
    | none=>match ep A.dem (keyOf o) with
      | true=>FS C.P o S fun S'=>xG C A pl all rest S' K
      | false=>FR C A pl o S fun S'=>xG C A pl all rest S' K
    | some (j,want) =>
      match o6 all j with
      | none=>ad 218
      | some d=>fS d S fun b S1=>gsel b want (FR C A pl o S1 fun S'=>xG C A pl all rest S' K) (bN o.dst (.tup []) S1 fun S'=>xG C A pl all rest S' K)
def Iu (C:Ctx) (A:dT) (pl:bV) (all:Array Oper) (o:Oper) (S:St) (K:St→Prop):Prop :=
  match o.guard with
  | none=>bO (iF pl all o S) (zk C A pl o S K)
  | some (j,want) =>
    match o6 all j with
    | none=>ad 218
    | some d=>fS d S fun b S1=>gsel b want (bO (iF pl all o S1) (zk C A pl o S1 K)) (bN o.dst (.tup []) S1 K)
def Hg (C:Ctx) (A:dT) (pl:bV) (ops:Array Oper) (i:Nat) (S:St) (K:St→Prop):Prop :=
  match ops[i]? with
  | none=>ad 303
  | some o=>Iu C A pl ops o S K
def oT (C:Ctx) (A:dT) (pl:bV) (ops:Array Oper):PT→Option (St×Prop)→St→(St→Prop)→Prop
  | .done,m,S,K=>match m with
    | none=>K S
    | some (_,X)=>X
  | .go i t,m,S,K=>match m with
    | none=>Hg C A pl ops i S fun S'=>oT C A pl ops t none S' K
    | some (_,_)=>ad 305
  | .alt i t r,m,S,K=>match m with
    | none=>Hg C A pl ops i S fun S'=>oT C A pl ops t none S' fun S1=>oT C A pl ops r (some (S1,K S1)) S K
    | some (S1,X)=>Hg C A pl ops i S fun S'=>oT C A pl ops t none S' fun S2=>S2=S1∧oT C A pl ops r (some (S1,X)) S K
def nM (f:Nat→Option PT):List Nat→Option PT
  | []=>some .done
  | i::is=>match f i with
    | some t=>match nM f is with
      | some r=>some (.alt i t r)
      | none=>none
    | none=>none
def KS:List Nat→Bool
  | [_,_] | [_,_,_] | [_,_,_,_]=>true
  | _=>false
def jr (pl:bV) (ops:Array Oper) (ws:List Nat):Nat→Nat→Array Bool→Option PT
  | 0,_,listed=>match Region.ready .any ops listed with
    | []=>some .done
    | _::_=>none
  | n + 1,a,listed =>
    match Region.ready .any ops listed with
    | []=>some .done
    | r::rs=>match mr pl ops ws listed (r::rs) with
      | some k=>match jr pl ops ws n a (listed.setIfInBounds k true) with | some t=>some (.go k t) | none=>none
      | none=>match rs with
        | []=>match jr pl ops ws n a (listed.setIfInBounds r true) with | some t=>some (.go r t) | none=>none
        | _::_=>match KS (r::rs),a with
          | true,a + 1=>nM (fun i=>jr pl ops ws n a (listed.setIfInBounds i true)) (r::rs)
          | _,_=>none
def wy (pl:bV) (ops:Array Oper) (ws:List Nat):Nat→Array Bool→Option PT
  | 0,listed=>jr pl ops ws 0 6 listed
  | n + 1,listed=>match mw ops listed (Region.ready .any ops listed) with
    | some i=>match wy pl ops ws n (listed.setIfInBounds i true) with | some t=>some (.go i t) | none=>none
    | none=>jr pl ops ws (n + 1) 6 listed
def t8 (pl:bV) (ops:Array Oper):Option PT :=
  match Ia ops with
  | false=>none
  | true=>match pl.cl with
    | []=>jr pl ops (cg ops.toList []) ops.size 3 (Array.replicate ops.size false)
    | _::_=>wy pl ops (cg ops.toList []) ops.size (Array.replicate ops.size false)
def jm (pl:bV) (ord:List (Nat×PT)):Code→Bool
  | .region id ops true=>match oU ord id,t8 pl ops with
    | some is,some js=>AK is js
    | _,_=>false
  | .seq a b=>jm pl ord a&&jm pl ord b
  | .cond _ a b=>jm pl ord a&&jm pl ord b
  | .block _ c=>jm pl ord c
  | .loop c=>jm pl ord c
  | _=>true
def nN:Code→Nat
  | .region id _ _=>id
  | .seq a _=>nN a
  | .cond _ a _=>nN a
  | .block _ c=>nN c
  | .loop c=>nN c
  | _=>0
def Co (A:Gt) (id:Nat) (S:St) (K:St→Prop):Prop :=
  match oU A.wr id with
  | some L=>DD L S K
  | none=>K S
def EY:Type:=Code→St→(Ex→St→Prop)→Prop
def t_ (C:Ctx) (cd:EY) (A:Gt) (pl:bV):Code→St→(Ex→St→Prop)→Prop
  | .skip,S,K=>K .nrm S
  | .region id ops draw,S,K =>
    match draw with
    | false=>xG C (Cn A id) pl ops ops.toList S fun S'=>tY (Cn A id) pl id S' fun S''=>Co A id S'' (K .nrm)
    | true=>match oU A.ord id with
      | some is=>bO (qL pl ops) (uW C.P (cy ops.toList) S fun S1=>oT C (Cn A id) pl ops is none S1 fun S'=>jT (cy ops.toList) S' (tY (Cn A id) pl id S' fun S''=>Co A id S'' (K .nrm)))
      | none=>ad 440
  | .seq a b,S,K=>t_ C cd A pl a S fun e S'=>match e with
    | .nrm=>match oU A.cut (nN b) with
      | some (W,L,e1,S1)=>DD L (wk W S') fun S2=>cd b S2 (fun e' S3=>e'=e1∧S3=S1)∧K e1 S1
      | none=>t_ C cd A pl b S' K
    | .ex i=>K (.ex i) S'
    | .ret=>K .ret S'
  | .cond c x y,S,K=>mh c S fun b S'=>match b with
    | true=>t_ C cd A pl x S' K
    | false=>t_ C cd A pl y S' K
  | .block id c,S,K=>t_ C cd A pl c S fun e S'=>match e with
    | .ex i=>match Nat.beq i id with | true=>K .nrm S' | false=>K (.ex i) S'
    | .nrm=>K .nrm S'
    | .ret=>K .ret S'
  | .loop c,S,K=>match oU A.lps (nN c) with
    | some (W,L,e,S1)=>DD L (wk W S) fun S2=>(C.loop pl c S2 fun e' S'=>e'=e∧S'=S1)∧K e S1
    | none=>C.loop pl c S K
  | .exit id,S,K=>K (.ex id) S
  | .ret,S,K=>K .ret S
  | _,_,_=>ad 119
def sub:Code→List Nat→Code
  | c,[]=>c
  | .seq a _,0::p=>sub a p
  | .seq _ b,_::p=>sub b p
  | .cond _ a _,0::p=>sub a p
  | .cond _ _ b,_::p=>sub b p
  | .block _ c,_::p=>sub c p
  | .loop c,_::p=>sub c p
  | c,_=>c
def bK (P:Program) (f:Nat):Code :=
  match P.funcs[f]? with
  | some fn=>fn.body.getD .skip
  | none=>.skip
def dV (S S':St):Prop:=∀ (G:Gh) (E:Env) (a:Act) (w:World),ah G pn E S w→TR E S.t a→∃ E',ah G pn E' S' w∧TR E' S'.t a
def Gz:Ex→Nat
  | .nrm=>0
  | .ret=>1
  | .ex i=>i + 2
def GA (C:Ctx) (cd:EY) (A:Gt) (pl:bV) (we:List (Nat×(Wk×Le))) (c:Code) (S:St) (K:Ex→St→Prop):Prop :=
  t_ C cd A pl c S fun e S'=>match oU we (Gz e) with
    | some (W,L)=>DD L (wk W S') (K e)
    | none=>K e S'
def Kq:List (Nat×AV)→Nat→Nat→List AV
  | _,_,0=>[]
  | xs,i,n + 1=>(match oU xs i with | some a=>a | none=>.bad)::Kq xs (i + 1) n
def cx (n:Nat) (ts:List (Nat×AV)) (l:List (Nat×List AV)) (o:List Ob) (b:Nat):St:={ t:=Kq ts 0 n,l:=l,o:=o,b:=b }
theorem dV.refl (S:St):dV S S:=fun _ E _ _ h k=>⟨E,h,k⟩
theorem dV.trans {S S' S'':St} (h:dV S S') (k:dV S' S''):dV S S'':=fun G E a w hM ht=>by
  obtain ⟨E1,h1,h2⟩:=h G E a w hM ht
  exact k G E1 a w h1 h2
theorem cV.refl (a:AV):cV a a:=fun _ _ h=>h
theorem cV.trans {a b c:AV} (h:cV a b) (k:cV b c):cV a c:=fun _ _ hv=>k _ _ (h _ _ hv)
theorem cV.bad (a:AV):cV a .bad:=fun _ _ _=>.bad _ _
theorem cV.nil:cV .nilsl (.sl []):=fun E u h=>by cases h; exact .sln E
theorem cV.esl:cV .esl (.sl []):=fun E u h=>by
  cases h with
  | esln=>exact .sln E
  | esl _ a=>exact .sle E a 0
theorem cR.refl (r:List AV):cR r r:=⟨rfl,fun _ _ _ h k=>by rw [h] at k; cases k; exact .refl _⟩
theorem cR.nil:cR [] []:=.refl _
theorem cR.cons {a b:AV} {r r':List AV} (h:cV a b) (k:cR r r'):cR (a::r) (b::r') :=
  ⟨by simp [k.1],fun i x y h1 h2=>by
    cases i with
    | zero=>simp at h1 h2; subst h1 h2; exact h
    | succ i=>exact k.2 i x y (by simpa using h1) (by simpa using h2)⟩
theorem cR.vrs {r r':List AV} {E:Env} {us:List Value} (h:cR r r') (hv:cq E r us):cq E r' us :=
  ⟨by rw [← h.1]; exact hv.1,fun m c u h1 h2=>by
    have hm:m<r.length:=by rw [h.1]; exact (List.getElem?_eq_some_iff.1 h1).1
    exact h.2 m _ c (List.getElem?_eq_getElem hm) h1 _ _ (hv.2 m _ u (List.getElem?_eq_getElem hm) h2)⟩
theorem cV.agg {r r':List AV} (h:cR r r'):cV (.agg r) (.agg r'):=fun E u hv=>by
  obtain ⟨us,rfl,h1⟩:=hv.aggI
  exact cq.aggV (h.vrs h1)
theorem cV.tup {r r':List AV} (h:cR r r'):cV (.tup r) (.tup r'):=fun E u hv=>by
  obtain ⟨us,rfl,h1⟩:=hv.tupI
  have:=h.vrs h1
  exact .tup us (by simpa using this.1) (fun m c u h1 h2=>this.2 m c u h1 (by simpa using h2))
theorem cV.fptr {r r':List AV} {j:Nat} (h:cR r r'):cV (.fptr r j) (.fptr r' j):=fun E u hv=>by
  cases hv with
  | fptr j us h1 h2 h3 h4 =>
    have:=h.vrs (E:=E.fz) (us:=us) ⟨h1.symm,h2⟩
    exact .fptr j us this.1.symm this.2 h3 h4
theorem gX.refl (r:List (List AV)):gX r r:=⟨rfl,fun _ _ _ h k=>by rw [h] at k; cases k; exact .refl _⟩
theorem gX.nil:gX [] []:=.refl _
theorem gX.cons {a b:List AV} {r r':List (List AV)} (h:cR a b) (k:gX r r'):gX (a::r) (b::r') :=
  ⟨by simp [k.1],fun i x y h1 h2=>by
    cases i with
    | zero=>simp at h1 h2; subst h1 h2; exact h
    | succ i=>exact k.2 i x y (by simpa using h1) (by simpa using h2)⟩
theorem gX.app {a b r r':List (List AV)} (h:gX a b) (k:gX r r'):gX (a++r) (b++r'):=by
  induction a generalizing b with
  | nil =>
    have:b=[]:=List.eq_nil_of_length_eq_zero h.1.symm
    subst this
    exact k
  | cons x a ih =>
    cases b with
    | nil=>exact absurd h.1 (by simp)
    | cons y b=>exact .cons (h.2 0 x y rfl rfl) (ih ⟨by simpa using h.1,fun i p q h1 h2=>h.2 (i + 1) p q (by simpa using h1) (by simpa using h2)⟩)
theorem cR.app {a b r r':List AV} (h:cR a b) (k:cR r r'):cR (a++r) (b++r'):=by
  induction a generalizing b with
  | nil =>
    have:b=[]:=List.eq_nil_of_length_eq_zero h.1.symm
    subst this
    exact k
  | cons x a ih =>
    cases b with
    | nil=>exact absurd h.1 (by simp)
    | cons y b=>exact .cons (h.2 0 x y rfl rfl) (ih ⟨by simpa using h.1,fun i p q h1 h2=>h.2 (i + 1) p q (by simpa using h1) (by simpa using h2)⟩)
theorem gX.flat {r r':List (List AV)} (h:gX r r'):cR r.flatten r'.flatten:=by
  induction r generalizing r' with
  | nil =>
    have:r'=[]:=List.eq_nil_of_length_eq_zero h.1.symm
    subst this
    exact .refl _
  | cons x a ih =>
    cases r' with
    | nil=>exact absurd h.1 (by simp)
    | cons y b =>
      have h1:=h.2 0 x y rfl rfl
      have h2:=ih (r':=b) ⟨by simpa using h.1,fun i p q h1 h2=>h.2 (i + 1) p q (by simpa using h1) (by simpa using h2)⟩
      rw [List.flatten_cons,List.flatten_cons]
      have app:∀ {a b r r':List AV},cR a b→cR r r'→cR (a++r) (b++r'):=by
        intro a b r r' h k
        induction a generalizing b with
        | nil =>
          have:b=[]:=List.eq_nil_of_length_eq_zero h.1.symm
          subst this
          exact k
        | cons x a ih =>
          cases b with
          | nil=>exact absurd h.1 (by simp)
          | cons y b=>exact .cons (h.2 0 x y rfl rfl) (ih ⟨by simpa using h.1,fun i p q h1 h2=>h.2 (i + 1) p q (by simpa using h1) (by simpa using h2)⟩)
      exact app h1 h2
theorem gX.lens {r r':List (List AV)} {sz:Nat} (h:gX r r') (hl:∀ x∈r,x.length=sz):∀ x∈r',x.length=sz:=by
  intro x hx
  obtain ⟨i,hi⟩:=List.getElem?_of_mem hx
  have hlt:i<r.length:=by rw [h.1]; exact (List.getElem?_eq_some_iff.1 hi).1
  rw [← (h.2 i _ x (List.getElem?_eq_getElem hlt) hi).1]
  exact hl _ (List.getElem_mem hlt)
theorem cV.sl {r r':List (List AV)} (h:gX r r'):cV (.sl r) (.sl r'):=fun E u hv=>by
  cases hv with
  | sln =>
    have:r'=[]:=List.eq_nil_of_length_eq_zero h.1.symm
    subst this
    exact .sln E
  | sle _ a cap =>
    have:r'=[]:=List.eq_nil_of_length_eq_zero h.1.symm
    subst this
    exact .sle E a cap
  | sl us h1 h2 h3 h4 h5 h6 h7 =>
    have hf:=h.flat
    have:=hf.vrs (E:=E.fz) (us:=us) ⟨h3.symm,h4⟩
    rw [h.1]
    exact .sl us h1 (h.lens h2) this.1.symm this.2 h5 h6 (by rw [← h.1]; exact h7)
theorem Br {ts:List Nat}:∀ {t:List AV} {i j:Nat} {c:AV},(ET ts i t)[j]?=some c→c=.bad∨t[j]?=some c
  | [],_,_,_,h=>by simp [ET] at h
  | x::xs,i,0,c,h=>by
    simp only [ET,List.getElem?_cons_zero,Option.some.injEq] at h
    split at h
    · exact .inr (by rw [← h]; rfl)
    · exact .inl h.symm
  | x::xs,i,j + 1,c,h=>by
    simp only [ET,List.getElem?_cons_succ] at h
    rw [List.getElem?_cons_succ]
    exact Br h
theorem Bt {ts:List Nat}:∀ {t:List AV} {i:Nat},(ET ts i t).length=t.length
  | [],_=>rfl
  | x::xs,i=>by simp [ET,Bt]
theorem DO (ts:List Nat) (S:St):dV S { t:=ET ts 0 S.t,l:=S.l,o:=S.o,b:=S.b }:=fun _ E _ _ hM ht =>
  ⟨E,hM.congr rfl rfl rfl,by rw [Bt]; exact ht.len,fun n c u h1 h2=>by
    rcases Br h1 with h | h
    · rw [h]; exact .bad _ _
    · exact ht.val n c u h h2,ht.df,ht.gt⟩
theorem xH (d:Nat) (S:St):dV S (eq d S):=fun G E a w hM ht=>by
  obtain ⟨E1,h1,h2,_⟩:=oe hM ht d rfl
  exact ⟨E1,h1,h2⟩
theorem pJ:∀ (ds:List Nat) (S:St),dV S (xB ds S)
  | [],S=>.refl S
  | d::ds,S=>(xH d S).trans (pJ ds _)
theorem Cp (i:Nat) (S:St):dV S (dJ i S):=fun _ _ _ _ hM ht =>
  let ⟨h1,h2⟩:=qV hM ht i
  ⟨_,h1,h2⟩
theorem ua:∀ (ds:List Nat) (S:St),dV S (DC ds S)
  | [],S=>.refl S
  | d::ds,S=>(Cp d S).trans (ua ds _)
theorem mW:∀ {os:List Ob} {i:Nat} {x:Ob},xC os=true→os[i]?=some x→x=.dead
  | [],i,x,_,h=>by simp at h
  | .dead::os,0,x,_,h=>by simp at h; exact h.symm
  | .dead::os,i + 1,x,h,h1=>mW (os:=os) (i:=i) h (by simpa using h1)
  | .arr _ _ _::os,_,_,h,_=>by cases h
  | .mapo _ _::os,_,_,h,_=>by cases h
  | .own _ _ _ _::os,_,_,h,_=>by cases h
theorem Cq (n:Nat) (S:St):dV S (Gq n S):=fun _ E _ _ hM ht=>by
  unfold Gq
  split
  · rename_i h
    rw [Bool.and_eq_true] at h
    have hb:=Nat.le_of_ble_eq_true h.2
    have hbl:=hM.bl
    refine ⟨E,⟨hM.hp,hM.os,hM.tape,hM.output,hM.size,hM.keep,hM.F0,hM.Flt,hM.Fnew,hM.own,hM.inj,hM.loc,fun id=>?_,fun id hid=>?_,?_,hM.szs,hM.pk,fun id=>?_⟩,ht⟩
    · have h0:=hM.obj id
      show fb E (S.o.take n)[id]? _
      rw [List.getElem?_take]
      split
      · exact h0
      · rename_i hn
        cases hx:S.o[id]? with
        | none=>rw [hx] at h0; exact h0
        | some x =>
          have:x=.dead:=mW h.1 (i:=id - n) (by rw [List.getElem?_drop]; rw [show n + (id - n)=id by omega]; exact hx)
          rw [hx,this] at h0
          revert h0
          cases E.mu (.O id) with
          | none=>exact fun _=>trivial
          | some _=>exact fun h=>h.elim
    · show (S.o.take n)[id]?=some .dead∨_
      have hid':id<S.b:=hid
      rw [List.getElem?_take,if_pos (by omega)]
      exact hM.old id hid
    · show S.b≤(S.o.take n).length
      rw [List.length_take]
      omega
    · have h0:=hM.ow id
      show dQ E id (S.o.take n)[id]?
      rw [List.getElem?_take]
      split
      · exact h0
      · rename_i hn
        cases hx:S.o[id]? with
        | none=>rw [hx] at h0; exact h0
        | some x =>
          have:x=.dead:=mW h.1 (i:=id - n) (by rw [List.getElem?_drop]; rw [show n + (id - n)=id by omega]; exact hx)
          rw [hx,this] at h0
          exact h0
  · exact ⟨E,hM,ht⟩
theorem ud {G:Gh} {E:Env} {S:St} {w:World} (hM:ah G pn E S w):E.mu (.O S.o.length)=none:=by
  have:=hM.obj S.o.length
  rw [List.getElem?_eq_none (Nat.le_refl _)] at this
  revert this
  cases E.mu (.O S.o.length) with
  | none=>exact fun _=>rfl
  | some _=>exact fun h=>h.elim
theorem zl {G:Gh} {E:Env} {S:St} {w:World} (hM:ah G pn E S w) (sz:Nat) (t:List AV):ah G pn ⟨E.F,aA E.mu (.O S.o.length) .virt,E.h⟩ { t:=t,l:=S.l,o:=S.o++[.arr true sz []],b:=S.b } w:=by
  have hbl:=hM.bl
  refine hM.addkey' (key:=.O S.o.length) (mv:=.virt) (fun _ _=>rfl) (fun _ h=>by cases h) (ud hM) (fun _ _ _ _ h=>by cases h) (fun _ _=>rfl) (fun id hid=>?_) rfl ?_ (fun id h=>?_) (fun _ h=>by cases h) (fun id h=>?_) ?_
  · show (S.o++[_])[id]?=_
    by_cases h:id<S.o.length
    · rw [List.getElem?_append_left h]
    · have hne:id≠S.o.length:=fun e=>hid (by rw [e])
      rw [List.getElem?_eq_none (by simp; omega),List.getElem?_eq_none (by omega)]
  · show S.b≤(S.o++[_]).length
    simp
    omega
  · cases h
    exact hbl
  · cases h
    show fb _ (S.o++[_])[S.o.length]? _
    rw [List.getElem?_append_right (Nat.le_refl _),Nat.sub_self]
    rfl
  · exact hM.ow_push rfl rfl
theorem oN:∀ (ps:List (Nat×Nat)) (S:St),dV S (zj ps S)
  | [],S=>.refl S
  | (d,sz)::ps,S=>by
    unfold zj
    split
    · rename_i hd
      refine dV.trans ?_ (oN ps _)
      intro G E a w hM ht
      refine ⟨_,zl hM sz _,?_⟩
      have hle:LE E ⟨E.F,aA E.mu (.O S.o.length) .virt,E.h⟩:=i_ (ud hM)
      refine ⟨by simpa using ht.len,fun n c u h1 h2=>?_,ht.df,ht.gt.mono hle⟩
      have h1':(S.t.set d (.mf S.o.length))[n]?=some c:=h1
      rw [List.getElem?_set] at h1'
      split at h1'
      · rename_i e
        subst e
        split at h1'
        · cases h1'
          have hv:=ht.val d _ u hd h2
          cases hv
          exact .mfn (by show aA _ _ _ _=_; unfold aA; rw [if_pos rfl])
        · cases h1'
      · exact (ht.val n c u h1' h2).mono hle
    · exact oN ps S
theorem lM:∀ (ps:List (Nat×Nat×Nat)) (S:St),dV S (wv ps S)
  | [],S=>.refl S
  | (d,j,sz)::ps,S=>by
    unfold wv
    split
    · rename_i row hd
      split
      · rename_i hj
        refine dV.trans ?_ (lM ps _)
        intro G E a w hM ht
        have hle:LE E ⟨E.F,aA E.mu (.O S.o.length) .virt,E.h⟩:=i_ (ud hM)
        refine ⟨_,?_,ht.mono hle⟩
        have h0:=zl hM sz S.t
        refine ⟨h0.hp,h0.os,h0.tape,h0.output,h0.size,h0.keep,h0.F0,h0.Flt,h0.Fnew,h0.own,h0.inj,fun e=>?_,h0.obj,h0.old,h0.bl,h0.szs,(fun _ _ h=>by cases h),h0.ow⟩
        have h1:=h0.loc e
        show gj pn _ (aG (oZ S.l d (row.set j (.mf S.o.length))) e) e
        rw [iI hd]
        split
        · rename_i e'
          subst e'
          have h1':gj pn ⟨E.F,aA E.mu (.O S.o.length) .virt,E.h⟩ (aG S.l d) d:=h1
          rw [hd] at h1'
          rcases h1' with ⟨b,h2,h3,h4,us,ty,h5,h6,h7⟩ | ⟨_,h2,_⟩
          · refine .inl ⟨b,by simpa using h2,by simpa using h3,by simp,us,ty,h5,by simpa using h6,fun m c hc=>?_⟩
            have hf:[row.set j (.mf S.o.length)].flatten=row.set j (.mf S.o.length):=by simp
            have hf0:[row].flatten=row:=by simp
            rw [hf,List.getElem?_set] at hc
            split at hc
            · rename_i e'
              subst e'
              split at hc
              · cases hc
                obtain ⟨u,hu,hv⟩:=h7 j .nilsl (by rw [hf0]; exact hj)
                refine ⟨u,hu,?_⟩
                cases hv
                exact .mfn (by show aA _ _ _ _=_; unfold aA; rw [if_pos rfl])
              · cases hc
            · exact h7 m c (by rw [hf0]; exact hc)
          · cases h2
        · exact h1
      · exact lM ps S
    · exact lM ps S
theorem Bu {G:Gh} {E:Env} {S:St} {w:World} {a:Act} (hM:ah G pn E S w) (ht:TR E S.t a) (ids:List Nat):LE (E.fd ids) ⟨FD E ids,iL ids E.mu,E.h⟩∧ah G pn ⟨FD E ids,iL ids E.mu,E.h⟩ (et ids S) w∧TR ⟨FD E ids,iL ids E.mu,E.h⟩ (et ids S).t a:=by
  obtain ⟨hS1,ht1⟩:=kJ (ids:=ids) hM ht
  obtain ⟨hle2,hS2⟩:=hS1.freeze (F':=FD E ids) (fun b h=>.inl h) (fun b h=>by
    rcases h with h | ⟨id,hid,o',s,n,hm⟩
    · exact .inl h
    · obtain ⟨h1,h2,h3⟩:=hM.own _ _ _ _ _ hm
      refine .inr ⟨h2,h3,fun k o'' s' n' h'=>?_⟩
      obtain ⟨h4,h5⟩:=gR h'
      exact h5 id hid (hM.inj _ _ _ _ _ _ _ _ _ h4 hm))
  exact ⟨⟨fun _ h=>h,fun _ _ _ h=>(by cases h),fun _ _=>rfl,fun _ _ _ _ _ _ h=>(by cases h)⟩,hS2,ht1.mono hle2⟩
theorem Cr {S:St} {d j:Nat} {row:List AV} {x y:AV} (hr:aG S.l d=some row) (hj:row[j]?=some x) (hy:zZ S.o 6 x=some y):dV S (Gr (dB S.o 6 x) d j y S):=by
  intro G E a w hM ht
  obtain ⟨hle,hS2,ht2⟩:=Bu hM ht (dB S.o 6 x)
  unfold Gr
  split
  · rename_i row' hr'
    refine ⟨_,⟨hS2.hp,hS2.os,hS2.tape,hS2.output,hS2.size,hS2.keep,hS2.F0,hS2.Flt,hS2.Fnew,hS2.own,hS2.inj,fun e=>?_,hS2.obj,hS2.old,hS2.bl,hS2.szs,(fun _ _ h=>by cases h),hS2.ow⟩,ht2⟩
    show gj pn _ (aG (oZ (et (dB S.o 6 x) S).l d (row'.set j y)) e) e
    rw [iI hr']
    split
    · rename_i e'
      subst e'
      have l1:=hM.loc d
      have l2:=hS2.loc d
      rw [hr] at l1
      rw [hr'] at l2
      rcases l1 with ⟨b,h2,h3,h4,us,ty,h5,h6,h7⟩ | ⟨_,h2,_⟩
      · rcases l2 with ⟨b',k2,k3,k4,us',ty',k5,k6,k7⟩ | ⟨_,k2,_⟩
        · have k2':=(gR k2).1
          rw [h2] at k2'
          injection k2' with k2'
          injection k2' with e1 _ _ _
          subst e1
          have k5':E.h[b]?=_:=k5
          rw [h5] at k5'
          cases k5'
          refine .inl ⟨b,by simpa using k2,by simpa using k3,by simp,us,ty,k5,by simpa using k6,fun m c hc=>?_⟩
          have hf:[row'.set j y].flatten=row'.set j y:=by simp
          have hf0:[row'].flatten=row':=by simp
          rw [hf,List.getElem?_set] at hc
          split at hc
          · rename_i e'
            subst e'
            split at hc
            · cases hc
              have hf1:[row].flatten=row:=by simp
              obtain ⟨u,hu,hv⟩:=h7 j x (by rw [hf1]; exact hj)
              exact ⟨u,hu,(fT hM 6 hy hv (ids:=dB S.o 6 x) (fun _ h=>h)).mono hle⟩
            · cases hc
          · exact k7 m c (by rw [hf0]; exact hc)
        · cases k2
      · cases h2
    · exact hS2.loc e
  · exact ⟨_,hS2,ht2⟩
theorem gU:∀ (ds:List Nat) (S:St),dV S (vh ds S)
  | [],S=>.refl S
  | d::ds,S=>by
    unfold vh
    split
    · split
      · rename_i row hr
        split
        · rename_i x hx
          split
          · rename_i y hy
            exact (Cr hr hx hy).trans (gU ds _)
          · exact gU ds S
        · exact gU ds S
      · exact gU ds S
    · split
      · rename_i x hx
        split
        · rename_i y hy
          refine dV.trans ?_ (gU ds _)
          intro G E a w hM ht
          obtain ⟨hle,hS2,ht2⟩:=Bu hM ht (dB S.o 6 x)
          refine ⟨_,hS2.congr rfl rfl rfl,by simpa using ht2.len,fun n c u h1 h2=>?_,ht2.df,ht2.gt⟩
          have h1':((et (dB S.o 6 x) S).t.set d y)[n]?=some c:=h1
          rw [List.getElem?_set] at h1'
          split at h1'
          · rename_i e
            subst e
            split at h1'
            · cases h1'
              exact (fT hM 6 hy (ht.val d _ u hx h2) (ids:=dB S.o 6 x) (fun _ h=>h)).mono hle
            · cases h1'
          · exact ht2.val n c u h1' h2
        · exact gU ds S
      · exact gU ds S
theorem DR (W:Wk) (S:St):dV S (It W S):=by
  unfold It
  exact (DO W.ts S).trans ((pJ W.ls _).trans ((ua _ _).trans ((Cq _ _).trans ((oN _ _).trans (lM _ _)))))
theorem lN (W:Wk) (S:St):dV S (wk W S):=(gU W.fz S).trans (DR W _)
theorem zm:∀ {xs:List (Nat×AV)} {S:St} {K:St→Prop},Gs xs S K→∃ S',dV S S'∧K S'
  | [],S,K,h=>⟨S,.refl S,h⟩
  | (d,v)::xs,S,K,h=>by
    obtain ⟨a,ha,hl,h⟩:=cr.1 h
    rw [ed] at h
    obtain ⟨S',h1,h2⟩:=zm h
    refine ⟨S',dV.trans ?_ h1,h2⟩
    intro G E act w hM ht
    refine ⟨E,hM.congr rfl rfl rfl,by simpa using ht.len,fun n c u h1 h2=>?_,ht.df,ht.gt⟩
    have h1':(S.t.set d v)[n]?=some c:=h1
    rw [List.getElem?_set] at h1'
    split at h1'
    · rename_i e
      subst e
      split at h1'
      · cases h1'
        exact hl _ _ (ht.val d _ u ha h2)
      · cases h1'
    · exact ht.val n c u h1' h2
theorem zn:∀ {xs:List (Nat×List AV)} {S:St} {K:St→Prop},EU xs S K→∃ S',dV S S'∧K S'
  | [],S,K,h=>⟨S,.refl S,h⟩
  | (d,r)::xs,S,K,h=>by
    unfold EU at h
    split at h
    · rename_i row hd
      obtain ⟨hl,h⟩:=h
      rw [ib] at h
      obtain ⟨S',h1,h2⟩:=zn h
      refine ⟨S',dV.trans ?_ h1,h2⟩
      intro G E act w hM ht
      refine ⟨E,?_,ht⟩
      refine ⟨hM.hp,hM.os,hM.tape,hM.output,hM.size,hM.keep,hM.F0,hM.Flt,hM.Fnew,hM.own,hM.inj,fun e=>?_,hM.obj,hM.old,hM.bl,hM.szs,(fun _ _ h=>by cases h),hM.ow⟩
      have h1:=hM.loc e
      show gj pn _ (aG (oZ S.l d r) e) e
      rw [iI hd]
      split
      · rename_i e'
        subst e'
        rw [hd] at h1
        rcases h1 with ⟨b,h2,h3,h4,us,ty,h5,h6,h7⟩ | ⟨_,h2,_⟩
        · refine .inl ⟨b,by rw [← hl.1]; exact h2,by rw [← hl.1]; exact h3,by simp,us,ty,h5,by rw [← hl.1]; exact h6,fun m c hc=>?_⟩
          have hf:[r].flatten=r:=by simp
          have hf0:[row].flatten=row:=by simp
          rw [hf] at hc
          have hm:m<row.length:=by rw [hl.1]; exact (List.getElem?_eq_some_iff.1 hc).1
          obtain ⟨u,hu,hv⟩:=h7 m _ (by rw [hf0]; exact List.getElem?_eq_getElem hm)
          exact ⟨u,hu,hl.2 m _ c (List.getElem?_eq_getElem hm) hc _ _ hv⟩
        · cases h2
      · exact h1
    · exact False.elim h
theorem zo:∀ {xs:List (Nat×List (List AV))} {S:St} {K:St→Prop},EV xs S K→∃ S',dV S S'∧K S'
  | [],S,K,h=>⟨S,.refl S,h⟩
  | (i,R)::xs,S,K,h=>by
    unfold EV at h
    split at h
    · rename_i fl sz rows hi
      obtain ⟨hl,h⟩:=h
      rw [az] at h
      obtain ⟨S',h1,h2⟩:=zo h
      refine ⟨S',dV.trans ?_ h1,h2⟩
      intro G E act w hM ht
      refine ⟨E,?_,ht⟩
      refine ⟨hM.hp,hM.os,hM.tape,hM.output,hM.size,hM.keep,hM.F0,hM.Flt,hM.Fnew,hM.own,hM.inj,hM.loc,fun id=>?_,fun id hid=>?_,by show S.b≤(S.o.set _ _).length; rw [List.length_set]; exact hM.bl,hM.szs,hM.pk,fun id=>?_⟩
      · have h1:=hM.obj id
        show fb E (S.o.set i _)[id]? _
        rw [List.getElem?_set]
        split
        · rename_i e
          subst e
          rw [if_pos (List.getElem?_eq_some_iff.1 hi).1]
          rw [hi] at h1
          revert h1
          cases E.mu (.O i) with
          | none=>exact fun h=>h
          | some mv =>
            cases mv with
            | virt =>
              intro h
              have h:rows=[]:=h
              subst h
              exact List.eq_nil_of_length_eq_zero hl.1.symm
            | blk b o s n =>
              rintro ⟨⟨h1,h2⟩,h3,h4,us,ty,h5,h6,h7⟩
              refine ⟨⟨h1,by rw [← hl.1]; exact h2⟩,h3,hl.lens h4,us,ty,h5,by rw [← hl.1]; exact h6,fun m c hc=>?_⟩
              have hf:=hl.flat
              have hm:m<rows.flatten.length:=by rw [hf.1]; exact (List.getElem?_eq_some_iff.1 hc).1
              obtain ⟨u,hu,hv⟩:=h7 m _ (List.getElem?_eq_getElem hm)
              exact ⟨u,hu,hf.2 m _ c (List.getElem?_eq_getElem hm) hc _ _ hv⟩
        · exact h1
      · have h1:=hM.old id hid
        show (S.o.set i _)[id]?=some .dead∨_
        rw [List.getElem?_set]
        split
        · rename_i e
          subst e
          rcases h1 with h1 | h1
          · rw [hi] at h1; cases h1
          · exact .inr h1
        · exact h1
      · have h1:=hM.ow id
        show dQ E id (S.o.set i _)[id]?
        rw [List.getElem?_set]
        split
        · rename_i e
          subst e
          rw [if_pos (List.getElem?_eq_some_iff.1 hi).1]
          rw [hi] at h1
          exact h1
        · exact h1
    · exact False.elim h
theorem kC {L:Le} {S:St} {K:St→Prop} (h:DD L S K):∃ S',dV S S'∧K S':=by
  obtain ⟨S1,h1,h⟩:=zm h
  obtain ⟨S2,h2,h⟩:=zn h
  obtain ⟨S3,h3,h⟩:=zo h
  exact ⟨S3,h1.trans (h2.trans h3),h⟩
structure ue (C:Ctx):Prop where
  det:fV C
theorem aw.mono2 {α β:Type} {X:(α→β→Prop)→Prop} (h:ar X) {K K':α→β→Prop} (hx:X K) (hk:∀ r s,K r s→K' r s):X K':=by
  obtain ⟨r,s,h1,h2⟩:=h _ hx
  exact h2 _ (hk r s h1)
theorem aw.mono {α:Type} {X:(α→Prop)→Prop} (h:aw X) {K K':α→Prop} (hx:X K) (hk:∀ r,K r→K' r):X K':=by
  obtain ⟨r,h1,h2⟩:=h K hx
  exact h2 _ (hk r h1)
theorem ar.mono {α β:Type} {X:(α→β→Prop)→Prop} (h:ar X) {K K':α→β→Prop} (hx:X K) (hk:∀ a b,K a b→K' a b):X K':=by
  obtain ⟨a,b,h1,h2⟩:=h K hx
  exact h2 _ (hk a b h1)
theorem Cs {op:BinOp} {x y:Value} {K:Value→Prop} (h:DF op x y K):r_ op x y K:=by
  unfold DF at h
  unfold r_
  split at h <;> first
    | exact al h.1 h.2
    | exact False.elim h
section
variable {C:Ctx} {A:dT} {pl:bV} {o:Oper}
theorem Ct {op:BinOp} {t:TypeId} {x y:AV} {k:AV→Prop} (h:DG C A o op t x y k):z4 C.P op t x y k:=by
  unfold DG at h
  split at h
  · rename_i a b
    show vx C.P op t a b k
    unfold vx
    split at h
    · rename_i hn
      rw [hn]
      dsimp only
      split at h
      · exact h
      · rename_i a b hne
        split
        · exact (hne _ _ rfl rfl).elim
        · exact Cs h
    · rename_i c hc
      rw [hc]
      exact h
  · rename_i as bs
    show (match ru as,ru bs with
    | some xs,some ys =>
      match kV C.P op t xs ys with
      | some (.bool b)=>k (.v (.bool b))
      | _=>ad 226
    | _,_=>ad 227)
    split at h
    · rename_i xs ys h1 h2
      try rw [h1,h2]
      try dsimp only
      split at h
      · rw [h.1]
        exact h.2
      · exact False.elim h
    · exact False.elim h
  · exact False.elim h
theorem zp {t:TypeId} {x ix:AV} {k:AV→Prop} (h:xD C A o t x ix k):nT C.P t x ix k:=by
  unfold xD at h
  unfold nT
  refine aw.mono bf h (fun i h'=>?_)
  clear h
  split at h'
  · rename_i s hu
    rw [hu]
    dsimp only
    split at h'
    · rw [h'.1]
      dsimp only
      have h2:=h'.2.2
      rw [h'.2.1] at h2
      exact h2
    · exact False.elim h'
  · rename_i len e cs hu
    rw [hu]
    dsimp only
    have h:=h'
    split at h
    · rename_i inf hi
      rw [hi]
      exact al h.1 h.2
    · exact False.elim h
  · exact False.elim h'
theorem DT {vs:List AV} {k:AV→Prop} (h:Gu C A pl o vs k):pop C pl o vs k:=by
  unfold Gu at h
  split at h
  · exact h
  · split at h
    · rename_i ho
      unfold pop
      rw [ho]
      exact Ct h
    · rename_i ho
      unfold pop
      rw [ho]
      exact zp h
    · exact False.elim h
theorem np {len cap:Nat} {lo hi mx:Option Int} {k:Nat→Nat→Nat→Prop} (h:ww len cap lo hi mx k):p7 len cap lo hi mx k:=by
  unfold ww at h
  unfold p7
  split at h <;> first
    | exact h
    | exact al h.1 h.2
    | exact False.elim h
theorem gV {t:TypeId} {x:AV} {lo hi mx:Option Int} {S:St} {k:AV→Prop} (h:kz C t x lo hi mx S k):iD C.P t x lo hi mx S k:=by
  unfold kz at h
  rw [Bool.and_comm (iy mx) (iy hi)] at h
  unfold iD
  split at h
  · rename_i hu
    rw [hu]
    dsimp only
    split at h
    · exact np h
    · exact False.elim h
  · rename_i e hu
    rw [hu]
    dsimp only
    split at h
    · rename_i i hi
      rw [hi]
      dsimp only
      obtain ⟨h0,h⟩:=ab h
      refine al h0 ?_
      split at h
      · exact al h.1 (np h.2)
      · split at h
        · rename_i ho
          dsimp only
          rw [ho]
          obtain ⟨h1,h⟩:=ab h
          exact al h1 (np h)
        · exact False.elim h
      · split at h
        · rename_i ho
          dsimp only
          rw [ho]
          obtain ⟨h1,h⟩:=ab h
          exact al h1 (np h)
        · exact False.elim h
      · exact False.elim h
    · exact False.elim h
  · exact False.elim h
theorem rG {row:List AV} {t:TypeId} {x ix:AV} {S:St} {k:AV→Prop} (h:mV C row t x ix S k):gB C.P t x ix S k:=by
  unfold mV at h
  unfold gB
  refine aw.mono bf h (fun i h=>?_)
  split at h
  · rename_i e hu
    rw [hu]
    dsimp only
    split at h
    · rename_i inf hi
      rw [hi]
      dsimp only
      split at h
      · have h1:=h.1
        unfold FM at h1
        dsimp only
        rw [h1]
        exact h.2
      · split at h
        · rename_i ho
          dsimp only
          rw [ho]
          dsimp only
          have h1:=h.1
          unfold FM at h1
          rw [h1]
          exact h.2
        · rename_i ho
          dsimp only
          rw [ho]
          obtain ⟨h1,h2,h3⟩:=ab h
          refine al ?_ h3
          rw [Bool.and_eq_true]
          exact ⟨h2,h1⟩
        · exact False.elim h
      · split at h
        · rename_i ho
          dsimp only
          rw [ho]
          dsimp only
          refine al h.1 ?_
          rw [h.2.1]
          exact h.2.2
        · exact False.elim h
      · exact False.elim h
    · exact False.elim h
  · rename_i len e hu
    rw [hu]
    dsimp only
    split at h
    · rename_i inf hi
      rw [hi]
      exact al h.1 h.2
    · exact False.elim h
  · exact False.elim h
theorem ra (hC:ue C) {fid:Nat} {as:List AV} {k:AV→Prop} (h:rT C A o fid as k):C.pcall fid as k:=by
  unfold rT at h
  split at h
  · exact aw.mono (hC.det.pcall _ _) h.1 (fun _ e=>by rw [e]; exact h.2)
  · exact h
theorem AQ {P:Program} {op:BinOp} {t:TypeId} {x y:AV} {S:St} {k:AV→Prop} (h:AL P op t x y S k):sn P op t x y S k:=by
  unfold AL at h
  split at h
  · rename_i id
    split at h
    · rename_i rows hob
      obtain ⟨h1,h⟩:=h
      have:sk S (.mf id)=true:=by
        unfold sk
        dsimp only
        rw [hob]
        cases rows with
        | nil=>cases h1
        | cons _ _=>rfl
      unfold sn
      rw [this]
      exact h
    · exact False.elim h
  · exact False.elim h
theorem lO {size:Nat} {S:St} {x:AV} {k:Bool→List (List AV)→Prop} (h:qx size S x k):iY size S x k:=by
  unfold qx at h
  unfold iY
  split at h <;> first
    | exact al h.1 h.2
    | exact h
    | exact False.elim h
theorem zq {src dst:TypeId} {x:AV} {S:St} {s:ByteArray} {k:AV→Prop} (h:xE C.P src dst x S s k):fj C.P src dst x S k:=by
  unfold xE at h
  unfold fj
  split at h
  · rename_i hu hd
    rw [hu,hd]
    dsimp only
    split at h
    · rename_i he
      rw [he]
      dsimp only
      obtain ⟨h1,h⟩:=ab h
      refine al h1 (ar.mono dL (lO h) (fun fl rows h=>?_))
      rw [h.1]
      show k (.v (.string ⟨s.data.toList.toArray⟩))
      have:(⟨s.data.toList.toArray⟩:ByteArray)=s:=by cases s; simp
      rw [this]
      exact h.2
    · exact False.elim h
  · exact False.elim h
theorem DU (hC:ue C) {vs:List AV} {M:St} {k:AV→Prop} (h:Gv C A o vs M k):nt C o vs M k:=by
  unfold Gv at h
  split at h
  · rename_i ho
    split at h
    · split at h
      · split at h
        · rename_i hob
          unfold nt
          rw [ho]
          dsimp only
          unfold CZ
          dsimp only
          unfold uT
          dsimp only
          rw [hob]
          dsimp only
          rw [h.1]
          exact h.2
        · exact False.elim h
      · exact False.elim h
    · exact h
  · rename_i ho
    split at h
    · exact h
    · unfold nt
      rw [ho]
      split at h
      · exact gV h
      · exact aw.mono bf h (fun _ h=>gV h)
      · exact aw.mono bf h (fun _ h=>gV h)
      · exact aw.mono bf h (fun _ h=>aw.mono bf h (fun _ h=>gV h))
      · exact aw.mono bf h (fun _ h=>aw.mono bf h (fun _ h=>gV h))
      · exact aw.mono bf h (fun _ h=>aw.mono bf h (fun _ h=>aw.mono bf h (fun _ h=>gV h)))
      · exact False.elim h
  · rename_i ho
    split at h
    · unfold nt
      rw [ho]
      exact rG h
    · exact h
  · rename_i ho
    split at h
    · split at h
      · rename_i hu
        split at h
        · rename_i hob
          unfold nt
          rw [ho]
          dsimp only
          unfold m_
          rw [hu]
          dsimp only
          rw [hob]
          exact h.1 _ h.2
        · exact False.elim h
      · exact False.elim h
    · exact h
  · rename_i ho
    split at h
    · exact h
    · unfold nt
      rw [ho]
      exact AQ h
  · rename_i ho
    split at h
    · unfold nt
      rw [ho]
      exact zq h
    · exact h
  · rename_i c ho
    split at h
    · rename_i hcal
      split at h
      · unfold nt
        rw [ho]
        dsimp only
        rw [hcal]
        dsimp only
        obtain ⟨h1,h⟩:=ab h
        exact al h1 (aw.mono (dM _ _) h (fun bs hb=>ra hC hb))
      · exact False.elim h
    · exact h
  · exact h
theorem zr {S:St} {row:List AV} {a:AV} {cs:List AV} {K:St→Prop} (h:xF S row a cs K):kG S a cs K:=by
  unfold xF at h
  split at h
  · unfold kG
    split at h
    · rename_i ho
      dsimp only
      rw [ho]
      dsimp only
      rw [h.1]
      exact h.2
    · exact False.elim h
  · exact False.elim h
theorem zt {vs:List AV} {M:St} {k:AV→St→Prop} (h:EW C A o vs M k):vB C o vs M k:=by
  unfold EW at h
  split at h
  · exact h
  · split at h
    · rename_i ho
      split at h
      · unfold vB
        rw [ho]
        refine aw.mono cn h (fun cs h=>?_)
        split at h
        · rename_i hi
          rw [hi]
          obtain ⟨h1,h⟩:=ab h
          exact al h1 (zr h)
        · exact False.elim h
      · exact h
    · exact h
theorem xI {ts:List TypeId} {base x:AV} {S:St} {k:St→AV→Prop} (h:tU C.P ts base x S k):ko C.P ts base x S k:=by
  unfold tU at h
  unfold ko
  split at h
  · split at h
    · rename_i e hu
      dsimp only
      rw [hu]
      dsimp only
      split at h
      · rename_i i hi
        rw [hi]
        dsimp only
        obtain ⟨h1,h⟩:=ab h
        refine al h1 ?_
        refine ar.mono dL (lO h) (fun fl src h=>?_)
        refine al h.1 ?_
        replace h:=h.2
        split at h
        · exact al h.1 h.2
        · exact al h.1 h.2
        · split at h
          · rename_i ho
            dsimp only
            rw [ho]
            obtain ⟨h1,h⟩:=ab h
            refine al ?_ h.2
            simp only [Bool.and_eq_true] at h1 ⊢
            exact ⟨⟨h1.1,h.1⟩,h1.2⟩
          · exact False.elim h
        · split at h
          · rename_i ho
            dsimp only
            rw [ho]
            obtain ⟨h1,h2,h3,h⟩:=ab h
            refine al h1 ?_
            rw [h2]
            exact al h3 h
          · exact False.elim h
        · exact False.elim h
      · exact False.elim h
    · exact False.elim h
  · exact False.elim h
theorem vj {ts:List TypeId} {base x:AV} {k:AV→Prop} (h:qy C.P ts base x k):jP C.P ts base x k:=by
  unfold qy at h
  unfold jP
  split at h
  · split at h
    · rename_i e hu
      dsimp only
      rw [hu]
      dsimp only
      split at h
      · rename_i i hi
        rw [hi]
        dsimp only
        obtain ⟨h1,h⟩:=ab h
        refine al h1 ?_
        refine ar.mono dL (lO h) (fun fl src h=>?_)
        obtain ⟨h2,h3,h4,h⟩:=ab h
        refine al ?_ h
        rw [h2,h3,h4]
        rfl
      · exact False.elim h
    · exact False.elim h
  · exact False.elim h
theorem DV {vs:List AV} {k:AV→Prop} (h:Gw C o vs k):Ga C o vs k:=by
  unfold Gw at h
  unfold Ga
  split at h
  · rename_i c x y ho
    rw [ho]
    dsimp only
    split at h
    · rename_i hc
      rw [hc]
      exact vj h
    · exact False.elim h
  · exact False.elim h
theorem vk {ts:List TypeId} {base:AV} {n:Int} {S:St} {k:St→AV→Prop} (h:qz C.P ts base n S k):jQ C.P ts base n S k:=by
  unfold qz at h
  unfold jQ
  split at h
  · split at h
    · rename_i hu hv
      dsimp only
      rw [hu,hv]
      dsimp only
      split at h
      · rename_i hi
        rw [hi]
        exact al h.1 h.2
      · exact False.elim h
    · exact False.elim h
  · exact False.elim h
theorem l6 {t:TypeId} {l c:AV} {S:St} {k:St→AV→Prop} (h:kA C.P t l c S k):cj C.P t l c S k:=by
  unfold kA at h
  unfold cj
  split at h
  · rename_i hu
    rw [hu]
    dsimp only
    split at h
    · rename_i hi
      rw [hi]
      dsimp only
      exact aw.mono bf h (fun _ h=>aw.mono bf h (fun _ h=>al h.1 h.2))
    · exact False.elim h
  · exact False.elim h
theorem AR (hC:ue C) {f:AV} {args:List AV} {S:St} {k:St→AV→Prop} (h:AO C A o f args S k):vz C f args S k:=by
  unfold AO at h
  unfold vz
  split at h
  · dsimp only
    split at h
    · rename_i hp
      rw [hp]
      exact aw.mono (dM _ _) h (fun bs hb=>ra hC hb)
    · rename_i hp
      rw [hp]
      obtain ⟨h1,h⟩:=ab h
      refine al h1 ?_
      split at h
      · exact ar.mono (hC.det.scall _ _ _) h.1 (fun r o' ⟨e1,e2⟩=>by subst e1 e2; exact h.2)
      · exact h
  · exact False.elim h
theorem l7 {R:List (AV×AV)} {t:TypeId} {m key x:AV} {S:St} {K:St→Prop} (h:kB C.P R t m key x S K):eA C.P t m key x S K:=by
  unfold kB at h
  unfold eA
  split at h
  · rename_i hu
    rw [hu]
    dsimp only
    split at h
    · split at h
      · rename_i fl es ho
        dsimp only
        rw [ho]
        dsimp only
        obtain ⟨h1,h2,h3⟩:=ab h
        refine al h1 ?_
        have:=h2 (fun es'=>bk (S.o.set _ (.mapo (fl&&dA 4 x) es')) fun o=>K { t:=S.t,l:=S.l,o:=o,b:=S.b }) h3
        exact this
      · exact False.elim h
    · exact False.elim h
  · exact False.elim h
theorem AS {ts:List TypeId} {x y:AV} {M:St} {k:AV→St→Prop} (h:AM C.P ts x y M k):qJ C.P ts x y M k:=by
  unfold AM at h
  unfold qJ
  split at h
  · split at h
    · rename_i e hu
      dsimp only
      rw [hu]
      dsimp only
      split at h
      · rename_i i hi
        rw [hi]
        dsimp only
        obtain ⟨h1,h⟩:=ab h
        refine al h1 ?_
        refine ar.mono dL (lO h) (fun fl src h=>?_)
        obtain ⟨h2,h⟩:=h
        obtain ⟨h3,h⟩:=ab h
        refine al (by rw [h2,h3]; rfl) ?_
        split at h
        · split at h
          · rename_i ho
            dsimp only
            rw [ho]
            exact h
          · exact False.elim h
        · split at h
          · rename_i ho
            dsimp only
            rw [ho]
            obtain ⟨h1,h2,h⟩:=ab h
            exact al (by rw [h1,h2]; rfl) h
          · exact False.elim h
        · exact False.elim h
      · exact False.elim h
    · exact False.elim h
  · exact False.elim h
theorem zu (hC:ue C) {S:St} {K:St→Prop} (h:EX C A pl o S K):uU C pl o S K:=by
  unfold EX at h
  split at h
  · rename_i ho
    split at h
    · unfold uU
      rw [ho]
      refine aw.mono ct h (fun m h=>?_)
      refine aw.mono ct h (fun k h=>?_)
      refine aw.mono ct h (fun x h=>?_)
      exact l7 h
    · exact h
  · rename_i ho
    split at h
    · unfold uU
      rw [ho]
      refine aw.mono ct h (fun m h=>?_)
      refine aw.mono ct h (fun k h=>?_)
      refine aw.mono ct h (fun x h=>?_)
      exact l7 h
    · exact h
  · rename_i ho
    split at h
    · unfold uU
      rw [ho]
      refine aw.mono ct h (fun l h=>?_)
      refine aw.mono ct h (fun c h=>?_)
      exact l6 h
    · exact h
  · rename_i c ho
    split at h
    · rename_i hcal
      split at h
      · unfold uU
        rw [ho]
        dsimp only
        rw [hcal]
        dsimp only
        refine aw.mono bd h (fun as h=>?_)
        split at h
        · exact vk h
        · rename_i x y hne
          split
          · rename_i e
            cases e
            exact (hne _ _ rfl).elim
          · rename_i e
            cases e
            exact xI h
          · rename_i h3
            exact (h3 _ _ rfl).elim
        · exact False.elim h
      · exact h
    · rename_i hcal
      unfold uU
      rw [ho]
      dsimp only
      rw [hcal]
      dsimp only
      refine aw.mono bd h (fun as h=>?_)
      split at h
      · exact AS h
      · exact False.elim h
    · rename_i f hcal
      unfold uU
      rw [ho]
      dsimp only
      rw [hcal]
      dsimp only
      refine aw.mono ct h (fun l h=>?_)
      refine aw.mono bd h (fun c h=>?_)
      exact AR hC h
    · exact h
  · exact h
theorem j9 {K:St→Prop} {S:St} (h:ma A o K S):K S:=by
  have h2:∀ {key:Nat} {S:St} {K:St→Prop},DI A key S K→K S:=by
    intro key S K h
    unfold DI at h
    split at h
    · exact h
    · split at h
      · rename_i ho
        obtain ⟨h1,h⟩:=h
        subst h1
        rw [az] at h
        have e:∀ {α:Type} {l:List α} {i:Nat} {x:α},l[i]?=some x→l.set i x=l:=by
          intro α l i x hx
          refine List.ext_getElem? (fun m=>?_)
          rw [List.getElem?_set]
          split
          · rename_i e
            subst e
            rw [if_pos (List.getElem?_eq_some_iff.1 hx).1,hx]
          · rfl
        rw [e ho] at h
        exact h
      · exact False.elim h
  unfold ma at h
  unfold FN at h
  split at h
  · exact h2 h
  · split at h
    · exact h2 h
    · rename_i v hv
      obtain ⟨a,ha,e,h⟩:=cr.1 h
      subst e
      rw [ed,mS ha] at h
      exact h2 h
theorem wz {S:St} {K:St→Prop} (h:DJ C A pl o S K):BV C pl o S K:=aw.mono bd h (fun _ h=>DT h)
theorem wA (hC:ue C) {S:St} {K:St→Prop} (h:DK C A o S K):BW C o S K:=aw.mono bd h (fun _ h=>DU hC h)
theorem Cu {S:St} {K:St→Prop} (h:FO C A o S K):BX C o S K:=aw.mono bd h (fun _ h=>zt h)
theorem nO {row:Option (List (List AV))} {M:St} {id i:Nat} {k:AV→St→Prop} (h:nk row M id i k):fa M id i k:=by
  unfold nk at h
  unfold fa
  split at h
  · rename_i hob
    rw [hob]
    dsimp only
    split at h
    · obtain ⟨h1,h⟩:=h
      rw [h1]
      exact h
    · obtain ⟨h1,h⟩:=h
      rw [h1]
      exact h
  · exact h.elim
theorem vl {P:Program} {a:vi} {t:TypeId} {same:Bool} {M:St} {id i:Nat} {k:AV→St→Prop} (h:qA P a t same M id i k):h_ P t same M id i k:=by
  unfold qA at h
  unfold h_
  split at h
  · split at h
    · rename_i hob
      rw [hob]
      exact al h.1 h.2
    · exact h.elim
  · exact nO h
theorem uf {P:Program} {t:TypeId} {M:St} {id i:Nat} {v:AV} {K:St→Prop} (h:oM P t M id i v K):fR P t M id i v K:=by
  unfold oM at h
  unfold fR
  split at h
  · rename_i hi hob
    rw [hi,hob]
    obtain ⟨h1,h2,h3⟩:=ab h
    refine al ?_ h3
    simp only [Bool.and_eq_true] at h1 h2 ⊢
    exact ⟨⟨⟨h1.1,h2.1⟩,h1.2⟩,h2.2⟩
  · exact h.elim
theorem vm {P:Program} {j:Nat} {a:vi} {t:TypeId} {l c:AV} {M:St} {k:AV→St→Prop} (h:qB P j a t l c M k):gh P j t l c M k:=by
  unfold qB at h
  unfold gh
  split at h
  · rename_i hu
    rw [hu]
    dsimp only
    split at h
    · rename_i hi he
      rw [hi,he]
      dsimp only
      split at h
      · rename_i hi2
        rw [hi2]
        dsimp only
        refine lA h (fun n h=>?_)
        refine lA h (fun m h=>?_)
        obtain ⟨h1,h⟩:=h
        obtain ⟨h2,h⟩:=ab h
        refine al ?_ ?_
        · simp only [Bool.and_eq_true] at h1 h2 ⊢
          exact ⟨⟨h1,h2.1⟩,h2.2⟩
        · refine pw h (fun z h=>?_)
          split at h
          · obtain ⟨h3,h⟩:=h
            dsimp only
            rw [h3]
            exact h
          · exact h.elim
      · exact h.elim
    · exact h.elim
  · exact h.elim
theorem vn {P:Program} {a:vi} {t:TypeId} {m key:AV} {ok:Bool} {M:St} {k:AV→St→Prop} (h:qC P a t m key ok M k):ia P t m key ok M k:=by
  unfold qC at h
  unfold ia
  split at h
  · rename_i hu
    rw [hu]
    dsimp only
    split at h
    · dsimp only
      split at h
      · rename_i hob
        rw [hob]
        dsimp only
        split at h
        · obtain ⟨h1,h2⟩:=h
          exact h1 (fun r=>match r with
            | some i=>fa M _ i fun a M'=>mm ok a true fun r=>k r M'
            | none=>hU P _ ok fun r=>k r M) (nO h2)
        · obtain ⟨h1,h2⟩:=h
          exact h1 (fun r=>match r with
            | some i=>fa M _ i fun a M'=>mm ok a true fun r=>k r M'
            | none=>hU P _ ok fun r=>k r M) h2
      · exact h.elim
    · exact h.elim
  · exact h.elim
theorem pK {P:Program} {a:vi} {t:TypeId} {m key x:AV} {M:St} {K:St→Prop} (h:pH P a t m key x M K):iQ P t m key x M K:=by
  unfold pH at h
  unfold iQ
  split at h
  · rename_i hu
    rw [hu]
    dsimp only
    split at h
    · rename_i id
      dsimp only
      split at h
      · rename_i ks sz cells hole hob
        rw [hob]
        dsimp only
        obtain ⟨h1,h2,h3⟩:=ab h
        refine al h1 ?_
        have h4:=h2 (Hr M id sz cells hole x K) h3
        refine aw.mono2 dq h4 (fun kv r h5=>?_)
        obtain ⟨h6,h7⟩:=ab h5
        refine al h6 ?_
        cases r with
        | none=>exact h7
        | some i =>
          obtain ⟨h8,h9,h10⟩:=ab h7
          refine al ?_ h10
          rw [Bool.and_eq_true]
          exact ⟨h8,h9⟩
      · exact h.elim
    · exact h.elim
  · exact h.elim
theorem rb {M:St} {x:AV} {X Y:Nat→Nat→Prop} (h:iE M x X) (hk:∀ id i,X id i→Y id i):iE M x Y:=by
  unfold iE at h ⊢
  split at h
  · split at h
    · exact hk _ _ h
    · exact h.elim
  · exact h.elim
theorem wB {P:Program} {vs:List AV} {M:St} {k:AV→St→Prop} (h:Bq P A pl o vs M k):kh P pl o vs M k:=by
  unfold Bq at h
  split at h
  · exact h
  · split at h
    · rename_i ho
      unfold kh
      rw [ho]
      exact rb h (fun _ _ h=>vl h)
    · rename_i ho
      unfold kh
      rw [ho]
      exact rb h (fun _ _ h=>uf h)
    · rename_i ho
      unfold kh
      rw [ho]
      exact vm h
    · rename_i ho
      unfold kh
      rw [ho]
      exact vn h
    · rename_i ho
      unfold kh
      rw [ho]
      exact pK h
    · rename_i ho
      unfold kh
      rw [ho]
      exact pK h
    · exact h.elim
theorem nP {S:St} {id:Nat} {K:St→Prop} (h:nm A S id K):hZ S id K:=by
  unfold nm at h
  split at h
  · exact h
  · unfold hZ
    split at h
    · rename_i hob
      rw [hob]
      dsimp only
      split at h
      · rename_i hk
        rw [hk]
        obtain ⟨h1,h2,h3,h4⟩:=ab h
        refine al ?_ ?_
        · rw [Bool.and_eq_true]
          exact ⟨h1,h2⟩
        · rw [h3]
          exact h4
      · exact h.elim
    · rename_i hob
      rw [hob]
      dsimp only
      obtain ⟨h2,h3,h4⟩:=h
      refine al h2 ?_
      rw [h3]
      exact h4
    · exact h.elim
theorem pL:∀ {ids:List Nat} {S:St} {K:St→Prop},tV A ids S K→lq ids S K
  | [],_,_,h=>h
  | _::_,_,_,h=>aw.mono lI (nP h) (fun _ h=>pL h)
theorem pM {S:St} {id:Nat} {K:St→Prop} (h:pI A S id K):jy S id K:=by
  unfold pI at h
  split at h
  · exact h
  · unfold jy
    split at h
    · rename_i hob
      rw [hob]
      dsimp only
      rw [h.1]
      exact h.2
    · exact h.elim
theorem nQ:∀ {ids:List Nat} {S:St} {K:St→Prop},qD A ids S K→jS ids S K
  | [],_,_,h=>h
  | _::_,_,_,h=>aw.mono mP (pM h) (fun _ h=>nQ h)
theorem ug {id:Nat} {S:St} {K:St→Prop} (h:tY A pl id S K):jp pl id S K:=by
  unfold tY at h
  unfold jp
  split at h
  · rename_i hc
    rw [hc]
    exact h
  · rename_i hc
    rw [hc]
    dsimp only
    refine aw.mono (je _ _) (pL h) (fun S1 h=>?_)
    split at h
    · rename_i hc
      rw [hc]
      exact h
    · rename_i hc
      rw [hc]
      exact nQ h
theorem AT (hC:ue C) {vs:List AV} {M:St} {k:AV→St→Prop} (h:AP C A o vs M k):kq C o vs M k:=by
  unfold AP at h
  split at h
  · rename_i t X Y l c ho
    split at h
    · unfold kq
      rw [ho]
      exact l6 h
    · exact h
  · rename_i c fid first cap as ho
    unfold kq
    rw [ho]
    dsimp only
    split at h
    · rename_i x hcal
      rw [hcal]
      obtain ⟨h1,h⟩:=ab h
      refine al h1 ?_
      split at h
      · obtain ⟨h2,h3⟩:=h
        obtain ⟨r0,o0,⟨e1,e2⟩,h4⟩:=hC.det.scall _ _ _ _ h2
        subst e1 e2
        exact h4 _ h3
      · exact h
    · exact h.elim
  · rename_i hne hne2
    have h':=zt h
    unfold kq
    split
    · rename_i t X Y l c ho
      exact absurd rfl (hne t X Y l c ho)
    · rename_i c fid first cap as ho
      exact absurd rfl (hne2 c fid first cap as ho)
    · exact h'
theorem Cv (hC:ue C) {vs:List AV} {M:St} {k:AV→St→Prop} (h:DL C A pl o vs M k):lr C pl o vs M k:=by
  unfold DL at h
  unfold lr
  split at h
  · rename_i hw
    rw [hw]
    exact wB h
  · rename_i hw
    rw [hw]
    exact AT hC h
theorem AU (hC:ue C) {S:St} {K:St→Prop} (h:DN C A pl o S K):nz C pl o S K:=aw.mono bd h (fun _ h=>Cv hC h)
theorem Cw {S:St} {K:St→Prop} (h:FP C A pl o S K):wS C pl o S K:=aw.mono bd h (fun _ h=>wB h)
theorem Cx {S:St} {K:St→Prop} (h:FQ C o S K):BY C o S K:=aw.mono bd h (fun _ h=>DV h)
theorem DW (hC:ue C) {S:St} {K:St→Prop} (h:Gx C A pl o S K):wT C pl o S K:=by
  refine aw.mono (yS hC.det) (K:=ma A o K) ?_ (fun _ h=>j9 h)
  unfold Gx at h
  unfold wT
  split at h
  · rename_i hc
    rw [hc]
    exact wz h
  · rename_i hc
    rw [hc]
    exact wA hC h
  · rename_i hc
    rw [hc]
    exact Cu h
  · rename_i h0 h1 h2
    have:=zu hC h
    split
    · exact absurd (by assumption) h0
    · exact absurd (by assumption) h1
    · exact absurd (by assumption) h2
    · exact this
theorem rU (hC:ue C) {S:St} {K:St→Prop} (h:FR C A pl o S K):C9 C pl o S K:=by
  unfold FR at h
  unfold C9
  split at h
  · rename_i hw
    rw [hw]
    exact aw.mono yQ (Cw h) (fun _ h=>j9 h)
  · rename_i hw
    rw [hw]
    exact DW hC h
theorem uh (hC:ue C) {S:St} {K:St→Prop} (h:zk C A pl o S K):uS C pl o S K:=by
  unfold zk at h
  split at h
  · rename_i hc
    refine aw.mono (gz hC.det) (K:=ma A o K) ?_ (fun _ h=>j9 h)
    unfold uS
    rw [hc]
    exact wz h
  · rename_i hc
    refine aw.mono (gz hC.det) (K:=ma A o K) ?_ (fun _ h=>j9 h)
    unfold uS
    rw [hc]
    exact wA hC h
  · rename_i hc
    refine aw.mono (gz hC.det) (K:=ma A o K) ?_ (fun _ h=>j9 h)
    unfold uS
    rw [hc]
    exact AU hC h
  · rename_i hc
    unfold uS
    rw [hc]
    exact h
  · rename_i hc
    refine aw.mono (gz hC.det) (K:=ma A o K) ?_ (fun _ h=>j9 h)
    unfold uS
    rw [hc]
    exact Cx h
  · rename_i h0 h1 h2 h4 h5
    refine aw.mono (gz hC.det) (K:=ma A o K) ?_ (fun _ h=>j9 h)
    unfold uS
    split
    · exact absurd (by assumption) h0
    · exact absurd (by assumption) h1
    · exact absurd (by assumption) h2
    · exact absurd (by assumption) h4
    · exact absurd (by assumption) h5
    · split at h
      · exact False.elim h
      · rename_i hb
        rw [hb]
        exact zu hC h
theorem EZ (hC:ue C) {all:Array Oper} {S:St} {K:St→Prop} (h:Iu C A pl all o S K):ag C pl all o S K:=by
  unfold Iu at h
  unfold ag
  split at h
  · rename_i hg
    rw [hg]
    obtain ⟨h1,h⟩:=ab h
    exact al h1 (uh hC h)
  · rename_i j want hg
    rw [hg]
    dsimp only
    split at h
    · exact False.elim h
    · rename_i d hd
      rw [hd]
      dsimp only
      refine ar.mono dG h (fun b S1 h=>?_)
      have key:∀ {S:St},bO (iF pl all o S) (zk C A pl o S K)→nV C pl all o S K:=by
        intro S h
        obtain ⟨h1,h⟩:=ab h
        exact al h1 (uh hC h)
      unfold gsel at h ⊢
      split at h
      · exact key h
      · exact key h
      · exact h
theorem Bv (hC:ue C) {ops:Array Oper} {i:Nat} {S:St} {K:St→Prop} (h:Hg C A pl ops i S K):vD C pl ops i S K:=by
  unfold Hg at h
  unfold vD
  split at h
  · exact False.elim h
  · rename_i o ho
    rw [ho]
    exact EZ hC h
theorem zv {S2 S1:St} {X:Prop} (h:S2=S1∧X):qK S2 S1 X:=by
  unfold qK
  split
  · exact h.2
  · exact h
theorem xJ (hC:ue C) {ops:Array Oper} {ws:List Nat}:∀ {n a:Nat} {listed:Array Bool} {t:PT} {S:St} {K:St→Prop},jr pl ops ws n a listed=some t→oT C A pl ops t none S K→i8 C pl ops ws n listed S K
  | 0,a,listed,t,S,K,hp,h=>by
    unfold jr at hp
    unfold i8
    split at hp
    · cases hp
      rename_i hr
      rw [hr]
      exact h
    · cases hp
  | n + 1,a,listed,t,S,K,hp,h=>by
    unfold jr at hp
    unfold i8
    split at hp
    · cases hp
      rename_i hr
      rw [hr]
      exact h
    · rename_i r rs hr
      rw [hr]
      dsimp only
      have step:∀ {k b:Nat} {u:PT} {S:St} {K:St→Prop},jr pl ops ws n b (listed.setIfInBounds k true)=some u→(Hg C A pl ops k S fun S'=>oT C A pl ops u none S' K)→vD C pl ops k S fun S'=>i8 C pl ops ws n (listed.setIfInBounds k true) S' K :=
        fun hj h=>aw.mono (fw hC.det) (Bv hC h) (fun _ h=>xJ hC hj h)
      have alts:∀ {b:Nat} {is:List Nat} {u:PT} {S S1:St} {K:St→Prop} {X:Prop},nM (fun i=>jr pl ops ws n b (listed.setIfInBounds i true)) is=some u→oT C A pl ops u (some (S1,X)) S K →
          z7 (fun i K'=>vD C pl ops i S fun S'=>i8 C pl ops ws n (listed.setIfInBounds i true) S' K') is S1 X:=by
        intro b is
        induction is with
        | nil =>
          intro u S S1 K X hu h
          unfold nM at hu
          cases hu
          exact h
        | cons i is ih =>
          intro u S S1 K X hu h
          unfold nM at hu
          split at hu
          · rename_i v hv
            split at hu
            · rename_i w hw
              cases hu
              refine aw.mono (aw.bind (fw hC.det) (fun S'=>fe hC.det _ _ _)) (step hv h) (fun S2 h=>?_)
              exact zv ⟨h.1,ih hw h.2⟩
            · cases hu
          · cases hu
      split at hp
      · rename_i k hk
        rw [hk]
        dsimp only
        split at hp
        · cases hp
          rename_i u hj
          exact step hj h
        · cases hp
      · rename_i hk
        rw [hk]
        dsimp only
        split at hp
        · split at hp
          · cases hp
            rename_i u hj
            refine aw.mono (aw.bind (fw hC.det) (fun S'=>fe hC.det _ _ _)) (step hj h) (fun _ h=>?_)
            exact h
          · cases hp
        · split at hp
          · rename_i b _ _
            unfold nM at hp
            split at hp
            · rename_i v hv
              split at hp
              · rename_i w hw
                cases hp
                refine aw.mono (aw.bind (fw hC.det) (fun S'=>fe hC.det _ _ _)) (step hv h) (fun S1 h=>?_)
                exact alts hw h
              · cases hp
            · cases hp
          · cases hp
theorem DX (hC:ue C) {ops:Array Oper} {ws:List Nat}:∀ {n:Nat} {listed:Array Bool} {t:PT} {S:St} {K:St→Prop},wy pl ops ws n listed=some t→oT C A pl ops t none S K→rv C pl ops ws n listed S K
  | 0,listed,t,S,K,hp,h=>xJ hC (n:=0) hp h
  | n + 1,listed,t,S,K,hp,h=>by
    unfold wy at hp
    unfold rv
    split at hp
    · rename_i i hi
      rw [hi]
      dsimp only
      split at hp
      · cases hp
        rename_i u hj
        exact aw.mono (fw hC.det) (Bv hC h) (fun _ h=>DX hC hj h)
      · cases hp
    · rename_i hi
      rw [hi]
      exact xJ hC hp h
theorem DY (hC:ue C) {ops:Array Oper} {t:PT} {S:St} {K:St→Prop} (hp:t8 pl ops=some t) (h:oT C A pl ops t none S K):uV C pl ops S K:=by
  unfold t8 at hp
  unfold uV
  split at hp
  · cases hp
  · rename_i hn
    refine al hn ?_
    split at hp
    · rename_i hc
      rw [hc]
      exact xJ hC hp h
    · rename_i hc
      rw [hc]
      exact DX hC hp h
theorem pN:∀ {x y:PT},AK x y=true→x=y
  | .done,.done,_=>rfl
  | .go i t,.go j u,h=>by
    unfold AK at h
    rw [Bool.and_eq_true] at h
    rw [Nat.eq_of_beq_eq_true h.1,pN h.2]
  | .alt i t r,.alt j u s,h=>by
    unfold AK at h
    rw [Bool.and_eq_true,Bool.and_eq_true] at h
    rw [Nat.eq_of_beq_eq_true h.1,pN h.2.1,pN h.2.2]
  | .done,.go _ _,h=>by cases h
  | .done,.alt _ _ _,h=>by cases h
  | .go _ _,.done,h=>by cases h
  | .go _ _,.alt _ _ _,h=>by cases h
  | .alt _ _ _,.done,h=>by cases h
  | .alt _ _ _,.go _ _,h=>by cases h
end
open Go.RowKit (Below)
def dN (P:Program) (c:Code) (S:St) (K:Ex→St→Prop):Prop :=
  ∃ e S',(∀ (r:Option Nat) (G:Gh) (E:Env) (a:Act) (w:World) (Q:Exit→Act→World→Prop),ah G pn E S w→TR E S.t a→Dm G (fun e' S''=>e'=e∧S''=S') Q→c.wpIn (rd r) 0 P Q a w)∧K e S'
theorem dN.mono {P:Program} {c:Code} {S:St} {K K':Ex→St→Prop} (h:dN P c S K) (hk:∀ e S',K e S'→K' e S'):dN P c S K' :=
  let ⟨e,S',h1,h2⟩:=h
  ⟨e,S',h1,hk _ _ h2⟩
theorem zw (cfg:nW):ue (ik cfg):=⟨mU cfg⟩
theorem re {P:Program} {op:BinOp} {t e:TypeId} {rows:List (List AV)} {E:Env} {u:Value} (hop:Gy op=true) (hu:P.underlying t=some (.slice e)) (hx:VR E (.sl rows) u) (w:World) (X Y:Operand) :
    ∃ b,(do eqGuard op t X Y u (.slice none 0 0); binOp op t u (.slice none 0 0):Sem Value).run P w=.ok (.bool b) w∧((b=wx op∧rows=[])∨b=!(wx op)):=by
  have h0:∃ b,(∀ d:Nat,(Op.equalIn (d + 1) t u (.slice none 0 0)).run P w=.ok b w)∧((b=true∧rows=[])∨b=false):=by
    cases hx with
    | sln=>exact ⟨true,fun d=>by unfold Op.equalIn; rw [Sem.run_bind,run_underlying hu]; rfl,.inl ⟨rfl,rfl⟩⟩
    | sle _ a cap=>exact ⟨false,fun d=>by unfold Op.equalIn; rw [Sem.run_bind,run_underlying hu]; rfl,.inr rfl⟩
    | sl us h1 h2 h3 h4 h5 h6 h7=>exact ⟨false,fun d=>by unfold Op.equalIn; rw [Sem.run_bind,run_underlying hu]; rfl,.inr rfl⟩
  obtain ⟨b,hb,hr⟩:=h0
  have hn:Db u=true:=by cases hx <;> rfl
  have he:(Op.equal t u (.slice none 0 0)).run P w=.ok b w:=qc hb
  rw [gE hn]
  cases op with
  | eql =>
    refine ⟨b,?_,hr⟩
    have:binOp .eql t u (.slice none 0 0)=(do pure (.bool (← Op.equal t u (.slice none 0 0)))):=by cases hx <;> rfl
    simp [this,he]
  | neq =>
    refine ⟨!b,?_,?_⟩
    · have:binOp .neq t u (.slice none 0 0)=(do pure (.bool (!(← Op.equal t u (.slice none 0 0))))):=by cases hx <;> rfl
      simp [this,he]
    · rcases hr with ⟨rfl,hr⟩ | rfl
      · exact .inl ⟨rfl,hr⟩
      · exact .inr rfl
  | _=>cases hop
section
variable {G:Gh} {C:Ctx} {A:dT} {pl:bV}
theorem lQ (hO:ue C) (hC:eh C) {rr:Option Nat} {all:Array Oper} {Q:Exit→Act→World→Prop}:∀ {ops:List Oper} {E:Env} {S:St} {w:World} {a:Act} {K:St→Prop},ah G pn E S w→TR E S.t a→xG C A pl all ops S K →
    (∀ S' E' a' w',K S'→ah G pn E' S' w'→TR E' S'.t a'→Q .normal a' w')→wpListIn (rd rr) 0 C.P all Q ops a w
  | [],E,S,w,a,K,hM,ht,h,hQ=>hQ _ _ _ _ h hM ht
  | o::rest,E,S,w,a,K,hM,ht,h,hQ=>by
    have step:∀ {S1:St},ah G pn E S1 w→TR E S1.t a→Region.wanted o (yielded all a.tmps)=true→(FR C A pl o S1 fun S'=>xG C A pl all rest S' K)→wpListIn (rd rr) 0 C.P all Q (o::rest) a w:=by
      intro S1 hM1 ht1 hw h
      unfold wpListIn
      rw [if_pos hw]
      refine v8 (Ak (rU hO h)) (qk hC hM1 ht1 (rU hO h) _ _ (fun S' E' a' w' hk hS htr=>?_))
      exact lQ hO hC hS htr hk hQ
    unfold xG at h
    split at h
    · rename_i hg
      have hw:Region.wanted o (yielded all a.tmps)=true:=by unfold Region.wanted; rw [hg]
      split at h
      · unfold wpListIn
        rw [if_pos hw]
        unfold FS at h
        split at h
        · rename_i op t x yt ho
          split at h
          · rename_i e hu
            obtain ⟨c,h,hc⟩:=dk h ht
            split at h
            · rename_i rows
              obtain ⟨hop,h1,h2⟩:=ab h
              obtain ⟨b,hrun,hbr⟩:=re hop hu hc w x (.const (.slice none 0 0))
              have hex:(execOp a.eval o).run C.P w=.ok (.value (.bool b)) w:=by
                have:(execOp a.eval o)=(do pure (.value (← (do eqGuard op t x (.const (.slice none 0 0)) (a.eval x) (.slice none 0 0); binOp op t (a.eval x) (.slice none 0 0):Sem Value)))):=by
                  unfold execOp
                  rw [ho]
                  simp [Act.eval]
                rw [this,Sem.run_bind,hrun]
                rfl
              refine v8 (fun c hc=>by rw [ho] at hc; cases hc) (dE hex ?_)
              have h3:bN o.dst (.v (.bool b)) S fun S'=>xG C A pl all rest S' K:=by
                rcases hbr with ⟨rfl,hr⟩ | rfl
                · exact h1 hr
                · exact h2
              rw [aD] at h3
              exact lQ hO hC (hM.congr cG cH cQ) (ht.put (.v _ _ rfl)) h3 hQ
            · exact False.elim h
          · exact False.elim h
        · exact False.elim h
      · exact step hM ht hw h
    · rename_i j want hg
      split at h
      · exact False.elim h
      · rename_i d hd
        obtain ⟨b,S1,h,hb,hM1,ht1⟩:=jA hM ht h
        rcases kx hg (lB hd hb) h with ⟨hw,h⟩ | ⟨hw,h⟩
        · exact step hM1 ht1 hw h
        · rw [aD] at h
          unfold wpListIn
          rw [if_neg (by rw [hw]; exact fun h=>by cases h)]
          exact ⟨fun _ _=>trivial,lQ hO hC (hM1.congr cG cH cQ) (ht1.put (px _)) h hQ⟩
end
theorem zx {A:Gt} {id:Nat} {S:St} {K:St→Prop} (h:Co A id S K):∃ S',dV S S'∧K S':=by
  unfold Co at h
  split at h
  · exact kC h
  · exact ⟨S,.refl S,h⟩
theorem zy {cfg:nW} (hmix:cfg.P.follows .mixedOrders=true) {A:Gt} {pl:bV}:∀ (c:Code) {S:St} {K:Ex→St→Prop},jm pl A.ord c=true→t_ (ik cfg) (dN cfg.P) A pl c S K →
    ∀ (r:Option Nat) (G:Gh) (E:Env) (a:Act) (w:World) (Q:Exit→Act→World→Prop),ah G pn E S w→TR E S.t a→Dm G K Q→c.wpIn (rd r) 0 cfg.P Q a w:=by
  have hC:=zw cfg
  intro c
  induction c with
  | skip=>exact fun _ h r G E a w Q hM ht hQ=>wpIn_skip (hQ .nrm _ E _ _ h hM ht)
  | region id ops draw =>
    intro S K hB h r G E a w Q hM ht hQ
    cases draw with
    | false =>
      refine wpIn_region_list (lQ hC (jH cfg) hM ht h (fun S' E' a' w' hk hS htr=>?_))
      obtain ⟨S3,E3,hk,hS,htr⟩:=kw hS htr (ug hk)
      obtain ⟨S2,hw,hk⟩:=zx hk
      obtain ⟨E2,hM2,ht2⟩:=hw G E3 a' w' hS htr
      exact hQ .nrm _ _ _ _ hk hM2 ht2
    | true =>
      refine k_ hmix pl id ops S (fun e S'=>e=.nrm∧Co A id S' (K .nrm)) ?_ r G E a w Q hM ht (fun e S' E' a' w' hk hS htr=>?_)
      · unfold jm at hB
        have h':(match oU A.ord id with
        | some is=>bO (qL pl ops) (uW (ik cfg).P (cy ops.toList) S fun S1=>oT (ik cfg) (Cn A id) pl ops is none S1 fun S'=>jT (cy ops.toList) S' (tY (Cn A id) pl id S' fun S''=>Co A id S'' (K .nrm)))
        | none=>ad 440):=h
        split at hB
        · rename_i is js h1 h2
          rw [h1] at h'
          dsimp only at h'
          obtain ⟨h3,h'⟩:=ab h'
          refine al h3 ?_
          refine aw.mono ti h' (fun S1 h=>?_)
          rw [pN hB] at h
          refine aw.mono (tj hC.det) (DY hC h2 h) (fun S' h=>?_)
          obtain ⟨h4,h5⟩:=k8 h
          exact h5 _ (aw.mono ni (ug h4) (fun S'' h=>⟨rfl,h⟩))
        · cases hB
      · obtain ⟨rfl,hk⟩:=hk
        obtain ⟨S2,hw,hk⟩:=zx hk
        obtain ⟨E2,hM2,ht2⟩:=hw G E' a' w' hS htr
        exact hQ .nrm _ _ _ _ hk hM2 ht2
  | seq x y ihx ihy =>
    intro S K hB h r G E a w Q hM ht hQ
    unfold jm at hB
    rw [Bool.and_eq_true] at hB
    refine wpIn_seq (ihx hB.1 h r G E a w _ hM ht (fun e S' E' a' w' hk hS htr=>?_))
    cases e with
    | nrm =>
      dsimp only at hk
      split at hk
      · obtain ⟨S2,h1,⟨e2,S3,h2,h3,h4⟩,h5⟩:=kC hk
        subst h3 h4
        obtain ⟨E2,hM2,ht2⟩:=((lN _ _).trans h1) G E' a' w' hS htr
        refine h2 r G E2 a' w' Q hM2 ht2 (fun e' S'' E'' a'' w'' he hS' ht'=>?_)
        obtain ⟨rfl,rfl⟩:=he
        exact hQ _ _ _ _ _ h5 hS' ht'
      · exact ihy hB.2 hk r G E' a' w' Q hS htr hQ
    | ex i=>exact hQ (.ex i) _ _ _ _ hk hS htr
    | ret=>exact hQ .ret _ _ _ _ hk hS htr
  | cond c x y ihx ihy =>
    intro S K hB h r G E a w Q hM ht hQ
    unfold jm at hB
    rw [Bool.and_eq_true] at hB
    obtain ⟨b,S1,h1,h2,h3,h4⟩:=mJ hM ht h
    cases b with
    | true=>exact wpIn_cond_true h2 (ihx hB.1 h1 r G E a w Q h3 h4 hQ)
    | false=>exact wpIn_cond_false h2 (ihy hB.2 h1 r G E a w Q h3 h4 hQ)
  | block id c ih =>
    intro S K hB h r G E a w Q hM ht hQ
    refine wpIn_block (ih hB h r G E a w _ hM ht (fun e S' E' a' w' hk hS htr=>?_))
    cases e with
    | nrm=>exact hQ .nrm _ _ _ _ hk hS htr
    | ret=>exact hQ .ret _ _ _ _ hk hS htr
    | ex i =>
      show Exit.inBlock id Q (.exit i) a' w'
      unfold Exit.inBlock
      dsimp only at hk
      split at hk
      · rename_i hb
        have:=Nat.eq_of_beq_eq_true hb
        subst this
        simp only [if_pos]
        exact hQ .nrm _ _ _ _ hk hS htr
      · rename_i hb
        have hne:¬ i=id:=fun e=>by subst e; simp at hb
        simp only [if_neg hne]
        exact hQ (.ex i) _ _ _ _ hk hS htr
  | loop c ih =>
    intro S K hB h r G E a w Q hM ht hQ
    have h':(match oU A.lps (nN c) with
    | some (W,L,e,S1)=>DD L (wk W S) fun S2=>((ik cfg).loop pl c S2 fun e' S'=>e'=e∧S'=S1)∧K e S1
    | none=>(ik cfg).loop pl c S K):=h
    split at h'
    · obtain ⟨S2,h1,h2,h3⟩:=kC h'
      obtain ⟨E2,hM2,ht2⟩:=((lN _ _).trans h1) G E a w hM ht
      refine jI cfg pl c S2 _ h2 r G E2 a w Q hM2 ht2 (fun e' S'' E'' a'' w'' he hS' ht'=>?_)
      obtain ⟨rfl,rfl⟩:=he
      exact hQ _ _ _ _ _ h3 hS' ht'
    · exact jI cfg pl c S K h' r G E a w Q hM ht hQ
  | exit id=>exact fun _ h r G E a w Q hM ht hQ=>wpIn_exit (hQ (.ex id) _ E _ _ h hM ht)
  | ret=>exact fun _ h r G E a w Q hM ht hQ=>wpIn_ret (hQ .ret _ E _ _ h hM ht)
  | _=>exact fun _ h=>False.elim h
theorem dN.of {cfg:nW} (hmix:cfg.P.follows .mixedOrders=true) {pl:bV} {c:Code} {S S1:St} {e:Ex} {K:Ex→St→Prop} {A:Gt} {we:List (Nat×(Wk×Le))} (hB:jm pl A.ord c=true)
    (h:GA (ik cfg) (dN cfg.P) A pl we c S (fun e' S'=>e'=e∧S'=S1)) (hk:K e S1):dN cfg.P c S K:=by
  refine ⟨e,S1,fun r G E a w Q hM ht hQ=>?_,hk⟩
  refine zy hmix c hB h r G E a w Q hM ht (fun e' S' E' a' w' hk hS htr=>?_)
  dsimp only at hk
  split at hk
  · obtain ⟨S2,h1,rfl,rfl⟩:=kC hk
    obtain ⟨E2,hM2,ht2⟩:=((lN _ _).trans h1) G E' a' w' hS htr
    exact hQ _ _ _ _ _ ⟨rfl,rfl⟩ hM2 ht2
  · obtain ⟨rfl,rfl⟩:=hk
    exact hQ _ _ _ _ _ ⟨rfl,rfl⟩ hS htr
theorem iA.round {cfg:nW} {pl:bV} {c:Code} {S:St} {K:Ex→St→Prop}
    (h:dN cfg.P c S fun e S'=>match e with
      | .nrm=>iA cfg.P pl c S' K
      | .ex i=>K (.ex i) S'
      | .ret=>K .ret S'):iA cfg.P pl c S K:=by
  obtain ⟨e1,S1,h2,h1⟩:=h
  have run:∀ (e:Ex) (S3:St) (n:Nat),(∀ (r:Option Nat) (G:Gh) (E:Env) (a:Act) (w:World) (Q:Exit→Act→World→Prop),ah G pn E S1 w→TR E S1.t a→Dm G (fun e' S''=>e'=e∧S''=S3) Q→Exit.then (Code.roundsIn (rd r) 0 cfg.P c Q n) Q (EM e1) a w) →
      ∀ (r:Option Nat) (G:Gh) (E:Env) (a:Act) (w:World) (Q:Exit→Act→World→Prop),ah G pn E S w→TR E S.t a→Dm G (fun e' S''=>e'=e∧S''=S3) Q→Code.roundsIn (rd r) 0 cfg.P c Q (n + 1) a w:=by
    intro e S3 n hn r G E a w Q hM ht hQ
    refine h2 r G E a w _ hM ht (fun e' S' E' a' w' hk hS htr=>?_)
    obtain ⟨rfl,rfl⟩:=hk
    exact hn r G E' a' w' Q hS htr hQ
  cases e1 with
  | nrm =>
    obtain ⟨n,e,S',hl,hk⟩:=h1
    exact ⟨n + 1,e,S',run e S' n (fun r G E a w Q hM ht hQ=>hl r G E a w Q hM ht hQ),hk⟩
  | ex i=>exact ⟨1,.ex i,S1,run _ _ 0 (fun r G E a w Q hM ht hQ=>hQ _ _ _ _ _ ⟨rfl,rfl⟩ hM ht),h1⟩
  | ret=>exact ⟨1,.ret,S1,run _ _ 0 (fun r G E a w Q hM ht hQ=>hQ _ _ _ _ _ ⟨rfl,rfl⟩ hM ht),h1⟩
def rk {σ τ:Type} (Sf:σ→St) (out:τ→Ex×St) (r:σ⊕τ) (e:Ex) (S':St):Prop :=
  match r with
  | .inl s'=>e=.nrm∧S'=Sf s'
  | .inr t=>e≠.nrm∧e=(out t).1∧S'=(out t).2
theorem KT {σ τ:Type} {Sf:σ→St} {out:τ→Ex×St} {s:σ}:rk Sf out (.inl s) .nrm (Sf s):=⟨rfl,rfl⟩
def pk {τ:Type} (out:τ→Ex×St) (t:τ) (e:Ex) (S':St):Prop:=e=(out t).1∧S'=(out t).2
theorem iA.iter {cfg:nW} {pl:bV} {c:Code} {σ τ:Type} {step:σ→Option (σ⊕τ)} (Sf:σ→St) (out:τ→Ex×St)
    (hs:∀ s r,step s=some r→dN cfg.P c (Sf s) (rk Sf out r)):∀ (n:Nat) (s:σ) (t:τ),A.iter step n s=some t→iA cfg.P pl c (Sf s) fun e S'=>e=(out t).1∧S'=(out t).2
  | 0,s,t,h=>by cases h
  | n + 1,s,t,h=>by
    unfold A.iter at h
    split at h
    · cases h
    · rename_i s' hs'
      refine iA.round ((hs s _ hs').mono fun e S' h1=>?_)
      obtain ⟨rfl,rfl⟩:=h1
      exact iA.iter Sf out hs n s' t h
    · rename_i t' ht'
      cases h
      refine iA.round ((hs s _ ht').mono fun e S' h1=>?_)
      obtain ⟨h0,h1,h2⟩:=h1
      cases e with
      | nrm=>exact absurd rfl h0
      | ex i=>exact ⟨h1,h2⟩
      | ret=>exact ⟨h1,h2⟩
theorem eM.le {P:Program} {f:Nat} {as as':List AV} {K:AV→Prop} (h:eM P f as' K) (hl:cR as as'):eM P f as K:=by
  obtain ⟨r,⟨h1,h2⟩,h3⟩:=h
  exact ⟨r,⟨h1,fun F w us hF hg hv=>h2 F w us hF hg (hl.vrs hv)⟩,h3⟩
theorem eM.to {P:Program} {f:Nat} {as:List AV} {r:AV} (h:eM P f as fun x=>cV x r):eM P f as fun x=>x=r:=by
  obtain ⟨x,⟨h1,h2⟩,h3⟩:=h
  refine ⟨r,⟨h1,fun F w us hF hg hv=>(h2 F w us hF hg hv).mono ?_⟩,rfl⟩
  rintro e w' ⟨v,F',h4,h5,h6⟩
  exact ⟨v,F',h4,h3 _ _ h5,h6⟩
def cI (k:IntKind) (x:Int):AV:=.v (.int k x)
def Hs (x:Bool):AV:=.v (.bool x)
def lc {α:Type} (f:α→List AV) (x:α):AV:=.agg (f x)
def ac (k:IntKind) (x:Int):List AV:=[.v (.int k x)]
def il (x:Bool):List AV:=[.v (.bool x)]
def md {α:Type} (f:α→List AV) (l:List α):List AV:=[.sl (l.map f)]
def jJ {α β:Type} (f:α→AV) (g:β→AV) (e:α×β):AV×AV:=(f e.1,g e.2)
theorem xK {k:IntKind} {a b:Int} (h:(a==b)=true):AV.v (.int k a)=AV.v (.int k b):=by rw [eq_of_beq h]
theorem kS {i:Nat}:Ex.ex i≠Ex.nrm:=fun h=>by cases h
theorem z1:Ex.ret≠Ex.nrm:=fun h=>by cases h
theorem E0 {α:Type} (f:α→List AV) (l:List α):AV.v (.int .i64 (((l.map f).length:Nat):Int))=AV.v (.int .i64 (l.length:Int)):=by rw [List.length_map]
theorem DZ {α:Type} (f:α→List AV) {l:List α} {i:Int} {x:α} (h:aN l i=some x):FM (l.map f) i=some (f x):=by
  unfold aN at h
  unfold FM
  split
  · rename_i h0
    rw [if_pos h0] at h
    rw [List.getElem?_map,h]
    rfl
  · rename_i h0
    rw [if_neg h0] at h
    cases h
theorem bp {α:Type} (f:α→List AV) {l:List α} {i:Int} {x:α} (h:aN l i=some x):(l.map f)[i.toNat]?=some (f x):=by
  unfold aN at h
  split at h
  · rw [List.getElem?_map,h]
    rfl
  · cases h
theorem D1 {α:Type} (f:α→List AV) (l:List α) {sz:Nat} (hf:∀ x,Nat.beq (f x).length sz=true):oY sz (l.map f)=true:=by
  cases l with
  | nil=>rfl
  | cons x l=>exact hf x
theorem AW {α:Type} (f:α→List AV) (l:List α) (hf:∀ x,(f x).all kF=true):fo (l.map f)=true:=by
  unfold fo
  rw [List.all_eq_true]
  intro r hr
  obtain ⟨x,_,rfl⟩:=List.mem_map.1 hr
  exact hf x
theorem xL {α:Type} (f:α→List AV) (l m:List α):l.map f++m.map f=(l++m).map f:=List.map_append.symm
theorem bA {α:Type} (f:α→List AV) (l:List α) (i:Nat) (x:α):(l.map f).set i (f x)=(l.set i x).map f:=(List.map_set).symm
theorem E4 {α:Type} (f:α→List AV) (n:Nat) (x:α):List.replicate n (f x)=(List.replicate n x).map f:=List.map_replicate.symm
theorem E5 {α:Type} (f:α→List AV) (l:List α) (i off a b:Nat):AV.msl i off (a + (l.map f).length) (b - (l.map f).length)=AV.msl i off (a + l.length) (b - l.length):=by rw [List.length_map]
theorem E6 {α:Type} (f:α→List AV) (l m:List α) (a:Nat):(l.map f).take a++(m.map f++(l.map f).drop (a + (m.map f).length))=(l.take a++(m++l.drop (a + m.length))).map f:=by
  rw [List.length_map,List.map_append,List.map_append,List.map_take,List.map_drop]
theorem Cy {α:Type} {f:α→List AV} {l:List α} {k:Nat} (h:Nat.ble l.length k=true):Nat.ble (l.map f).length k=true:=by rw [List.length_map]; exact h
theorem Cz {α:Type} {f:α→List AV} {l:List α} {k:Nat} (h:Nat.ble k l.length=true):Nat.ble k (l.map f).length=true:=by rw [List.length_map]; exact h
theorem Ht {α:Type} (f:α→List AV) (l:List α) (a b:Nat):AV.sl (((l.map f).drop a).take b)=AV.sl (((l.drop a).take b).map f):=by rw [List.map_take,List.map_drop]
theorem GB {α:Type} (f:α→List AV) (l:List α) (a b:Nat):cV (.sl (((l.map f).drop a).take b)) (.sl (((l.drop a).take b).map f)):=by rw [Ht]; exact cV.refl _
theorem E7 {α:Type} (f:α→List AV) {l:List α} (h:l.map f=[]):cV .nilsl (.sl (l.map f)):=by rw [h]; exact cV.nil
theorem GC {α:Type} (f:α→List AV) (n:Nat) {z:List AV} {x:α} (h:cR z (f x)):gX (List.replicate n z) ((List.replicate n x).map f):=by
  rw [List.map_replicate]
  refine ⟨by simp,fun i a b h1 h2=>?_⟩
  rw [List.getElem?_replicate] at h1 h2
  split at h1
  · cases h1
    rename_i hi
    rw [if_pos hi] at h2
    cases h2
    exact h
  · cases h1
theorem E8 (n i off a b:Nat) (z:List AV):AV.msl i off a ((List.replicate n z).length - b)=AV.msl i off a (n - b):=by rw [List.length_replicate]
theorem E9 {α:Type} {f:α→List AV} {l:List α} {k m:Nat} (h:Nat.ble (l.length * k) m=true):Nat.ble ((l.map f).length * k) m=true:=by rw [List.length_map]; exact h
theorem wC {α:Type} {f:α→List AV} {l:List α} {k m n:Nat} (h:Nat.ble ((l.length + n) * k) m=true):Nat.ble (((l.map f).length + n) * k) m=true:=by rw [List.length_map]; exact h
theorem CB {α:Type} {f:α→List AV} {l l':List α} {k m:Nat} (h:Nat.ble ((l.length + l'.length) * k) m=true):Nat.ble (((l.map f).length + (l'.map f).length) * k) m=true:=by rw [List.length_map,List.length_map]; exact h
section
variable {α:Type} (f:α→List AV)
end
theorem lR {α:Type} {P:Program} (c:Prop) [Decidable c] (x y:Sem α):ax P (if c then x else y)=if c then ax P x else ax P y:=by
  split <;> rfl
def GD (f:Nat→Option Bool):List Nat→Option Bool
  | []=>some true
  | i::is=>match f i with
    | some e=>match GD f is with
      | some s=>some (e&&s)
      | none=>none
    | none=>none
def Bw (P:Program):Nat→TypeId→Value→Value→Option Bool
  | 0,_,_,_=>none
  | n + 1,t,x,y =>
    match P.underlying t,x,y with
    | some .bool,.bool a,.bool b=>some (a==b)
    | some (.int _),.int k a,.int k' b=>if k=k' then some (a==b) else none
    | some .string,.string a,.string b=>some (a.toList==b.toList)
    | some (.struct fs),.agg xs,.agg ys=>match P.stoodInHeld t with
      | true=>none
      | false => fs.toList.foldr (fun f (r : Option Bool × Bool) => match f.name == "_", ax P (part f.type xs f.offset), ax P (part f.type ys f.offset) with
          | false,some a,some b=>match Bw P n f.type a b,r with
            | some e,(_,false)=>(some e,true)
            | some e,(some s,true)=>(some (e&&s),true)
            | _,_=>(none,true)
          | _,_,_=>(none,true)) (some true,false) |>.1
    | some (.array len e),.agg xs,.agg ys=>match ax P (sizeOf e) with
      | some m=>GD (fun i=>match ax P (part e xs (i * m)),ax P (part e ys (i * m)) with
        | some a,some b=>Bw P n e a b
        | _,_=>none) (List.range' 0 len)
      | none=>none
    | _,_,_=>none
theorem fm {P:Program} {t:TypeId} {d:TypeDesc} (h:P.underlying t=some d):ax P (underlying t)=some d:=by
  unfold underlying
  simp [aO,program,ax,h]
  rfl
theorem CC {P:Program} {t:TypeId} {fs:Array Field} {xs ys:Array Value} {d:Nat} (ht:P.underlying t=some (.struct fs)) (hp:P.stoodInHeld t=false) :
    ax P (Op.equalIn (d + 1) t (.agg xs) (.agg ys))=ax P (Op.eqFields d xs ys fs.toList):=by
  simp only [Op.equalIn,aO,fm ht,Option.bind_some]
  have hprog:ax P program=some P:=rfl
  simp only [aO,hprog,Option.bind_some,hp,Bool.false_eq_true,if_false]
  rw [← Array.forIn_toList]
  generalize fs.toList=l
  clear ht
  induction l with
  | nil=>rfl
  | cons f l ih =>
    simp only [List.forIn_cons,Op.eqFields,aO,lR]
    split
    · try simp only [aO]
      generalize ax P (part f.type xs f.offset)=r1
      cases r1 with
      | none=>rfl
      | some a =>
        simp only [Option.bind_some]
        generalize ax P (part f.type ys f.offset)=r2
        cases r2 with
        | none=>rfl
        | some b =>
          simp only [Option.bind_some]
          generalize ax P (Op.equalIn d f.type a b)=r3
          cases r3 with
          | none=>rfl
          | some r =>
            cases r
            · rfl
            · simp only [Option.bind_some]
              exact ih
    · exact ih
def rV (d:Nat) (e:TypeId) (m:Nat) (xs ys:Array Value):List Nat→Sem Bool
  | []=>pure true
  | i::is=>do
    if !(← Op.equalIn d e (← part e xs (i * m)) (← part e ys (i * m))) then return false
    rV d e m xs ys is
theorem D2 {P:Program} {t e:TypeId} {len m:Nat} {xs ys:Array Value} {d:Nat} (ht:P.underlying t=some (.array len e)) (hm:ax P (sizeOf e)=some m) :
    ax P (Op.equalIn (d + 1) t (.agg xs) (.agg ys))=ax P (rV d e m xs ys (List.range' 0 len)):=by
  simp only [Op.equalIn,aO,fm ht,Option.bind_some,hm]
  simp only [Std.Legacy.Range.forIn_eq_forIn_range',Std.Legacy.Range.size,Nat.sub_zero,Nat.add_one_sub_one,Nat.div_one]
  generalize List.range' 0 len=l
  clear ht
  induction l with
  | nil=>rfl
  | cons i l ih =>
    simp only [List.forIn_cons,rV,aO,lR]
    generalize ax P (part e xs (i * m))=r1
    cases r1 with
    | none=>rfl
    | some a =>
      simp only [Option.bind_some]
      generalize ax P (part e ys (i * m))=r2
      cases r2 with
      | none=>rfl
      | some b =>
        simp only [Option.bind_some]
        generalize ax P (Op.equalIn d e a b)=r3
        cases r3 with
        | none=>rfl
        | some r =>
          cases r
          · rfl
          · simp only [Option.bind_some]
            exact ih
theorem lf {P:Program}:∀ (n d:Nat) {t:TypeId} {x y:Value} {b:Bool},n≤d→Bw P n t x y=some b→ax P (Op.equalIn d t x y)=some b
  | 0,_,_,_,_,_,_,h=>by cases h
  | n + 1,0,_,_,_,_,hd,_=>by omega
  | n + 1,d + 1,t,x,y,b,hd,h=>by
    unfold Bw at h
    split at h
    · rename_i hu
      cases h
      simp only [Op.equalIn,aO,fm hu,Option.bind_some]
      rfl
    · rename_i hu
      split at h
      · rename_i hk
        cases h
        simp only [Op.equalIn,aO,fm hu,Option.bind_some]
        rw [if_pos hk]
        rfl
      · cases h
    · rename_i hu
      cases h
      simp only [Op.equalIn,aO,fm hu,Option.bind_some,← beq_toListBytes]
      rfl
    · rename_i fs xs ys hu
      split at h
      · cases h
      · rename_i hp
        rw [CC hu hp]
        have key : ∀ (l : List Field) (r : Option Bool) (m : Bool), l.foldr (fun f (r : Option Bool × Bool) => match f.name == "_", ax P (part f.type xs f.offset), ax P (part f.type ys f.offset) with
          | false,some a,some b=>match Bw P n f.type a b,r with
            | some e,(_,false)=>(some e,true)
            | some e,(some s,true)=>(some (e&&s),true)
            | _,_=>(none,true)
          | _,_,_=>(none,true)) (some true,false)=(r,m)→(m=false→l=[])∧∀ b,r=some b→ax P (Op.eqFields d xs ys l)=some b:=by
          intro l
          induction l with
          | nil =>
            intro r m h
            cases h
            exact ⟨fun _=>rfl,fun b hb=>by cases hb; rfl⟩
          | cons f l ih =>
            intro r m h
            rw [List.foldr_cons] at h
            generalize hq:(l.foldr _ (some true,false):Option Bool×Bool)=q at h
            obtain ⟨r',m'⟩:=q
            obtain ⟨ih1,ih2⟩:=ih r' m' hq
            split at h
            · rename_i a b hn ha hb
              have hn' : f.name ≠ "_" := by simpa using hn
              have step:∀ e,Bw P n f.type a b=some e→ax P (Op.eqFields d xs ys (f::l))=match e with | true=>ax P (Op.eqFields d xs ys l) | false=>some false:=by
                intro e he
                simp only [Op.eqFields]
                rw [if_pos hn']
                simp only [aO,ha,hb,Option.bind_some,lf n d (by omega) he]
                cases e <;> rfl
              cases hv:Bw P n f.type a b with
              | none =>
                rw [hv] at h
                cases h
                exact ⟨fun h=>(by cases h),fun b' hb'=>(by cases hb')⟩
              | some e =>
                rw [hv] at h
                cases m' with
                | false =>
                  cases h
                  refine ⟨fun h=>(by cases h),fun b' hb'=>?_⟩
                  cases hb'
                  rw [step e hv,ih1 rfl]
                  cases e <;> rfl
                | true =>
                  cases r' with
                  | none =>
                    cases h
                    exact ⟨fun h=>(by cases h),fun b' hb'=>(by cases hb')⟩
                  | some s =>
                    cases h
                    refine ⟨fun h=>(by cases h),fun b' hb'=>?_⟩
                    cases hb'
                    rw [step e hv,ih2 s rfl]
                    cases e <;> rfl
            · cases h
              exact ⟨fun h=>(by cases h),fun b' hb'=>(by cases hb')⟩
        generalize hq:(fs.toList.foldr _ (some true,false):Option Bool×Bool)=q at h
        obtain ⟨r,m⟩:=q
        exact (key _ r m hq).2 b h
    · rename_i len e xs ys hu
      split at h
      · rename_i m hm
        rw [D2 hu hm]
        generalize List.range' 0 len=l at h ⊢
        induction l generalizing b with
        | nil =>
          cases h
          rfl
        | cons i l ih =>
          unfold GD at h
          split at h
          · rename_i c hc
            split at hc
            · rename_i u v h1 h2
              split at h
              · rename_i s hs
                cases h
                simp only [rV,aO,h1,h2,Option.bind_some,lf n d (by omega) hc]
                cases c
                · rfl
                · exact ih _ hs
              · cases h
            · cases hc
          · cases h
      · cases h
    · cases h
theorem CE {P:Program} {t:TypeId} {xs ys:List Value} {b:Bool} (hg:P.eqGuardType P.depth t=false) (h:Bw P 16 t (.agg xs.toArray) (.agg ys.toArray)=some b):kV P .eql t xs ys=some (.bool b):=by
  unfold kV
  have h1:ax P (eqGuard .eql t (.tmp 0) (.tmp 0) (.agg xs.toArray) (.agg ys.toArray))=some ():=by
    simp [eqGuard,aO,program,ax,hg]
    rfl
  have h2:ax P (binOp .eql t (.agg xs.toArray) (.agg ys.toArray))=some (.bool b):=by
    have:=lf (P:=P) 16 10000 (by omega) h
    simp only [binOp,Op.equal,Op.maxDepth]
    rw [aO,this]
    rfl
  rw [aO,h1]
  exact h2
theorem CF {P:Program} {t:TypeId} {xs ys:List Value} {b:Bool} (hg:P.eqGuardType P.depth t=false) (h:Bw P 16 t (.agg xs.toArray) (.agg ys.toArray)=some b):kV P .neq t xs ys=some (.bool (!b)):=by
  unfold kV
  have h1:ax P (eqGuard .neq t (.tmp 0) (.tmp 0) (.agg xs.toArray) (.agg ys.toArray))=some ():=by
    simp [eqGuard,aO,program,ax,hg]
    rfl
  have h2:ax P (binOp .neq t (.agg xs.toArray) (.agg ys.toArray))=some (.bool (!b)):=by
    have:=lf (P:=P) 16 10000 (by omega) h
    simp only [binOp,Op.equal,Op.maxDepth]
    rw [aO,this]
    rfl
  rw [aO,h1]
  exact h2
structure By (P:Program) (kt:TypeId) {κ:Type} (kf:κ→AV) (kv:κ→Value) (beq:κ→κ→Bool):Prop where
  tok:∀ k,rL (kf k)=some (kv k)
  eqv:∀ a b,Bw P 16 kt (kv a) (kv b)=some (beq a b)
  chk:∀ e k,ax P (Instr.checkKey e 10000 kt (kv k))=some ()
  sam:∀ a b,beq a b=true→Instr.sameBits 10000 (kv b) (kv a)=true
def xM:List Bool→Nat→Option Nat
  | [],_=>none
  | true::_,i=>some i
  | false::bs,i=>xM bs (i + 1)
theorem ui {P:Program} {kt:TypeId} {x:Value}:∀ {es:List MapEntry} {bs:List Bool} {i:Nat},es.length=bs.length→(∀ (j:Nat) (e:MapEntry) (b:Bool),es[j]?=some e→bs[j]?=some b→Bw P 16 kt x e.key=some b) →
    ∃ r,ax P (Instr.findAsking kt x es i)=some r∧r.map (·.1)=xM bs i
  | [],[],i,_,_=>⟨none,rfl,rfl⟩
  | [],_::_,_,h,_=>by simp at h
  | _::_,[],_,h,_=>by simp at h
  | e::es,b::bs,i,hl,hv=>by
    have h0:=lf (P:=P) 16 10000 (by omega) (hv 0 e b rfl rfl)
    unfold Instr.findAsking
    rw [aO]
    have h1:ax P (Op.equal kt x e.key)=some b:=h0
    rw [h1,Option.bind_some,lR]
    cases b with
    | true=>exact ⟨some (i,e.val),rfl,rfl⟩
    | false=>exact ui (es:=es) (bs:=bs) (i:=i + 1) (by simpa using hl) (fun j e' b' h2 h3=>hv (j + 1) e' b' (by simpa using h2) (by simpa using h3))
theorem Bz {P:Program} {kt:TypeId} {x:Value} {d:TypeDesc} (hd:P.underlying kt=some d):∀ {es:List MapEntry} {bs:List Bool} {i:Nat} {r:Option (Nat×Value)},es.length=bs.length→(∀ (j:Nat) (e:MapEntry) (b:Bool),es[j]?=some e→bs[j]?=some b→Bw P 16 kt x e.key=some b) →
    Instr.findNow d x es i=some r→r.map (·.1)=xM bs i
  | [],[],i,r,_,_,h=>by cases h; rfl
  | [],_::_,_,_,h,_,_=>by simp at h
  | _::_,[],_,_,h,_,_=>by simp at h
  | e::es,b::bs,i,r,hl,hv,h=>by
    have h0:=hv 0 e b rfl rfl
    have hs:∀ c,Instr.sameNow d x e.key=some c→c=b:=by
      intro c hc
      unfold Bw at h0
      rw [hd] at h0
      generalize e.key=y at h0 hc
      unfold Instr.sameNow at hc
      split at hc
      · dsimp only at h0
        split at hc
        · rename_i hk
          rw [if_pos hk] at h0
          rw [hc] at h0
          exact Option.some.inj h0
        · cases hc
      · dsimp only at h0
        rw [beq_toListBytes] at hc
        rw [hc] at h0
        exact Option.some.inj h0
      · dsimp only at h0
        rw [hc] at h0
        exact Option.some.inj h0
      · cases hc
    unfold Instr.findNow at h
    split at h
    · rename_i hc
      cases h
      rw [← hs _ hc]
      rfl
    · rename_i hc
      rw [← hs _ hc]
      exact Bz hd (es:=es) (bs:=bs) (i:=i + 1) (by simpa using hl) (fun j e' b' h2 h3=>hv (j + 1) e' b' (by simpa using h2) (by simpa using h3)) h
    · cases h
theorem E_ {P:Program} {kt:TypeId} {x:Value} {es:List MapEntry} {bs:List Bool} {d:TypeDesc} (hd:P.underlying kt=some d) (hl:es.length=bs.length) (hv:∀ (j:Nat) (e:MapEntry) (b:Bool),es[j]?=some e→bs[j]?=some b→Bw P 16 kt x e.key=some b) :
    ∃ r,ax P (Instr.findKey kt x es)=some r∧r.map (·.1)=xM bs 0:=by
  unfold Instr.findKey
  rw [aO,fm hd,Option.bind_some]
  split
  · rename_i r hr
    exact ⟨r,rfl,Bz hd hl hv hr⟩
  · exact ui hl hv
theorem uj {κ β:Type} {kf:κ→AV} {kv:κ→Value} {vf:β→AV} (ht:∀ k,rL (kf k)=some (kv k)):∀ l:List (κ×β),keysOf (l.map (jJ kf vf))=some (l.map fun e=>({ key:=kv e.1,val:=.bool false,born:=0 }:MapEntry))
  | []=>rfl
  | e::l=>by
    show (match rL (kf e.1),keysOf (l.map (jJ kf vf)) with
      | some x,some xs=>some (({ key:=x,val:=.bool false,born:=0 }:MapEntry)::xs)
      | _,_=>none)=_
    rw [ht,uj ht l]
    rfl
theorem wD {P:Program} {kt:TypeId} {κ β:Type} {kf:κ→AV} {kv:κ→Value} {beq:κ→κ→Bool} {vf:β→AV} (hd:(P.underlying kt).isSome=true) (hk:By P kt kf kv beq) (l:List (κ×β)) (k:κ) {K:Value→Option Nat→Prop}
    (h:K (kv k) (xM (l.map fun e=>beq k e.1) 0)):gM P kt (kf k) (l.map (jJ kf vf)) K:=by
  obtain ⟨d,hd⟩:=Option.isSome_iff_exists.1 hd
  unfold gM
  rw [hk.tok,uj hk.tok]
  dsimp only
  rw [hk.chk]
  obtain ⟨r,h1,h2⟩:=E_ (P:=P) (x:=kv k) (es:=l.map fun e=>({ key:=kv e.1,val:=.bool false,born:=0 }:MapEntry)) (bs:=l.map fun e=>beq k e.1) hd (by simp) (fun j e b h1 h2=>by
    rw [List.getElem?_map,Option.map_eq_some_iff] at h1 h2
    obtain ⟨x,h3,rfl⟩:=h1
    obtain ⟨y,h4,rfl⟩:=h2
    rw [h3] at h4
    cases h4
    exact hk.eqv _ _)
  rw [h1]
  dsimp only
  rw [h2]
  exact h
theorem pO {κ β:Type} {beq:κ→κ→Bool} {k:κ}:∀ (l:List (κ×β)) (i:Nat),(xM (l.map fun e=>beq k e.1) i=none∧dh beq l k=none)∨∃ j e,xM (l.map fun e=>beq k e.1) i=some (i + j)∧l[j]?=some e∧beq k e.1=true∧dh beq l k=some e.2
  | [],i=>.inl ⟨rfl,rfl⟩
  | e::l,i=>by
    rw [List.map_cons]
    cases hb:beq k e.1 with
    | true=>exact .inr ⟨0,e,rfl,rfl,hb,by unfold dh; rw [if_pos hb]⟩
    | false =>
      have hg:dh beq (e::l) k=dh beq l k:=by
        show (if beq k e.1=true then some e.2 else dh beq l k)=_
        rw [if_neg (by rw [hb]; exact Bool.false_ne_true)]
      rcases pO (β:=β) (beq:=beq) (k:=k) l (i + 1) with ⟨h1,h2⟩ | ⟨j,e',h1,h2,h3,h4⟩
      · exact .inl ⟨h1,hg.trans h2⟩
      · exact .inr ⟨j + 1,e',by rw [show i + (j + 1)=i + 1 + j by omega]; exact h1,h2,h3,hg.trans h4⟩
def Fa (P:Program) (kt e:TypeId) {κ β:Type} (kf:κ→AV) (beq:κ→κ→Bool) (vf:β→AV) (z:β) (l:List (κ×β)) (k:κ):Prop :=
  ∀ k':AV→Prop,k' (vf ((dh beq l k).getD z))→gM P kt (kf k) (l.map (jJ kf vf)) fun _ r=>iP P e false (l.map (jJ kf vf)) r k'
def Fb (P:Program) (kt:TypeId) {κ β:Type} (kf:κ→AV) (beq:κ→κ→Bool) (vf:β→AV) (l:List (κ×β)) (k:κ) (v:β):Prop :=
  ∀ K':List (AV×AV)→Prop,K' ((eb beq l k v).map (jJ kf vf))→gM P kt (kf k) (l.map (jJ kf vf)) fun kv' r=>bO (wR P kt kv') (
          match r with
          | some i=>bO (Instr.sameBits 10000 (((l.map (jJ kf vf))[i]?.bind fun e=>rL e.1).getD (.bool false)) kv') (K' ((l.map (jJ kf vf)).set i (kf k,vf v)))
          | none=>K' (l.map (jJ kf vf)++[(kf k,vf v)]))
theorem GE {P:Program} {kt e:TypeId} {κ β:Type} {kf:κ→AV} {kv:κ→Value} {beq:κ→κ→Bool} {vf:β→AV} (hd:(P.underlying kt).isSome=true) (hk:By P kt kf kv beq) (z:β) (hz:∀ k',hU P e false k'=k' (vf z)) (l:List (κ×β)) (k:κ) :
    ∀ k':AV→Prop,k' (vf ((dh beq l k).getD z))→gM P kt (kf k) (l.map (jJ kf vf)) fun _ r=>iP P e false (l.map (jJ kf vf)) r k':=by
  intro k' h
  refine wD hd hk l k ?_
  rcases pO (β:=β) (beq:=beq) (k:=k) l 0 with ⟨h1,h2⟩ | ⟨j,en,h1,h2,h3,h4⟩
  · rw [h1]
    show hU P e false k'
    rw [hz]
    rw [h2] at h
    exact h
  · rw [h1]
    show iP P e false _ (some (0 + j)) k'
    unfold iP
    dsimp only
    rw [Nat.zero_add,List.getElem?_map,h2]
    rw [h4] at h
    exact h
theorem wE {κ β:Type} {beq:κ→κ→Bool} {k:κ} {v:β}:∀ {l:List (κ×β)},dh beq l k=none→eb beq l k v=l++[(k,v)]
  | [],_=>rfl
  | e::l,h=>by
    unfold dh at h
    split at h
    · cases h
    · rename_i hb
      show (if beq k e.1=true then (k,v)::l else e::eb beq l k v)=_
      rw [if_neg hb,wE h]
      rfl
theorem wF {κ β:Type} {beq:κ→κ→Bool} {k:κ} {v:β}:∀ {l:List (κ×β)} {i j:Nat},xM (l.map fun e=>beq k e.1) i=some (i + j)→eb beq l k v=l.set j (k,v)
  | [],_,_,h=>by cases h
  | e::l,i,j,h=>by
    rw [List.map_cons] at h
    show (if beq k e.1=true then (k,v)::l else e::eb beq l k v)=_
    cases hb:beq k e.1 with
    | true =>
      rw [hb] at h
      have:i=i + j:=Option.some.inj h
      have:j=0:=by omega
      subst this
      rw [if_pos rfl]
      rfl
    | false =>
      rw [hb] at h
      have h':xM (l.map fun e=>beq k e.1) (i + 1)=some (i + j):=h
      rw [if_neg (by exact Bool.false_ne_true)]
      rcases pO (β:=β) (beq:=beq) (k:=k) l (i + 1) with ⟨h1,_⟩ | ⟨j',e',h1,_⟩
      · rw [h1] at h'; cases h'
      · rw [h1] at h'
        have:i + 1 + j'=i + j:=Option.some.inj h'
        have:j=j' + 1:=by omega
        subst this
        rw [wF h1]
        rfl
theorem GF {P:Program} {kt:TypeId} {κ β:Type} {kf:κ→AV} {kv:κ→Value} {beq:κ→κ→Bool} {vf:β→AV} (hd:(P.underlying kt).isSome=true) (hk:By P kt kf kv beq) (l:List (κ×β)) (k:κ) (v:β) :
    ∀ K':List (AV×AV)→Prop,K' ((eb beq l k v).map (jJ kf vf))→gM P kt (kf k) (l.map (jJ kf vf)) fun kv' r=>bO (wR P kt kv') (
          match r with
          | some i=>bO (Instr.sameBits 10000 (((l.map (jJ kf vf))[i]?.bind fun e=>rL e.1).getD (.bool false)) kv') (K' ((l.map (jJ kf vf)).set i (kf k,vf v)))
          | none=>K' (l.map (jJ kf vf)++[(kf k,vf v)])):=by
  intro K' h
  refine wD hd hk l k ?_
  refine al (by unfold wR; rw [hk.chk]) ?_
  rcases pO (β:=β) (beq:=beq) (k:=k) l 0 with ⟨h1,h2⟩ | ⟨j,en,h1,h2,h3,h4⟩
  · rw [h1]
    rw [wE h2,List.map_append] at h
    exact h
  · rw [h1]
    rw [wF h1,List.map_set] at h
    rw [Nat.zero_add]
    refine al ?_ h
    rw [List.getElem?_map,h2]
    show Instr.sameBits 10000 ((rL (kf en.1)).getD (.bool false)) (kv k)=true
    rw [hk.tok]
    exact hk.sam _ _ h3
section
variable {P:Program} {kt:TypeId} {κ:Type} {kf:κ→AV} {kv:κ→Value} {beq:κ→κ→Bool}
end
def kD (H:Type) (P:Program) (t:TypeId) {α:Type} (f:α→List AV) (wf:α→Prop):Prop:=∀ (n:Nat) (d:DataW H),dH P n t d=true→∃ x,cR (gG P n t d) (f x)∧wf x
def gH (H:Type) (P:Program) (ts:List TypeId) {α:Type} (f:α→List AV) (wf:α→Prop):Prop:=∀ (n:Nat) (ds:List (DataW H)),ds.length=ts.length→((ts.zip ds).all fun x=>dH P n x.1 x.2)=true→∃ x,cR ((ts.zip ds).flatMap fun x=>gG P n x.1 x.2) (f x)∧wf x
section
variable {H:Type} {P:Program} {t:TypeId}
theorem kD.int {k:IntKind} (hu:P.underlying t=some (.int k)):kD H P t (ac k) (vw k):=by
  intro n d h
  cases n with
  | zero=>cases h
  | succ n =>
    unfold dH at h
    rw [hu] at h
    cases d with
    | lit l =>
      cases l with
      | int k' m =>
        have h:(decide (k'=k)&&(Lit.int k m).wf)=true:=h
        rw [Bool.and_eq_true] at h
        obtain ⟨h1,h2⟩:=h
        have h1:=of_decide_eq_true h1
        subst h1
        have h2:(decide (k'.min≤m)&&decide (m≤k'.max))=true:=h2
        rw [Bool.and_eq_true] at h2
        refine ⟨m,?_,of_decide_eq_true h2.1,of_decide_eq_true h2.2⟩
        unfold gG
        rw [hu]
        exact cR.refl _
      | _=>cases h
    | _=>cases h
theorem kD.bool (hu:P.underlying t=some .bool):kD H P t il (fun _=>True):=by
  intro n d h
  cases n with
  | zero=>cases h
  | succ n =>
    unfold dH at h
    rw [hu] at h
    cases d with
    | lit l =>
      cases l with
      | bool b =>
        refine ⟨b,?_,trivial⟩
        unfold gG
        rw [hu]
        exact cR.refl _
      | _=>cases h
    | _=>cases h
theorem kD.slice {e:TypeId} (hu:P.underlying t=some (.slice e)) {α:Type} {f:α→List AV} {wf:α→Prop} (he:kD H P e f wf):kD H P t (md f) (fun l=>l.length≤maxLen∧∀ x∈l,wf x):=by
  intro n d h
  cases n with
  | zero=>cases h
  | succ n =>
    unfold dH at h
    rw [hu] at h
    cases d with
    | nil =>
      refine ⟨[],?_,by simp [maxLen],fun x hx=>by cases hx⟩
      unfold gG
      rw [hu]
      exact cR.cons cV.nil cR.nil
    | slice xs sp =>
      have h:(decide (xs.length≤maxLen)&&xs.all (dH P n e))=true:=h
      rw [Bool.and_eq_true] at h
      obtain ⟨h1,h2⟩:=h
      have key:∀ xs:List (DataW H),xs.all (dH P n e)=true→∃ l:List α,gX (xs.map (gG P n e)) (l.map f)∧l.length=xs.length∧∀ x∈l,wf x:=by
        intro xs
        induction xs with
        | nil=>exact fun _=>⟨[],gX.nil,rfl,fun x hx=>by cases hx⟩
        | cons x xs ih =>
          intro h
          rw [List.all_cons,Bool.and_eq_true] at h
          obtain ⟨y,hy1,hy2⟩:=he n x h.1
          obtain ⟨l,hl1,hl2,hl3⟩:=ih h.2
          refine ⟨y::l,gX.cons hy1 hl1,by simp [hl2],fun z hz=>?_⟩
          rcases List.mem_cons.1 hz with rfl | hz
          · exact hy2
          · exact hl3 z hz
      obtain ⟨l,hl1,hl2,hl3⟩:=key xs h2
      refine ⟨l,?_,by rw [hl2]; exact of_decide_eq_true h1,hl3⟩
      unfold gG
      rw [hu]
      exact cR.cons (cV.sl hl1) cR.nil
    | _=>cases h
theorem gH.nil:gH H P [] (fun _:Unit=>[]) (fun _=>True):=fun _ _ _ _=>⟨(),cR.nil,trivial⟩
theorem gH.cons {ts:List TypeId} {α β:Type} {f:α→List AV} {wf:α→Prop} {g:β→List AV} {wg:β→Prop} (h:kD H P t f wf) (hs:gH H P ts g wg):gH H P (t::ts) (fun x:α×β=>f x.1++g x.2) (fun x=>wf x.1∧wg x.2):=by
  intro n ds hl ha
  cases ds with
  | nil=>simp at hl
  | cons d ds =>
    rw [List.zip_cons_cons,List.all_cons,Bool.and_eq_true] at ha
    obtain ⟨x,h1,h2⟩:=h n d ha.1
    obtain ⟨y,h3,h4⟩:=hs n ds (by simpa using hl) ha.2
    refine ⟨(x,y),?_,h2,h4⟩
    rw [List.zip_cons_cons,List.flatMap_cons]
    exact h1.app h3
theorem kD.struct {fs:Array Field} (hu:P.underlying t=some (.struct fs)) {α:Type} {g:α→List AV} {wg:α→Prop} (h:gH H P (fs.toList.map (·.type)) g wg):kD H P t g wg:=by
  intro n d hd
  cases n with
  | zero=>cases hd
  | succ n =>
    unfold dH at hd
    rw [hu] at hd
    cases d with
    | agg ds =>
    have hd:(Nat.beq ds.length fs.size&&(fs.toList.zip ds).all fun x=>dH P n x.1.type x.2)=true:=hd
    rw [Bool.and_eq_true] at hd
    obtain ⟨h1,h2⟩:=hd
    have hlen:=Nat.eq_of_beq_eq_true h1
    obtain ⟨x,h3,h4⟩:=h n ds (by simpa using hlen) (by
      rw [List.zip_map_left,List.all_map]
      exact h2)
    refine ⟨x,?_,h4⟩
    unfold gG
    rw [hu]
    dsimp only
    rw [List.zip_map_left,List.flatMap_map] at h3
    exact h3
    | _=>cases hd
theorem kD.conv {α β:Type} {f:α→List AV} {wf:α→Prop} {g:β→List AV} {wg:β→Prop} (h:kD H P t f wf) (φ:α→β) (hf:∀ x,f x=g (φ x)) (hw:∀ x,wf x→wg (φ x)):kD H P t g wg:=fun n d hd=>by
  obtain ⟨x,h1,h2⟩:=h n d hd
  exact ⟨φ x,by rw [← hf]; exact h1,hw x h2⟩
theorem kD.argS {fs:Array Field} (hu:P.underlying t=some (.struct fs)) {α:Type} {f:α→List AV} {wf:α→Prop} (h:kD H P t f wf) {n:Nat} {d:DataW H} (hd:dH P n t d=true):∃ x,cV (nL P n t d) (.agg (f x))∧wf x:=by
  obtain ⟨x,h1,h2⟩:=h n d hd
  refine ⟨x,?_,h2⟩
  unfold nL
  rw [hu]
  exact cV.agg h1
theorem kD.arg1 (hs:j8 P t=false) {α:Type} {f:α→List AV} {wf:α→Prop} {g:α→AV} (h:kD H P t f wf) (hg:∀ x,f x=[g x]) {n:Nat} {d:DataW H} (hd:dH P n t d=true):∃ x,cV (nL P n t d) (g x)∧wf x:=by
  obtain ⟨x,h1,h2⟩:=h n d hd
  refine ⟨x,?_,h2⟩
  rw [hg] at h1
  unfold j8 at hs
  unfold nL
  split
  · rename_i fs hu
    rw [hu] at hs
    cases hs
  · generalize gG P n t d=r at h1
    cases r with
    | nil=>exact absurd h1.1 (by simp)
    | cons a r=>exact h1.2 0 a _ rfl rfl
end
end A
end Go.Proofs.Ytcckeabholabcaa
