/- The evaluator with answers; contracts out of it. Nothing is claimed here of the program. -/
import Derived.Test.YtcckeabholabcaaGreatK6
import Derived.Test.YtcckeabholabcaaGreatM0
import Derived.Laws.StructEq
namespace Go.Proofs.YtcckeabholabcaaGreat
namespace A
open Go
def rh {α:Type}:List (Nat×α)→Nat→Option α
  | [],_=>none
  | (d,x)::xs,e=>match Nat.beq d e with | true=>some x | false=>rh xs e
structure Wk where
  ts:List Nat
  ls:List Nat
  no:Nat
  pr:List (Nat×Nat)
  pl:List (Nat×Nat×Nat)
  fz:List Nat
def HN (ts:List Nat):Nat→List AV→List AV
  | _,[]=>[]
  | i,x::xs=>(match fa ts i with | true=>x | false=>.bad)::HN ts (i + 1) xs
def An:List Nat→St→St
  | [],S=>S
  | d::ds,S=>An ds (fb d S)
def Dk:Nat→Nat→List Nat
  | _,0=>[]
  | i,n + 1=>i::Dk (i + 1) n
def Gr:List Nat→St→St
  | [],S=>S
  | i::is,S=>Gr is (ek i S)
def Ao:List Ob→Bool
  | []=>true
  | .dead::os=>Ao os
  | _=>false
def Ja (n:Nat) (S:St):St :=
  match Ao (S.o.drop n)&&Nat.ble S.b n with
  | true=>{ t:=S.t,l:=S.l,o:=S.o.take n,b:=S.b }
  | false=>S
def BU:List (Nat×Nat)→St→St
  | [],S=>S
  | (d,sz)::ps,S=>match S.t[d]? with
    | some .nilsl=>BU ps { t:=S.t.set d (.mf S.o.length),l:=S.l,o:=S.o++[.arr true sz []],b:=S.b }
    | _=>BU ps S
def zp:List (Nat×Nat×Nat)→St→St
  | [],S=>S
  | (d,j,sz)::ps,S=>match aN S.l d with
    | some row=>match row[j]? with
      | some .nilsl=>zp ps { t:=S.t,l:=rv S.l d (row.set j (.mf S.o.length)),o:=S.o++[.arr true sz []],b:=S.b }
      | _=>zp ps S
    | none=>zp ps S
def Jb (ids:List Nat) (d j:Nat) (b:AV) (S:St):St :=
  match aN (fc ids S).l d with
  | some row=>{ t:=(fc ids S).t,l:=rv (fc ids S).l d (row.set j b),o:=(fc ids S).o,b:=(fc ids S).b }
  | none=>fc ids S
def yf:List Nat→St→St
  | [],S=>S
  | d::ds,S=>match Nat.ble 10000 d with
    | true=>match aN S.l ((d - 10000) / 100) with
      | some row=>match row[d % 100]? with
        | some a=>match CE S.o 6 a with
          | some b=>yf ds (Jb (d_ S.o 6 a) ((d - 10000) / 100) (d % 100) b S)
          | none=>yf ds S
        | none=>yf ds S
      | none=>yf ds S
    | false=>match S.t[d]? with
      | some a=>match CE S.o 6 a with
        | some b=>yf ds { t:=(fc (d_ S.o 6 a) S).t.set d b,l:=(fc (d_ S.o 6 a) S).l,o:=(fc (d_ S.o 6 a) S).o,b:=(fc (d_ S.o 6 a) S).b }
        | none=>yf ds S
      | none=>yf ds S
def LH (W:Wk) (S:St):St :=
  zp W.pl (BU W.pr (Ja W.no (Gr (Dk W.no (S.o.length - W.no)) (An W.ls { t:=HN W.ts 0 S.t,l:=S.l,o:=S.o,b:=S.b }))))
def wk (W:Wk) (S:St):St:=LH W (yf W.fz S)
def dm (a b:AV):Prop:=∀ E u,VR E a u→VR E b u
def cZ (r r':List AV):Prop:=r.length=r'.length∧∀ (i:Nat) (a b:AV),r[i]?=some a→r'[i]?=some b→dm a b
def iY (r r':List (List AV)):Prop:=r.length=r'.length∧∀ (i:Nat) (a b:List AV),r[i]?=some a→r'[i]?=some b→cZ a b
structure Le where
  ts:List (Nat×AV)
  ls:List (Nat×List AV)
  os:List (Nat×List (List AV))
def Jc:List (Nat×AV)→St→(St→Prop)→Prop
  | [],S,K=>K S
  | (d,v)::xs,S,K=>qC S.t d fun a=>dm a v∧sM S.t d v fun t=>Jc xs { t:=t,l:=S.l,o:=S.o,b:=S.b } K
def HO:List (Nat×List AV)→St→(St→Prop)→Prop
  | [],S,K=>K S
  | (d,r)::xs,S,K=>match aN S.l d with
    | some row=>cZ row r∧oK (rv S.l d r) fun l=>HO xs { t:=S.t,l:=l,o:=S.o,b:=S.b } K
    | none=>ah 450
def HP:List (Nat×List (List AV))→St→(St→Prop)→Prop
  | [],S,K=>K S
  | (i,R)::xs,S,K=>match S.o[i]? with
    | some (.arr fl sz rows)=>iY rows R∧bB (S.o.set i (.arr fl sz R)) fun o=>HP xs { t:=S.t,l:=S.l,o:=o,b:=S.b } K
    | _=>ah 451
def Gs (L:Le) (S:St) (K:St→Prop):Prop:=Jc L.ts S fun S=>HO L.ls S fun S=>HP L.os S K
structure yg where
  at_:Option Nat
  row:Option (List (List AV))
  ks:List AV
  cs:List (Option (List (List AV)))
structure eA where
  dem:List Nat
  chk:List Nat
  row:List (Nat×List AV)
  val:List (Nat×AV)
  call:List (Nat×AV)
  sto:List (Nat×(AV×List Ob))
  obr:List (Nat×(Nat×List (List AV)))
  mpr:List (Nat×List (AV×AV))
  own:List (Nat×yg)
inductive PT where
  | done
  | go (i:Nat) (t:PT)
  | alt (i:Nat) (t r:PT)
def hZ:List Nat→PT
  | []=>.done
  | i::is=>.go i (hZ is)
def Dl:PT→PT→Bool
  | .done,.done=>true
  | .go i t,.go j u=>Nat.beq i j&&Dl t u
  | .alt i t r,.alt j u s=>Nat.beq i j&&(Dl t u&&Dl r s)
  | _,_=>false
structure Jd where
  ord:List (Nat×PT)
  reg:List (Nat×eA)
  wr:List (Nat×Le)
  lps:List (Nat×(Wk×Le×Ex×St))
  cut:List (Nat×(Wk×Le×Ex×St))
def Fa (A:Jd) (id:Nat):eA :=
  match rh A.reg id with
  | some R=>R
  | none=>⟨[],[],[],[],[],[],[],[],[]⟩
def keyOf (o:Oper):Nat :=
  match o.dst with
  | some d=>d
  | none=>match o.op with
    | .store _ (.tmp t) _=>t + 1000000
    | .mapUpdate _ (.tmp t) _ _=>t + 1000000
    | .insert _ (.tmp t) _ _=>t + 1000000
    | _=>0
def Ir (rows:List (List AV)) (i:Int):Option (List AV):=if 0≤i then rows[i.toNat]? else none
def Gt (op:BinOp) (x y:Value) (K:Value→Prop):Prop :=
  match op,x,y with
  | .quo,.int k a,.int k' b=>(decide (k=k')&&!(b==0))=true∧K (.int k (k.wrap (a.tdiv b)))
  | .rem,.int k a,.int k' b=>(decide (k=k')&&!(b==0))=true∧K (.int k (a.tmod b))
  | .shl,.int k a,.int _ b=>decide (0≤b)=true∧K (.int k (k.wrap (a * 2 ^ (min b.toNat k.bits))))
  | .shr,.int k a,.int _ b=>decide (0≤b)=true∧K (.int k (a.fdiv (2 ^ (min b.toNat k.bits))))
  | .add,.string a,.string b=>decide (((a.size + b.size:Nat):Int)≤9223372036854775807)=true∧K (.string (a++b))
  | _,_,_=>ah 20
def Gu (C:Ctx) (A:eA) (o:Oper) (op:BinOp) (t:TypeId) (x y:AV) (k:AV→Prop):Prop :=
  match x,y with
  | .v a,.v b=>match HC op a b with
    | none=>match a,b with
      | .bool x,.bool y=>A1 C.P op t x y k
      | a,b=>Gt op a b fun c=>k (.v c)
    | some c=>k (.v c)
  | .agg as,.agg bs=>match uR as,uR bs with
    | some xs,some ys=>match rh A.val (keyOf o) with
      | some (.v (.bool b))=>lB C.P op t xs ys=some (.bool b)∧k (.v (.bool b))
      | _=>ah 400
    | _,_=>ah 401
  | _,_=>ah 402
def Ap (C:Ctx) (A:eA) (o:Oper) (t:TypeId) (x ix:AV) (k:AV→Prop):Prop :=
  intOf ix fun i =>
  match C.P.underlying t,x with
  | some .string,.v (.string s)=>match rh A.val (keyOf o) with
    | some (.v (.int .u8 n))=>(if 0≤i then s[i.toNat]? else none)=some (UInt8.ofNat n.toNat)∧(n=((UInt8.ofNat n.toNat).toNat:Int)∧k (.v (.int .u8 n)))
    | _=>ah 403
  | some (.array len e),.agg cs=>match C.P.info? e with
    | some inf=>(decide (0≤i)&&decide (i<len))=true∧jg C.P e cs (i.toNat * inf.size) k
    | none=>ah 404
  | _,_=>ah 405
def Je (C:Ctx) (A:eA) (pl:cm) (o:Oper) (vs:List AV) (k:AV→Prop):Prop :=
  match fa A.chk (keyOf o) with
  | false=>pop C pl o vs k
  | true=>match o.op,vs with
    | .binOp op t _ _ _,[a,b]=>Gu C A o op t a b k
    | .index t _ _,[a,i]=>Ap C A o t a i k
    | _,_=>ah 406
def zq (len cap:Nat) (lo hi mx:Option Int) (k:Nat→Nat→Nat→Prop):Prop :=
  match lo,hi,mx with
  | none,none,none=>k 0 len cap
  | some l,none,none=>(decide (0≤l)&&decide (l≤len))=true∧k l.toNat len cap
  | none,some h,none=>(decide (0≤h)&&decide (h≤cap))=true∧k 0 h.toNat cap
  | some l,some h,none=>(decide (0≤l)&&decide (l≤h)&&decide (h≤cap))=true∧k l.toNat h.toNat cap
  | none,some h,some m=>(decide (0≤h)&&decide (h≤m)&&decide (m≤cap))=true∧k 0 h.toNat m.toNat
  | some l,some h,some m=>(decide (0≤l)&&decide (l≤h)&&decide (h≤m)&&decide (m≤cap))=true∧k l.toNat h.toNat m.toNat
  | _,_,_=>ah 63
def mw (C:Ctx) (t:TypeId) (x:AV) (lo hi mx:Option Int) (S:St) (k:AV→Prop):Prop :=
  match C.P.underlying t with
  | some .string =>
    match x,mx with
    | .v (.string s),none=>zq s.size s.size lo hi none fun l h _=>k (.v (.string (s.extract l h)))
    | _,_=>ah 64
  | some (.slice e) =>
    match C.P.info? e with
    | some i=>ca (Nat.blt 0 i.size) (
      match x with
      | .sl rows=>kn i.size rows=true∧zq rows.length rows.length lo hi mx fun l h _ =>
        match lo,hi,jE mx&&jE hi with
        | _,_,true=>k .esl
        | none,none,_=>k (.sl rows)
        | _,none,_=>k (.sl (rows.drop l))
        | none,_,_=>k (.sl (rows.take h))
        | _,_,_=>k (.sl ((rows.drop l).take (h - l)))
      | .mf id=>match S.o[id]? with
        | some (.arr _ sz rows)=>ca (Nat.beq sz i.size) (zq rows.length rows.length lo hi mx fun l h m =>
          match lo,hi,jE mx&&jE hi with
          | _,_,true=>k .esl
          | none,none,_=>k (.mf id)
          | _,none,_=>k (.msl id l (rows.length - l) 0)
          | _,_,_=>k (.msl id l (h - l) (m - h)))
        | _=>ah 65
      | .msl id off len ext=>match S.o[id]? with
        | some (.arr _ sz _)=>ca (Nat.beq sz i.size) (zq len (len + ext) lo hi mx fun l h m =>
          match jE mx&&jE hi with
          | true=>k .esl
          | false=>k (.msl id (l + off) (h - l) (m - h)))
        | _=>ah 66
      | _=>ah 67)
    | none=>ah 68
  | _=>ah 69
def py (C:Ctx) (row:List AV) (t:TypeId) (x ix:AV) (S:St) (k:AV→Prop):Prop :=
  intOf ix fun i =>
  match C.P.underlying t with
  | some (.slice e) =>
    match C.P.info? e with
    | some inf =>
      match x with
      | .sl rows=>Ir rows i=some row∧ca (Nat.beq row.length inf.size&&Nat.blt 0 inf.size) (k (.fptr row 0))
      | .mf id=>match S.o[id]? with
        | some (.arr _ _ rows)=>Ir rows i=some row∧ca (Nat.beq row.length inf.size&&Nat.blt 0 inf.size) (k (.ptr (.O id) i.toNat 0))
        | some (.own none _ cells _)=>ca (Nat.beq inf.size 1) ((decide (0≤i)&&Nat.blt i.toNat cells.length)=true∧k (.ptr (.O id) i.toNat 0))
        | _=>ah 72
      | .msl id off len _=>match S.o[id]? with
        | some (.arr _ _ rows)=>(decide (0≤i)&&decide (i<len))=true∧(rows[i.toNat + off]?=some row∧ca (Nat.beq row.length inf.size&&Nat.blt 0 inf.size) (k (.ptr (.O id) (i.toNat + off) 0)))
        | _=>ah 74
      | _=>ah 75
    | none=>ah 76
  | some (.array len e) =>
    match C.P.info? e with
    | some inf=>(decide (0≤i)&&decide (i<len))=true∧(
      match x with
      | .ptr key a j=>k (.ptr key a (i.toNat * inf.size + j))
      | .fptr row j=>k (.fptr row (i.toNat * inf.size + j))
      | _=>ah 77)
    | none=>ah 78
  | _=>ah 79
def vn (C:Ctx) (A:eA) (o:Oper) (fid:Nat) (as:List AV) (k:AV→Prop):Prop :=
  match rh A.call (keyOf o) with
  | some r=>(C.pcall fid as fun x=>x=r)∧k r
  | none=>C.pcall fid as k
def Dm (P:Program) (op:BinOp) (t:TypeId) (x y:AV) (S:St) (k:AV→Prop):Prop :=
  match x,y with
  | .mf id,.nilsl=>match S.o[id]? with
    | some (.arr _ _ rows)=>J7 rows=true∧(match P.underlying t,op with
      | some (.slice _),.eql=>k (.v (.bool false))
      | some (.slice _),.neq=>k (.v (.bool true))
      | _,_=>ah 265)
    | _=>ah 472
  | _,_=>ah 473
def tk (size:Nat) (S:St) (x:AV) (k:Bool→List (List AV)→Prop):Prop :=
  match x with
  | .nilsl | .esl=>k true []
  | .sl rows=>kn size rows=true∧k true rows
  | .mf id=>match S.o[id]? with | some (.arr fl sz rows)=>ca (Nat.beq sz size) (k fl rows) | _=>ah 45
  | .msl id off len _=>match S.o[id]? with | some (.arr fl sz rows)=>ca (Nat.beq sz size) (k fl ((rows.drop off).take len)) | _=>ah 46
  | .v (.string s)=>ca (Nat.beq size 1) (k true (s.data.toList.map fun b=>[.v (.int .u8 b.toNat)]))
  | x=>kq size S x k
def Ar (P:Program) (src dst:TypeId) (x:AV) (S:St) (s:ByteArray) (k:AV→Prop):Prop :=
  match P.underlying src,P.underlying dst with
  | some (.slice e),some .string =>
    match P.underlying e with
    | some (.int .u8)=>ca (!(J4 x)) (tk 1 S x fun _ rows=>bytesOf rows=some s.data.toList∧k (.v (.string s)))
    | _=>ah 481
  | _,_=>ah 482
def Jf (C:Ctx) (A:eA) (o:Oper) (vs:List AV) (M:St) (k:AV→Prop):Prop :=
  match o.op,vs with
  | .load t _,[p]=>match rh A.row (keyOf o) with
    | some row=>match p with
      | .ptr (.O id) i j=>match M.o[id]? with
        | some (.arr _ _ rows)=>rows[i]?=some row∧jg C.P t row j k
        | _=>ah 410
      | _=>ah 411
    | none=>p8 C o vs M k
  | .slice t _ lo hi mx,a::rest=>match fa A.chk (keyOf o) with
    | false=>p8 C o vs M k
    | true=>match lo,hi,mx,rest with
      | none,none,none,[]=>mw C t a none none none M k
      | some _,none,none,[x]=>intOf x fun x=>mw C t a (some x) none none M k
      | none,some _,none,[y]=>intOf y fun y=>mw C t a none (some y) none M k
      | some _,some _,none,[x,y]=>intOf x fun x=>intOf y fun y=>mw C t a (some x) (some y) none M k
      | none,some _,some _,[y,z]=>intOf y fun y=>intOf z fun z=>mw C t a none (some y) (some z) M k
      | some _,some _,some _,[x,y,z]=>intOf x fun x=>intOf y fun y=>intOf z fun z=>mw C t a (some x) (some y) (some z) M k
      | _,_,_,_=>ah 202
  | .indexAddr t _ _,[a,i]=>match rh A.row (keyOf o) with
    | some row=>py C row t a i M k
    | none=>p8 C o vs M k
  | .lookup t _ _ ok,[m,key]=>match rh A.call (keyOf o) with
    | some a=>match C.P.underlying t,m with
      | some (.map kt e),.mp id=>match M.o[id]? with
        | some (.mapo _ es)=>(∀ k':AV→Prop,k' a→iO C.P kt key es fun _ r=>j6 C.P e ok es r k')∧k a
        | _=>ah 412
      | _,_=>ah 413
    | none=>p8 C o vs M k
  | .binOp op t _ _ _,[a,b]=>match fa A.chk (keyOf o) with
    | false=>p8 C o vs M k
    | true=>Dm C.P op t a b M k
  | .convert src dst _,[x]=>match rh A.call (keyOf o) with
    | some (.v (.string s))=>Ar C.P src dst x M s k
    | _=>p8 C o vs M k
  | .call c,vs=>match c.callee with
    | .value _=>match vs with
      | .fn fid first cap::as=>ca (C.pure fid) (jF M.o (first++as++cap) fun bs=>vn C A o fid bs fun r=>ca (vE 4 r||((first++as++cap).flatMap (d_ M.o 6)).isEmpty) (k r))
      | _=>ah 205
    | _=>p8 C o vs M k
  | _,_=>p8 C o vs M k
def As (S:St) (row:List AV) (a:AV) (cs:List AV) (K:St→Prop):Prop :=
  match a with
  | .ptr (.O id) i j =>
    match S.o[id]? with
    | some (.arr fl sz rows)=>rows[i]?=some row∧ca (Nat.ble (j + cs.length) row.length&&cs.all (ve 4)) (je (splice row j cs) fun row'=>bB (S.o.set id (.arr (fl&&cs.all (dZ 4)) sz (rows.set i row'))) fun o=>K { t:=S.t,l:=S.l,o:=o,b:=S.b })
    | _=>ah 18
  | _=>ah 19
def HQ (C:Ctx) (A:eA) (o:Oper) (vs:List AV) (M:St) (k:AV→St→Prop):Prop :=
  match rh A.row (keyOf o) with
  | none=>yD C o vs M k
  | some row=>match o.op,vs with
    | .store t _ _,[p,y]=>match p with
      | .ptr (.O _) _ _=>np y fun cs=>match C.P.info? t with
        | some i=>ca (Nat.beq cs.length i.size) (As M row p cs fun M'=>k .bad M')
        | none=>ah 208
      | _=>yD C o vs M k
    | _,_=>yD C o vs M k
def wV (P:Program) (ts:List TypeId) (base x:AV) (S:St) (k:St→AV→Prop):Prop :=
  match ts with
  | [t0,t1] =>
    match P.underlying t0 with
    | some (.slice e) =>
      match P.info? e with
      | some i=>ca (Nat.blt 0 i.size&&Nat.blt 0 i.bytes&&Io i&&(match P.underlying t1 with | some (.slice _) | some .string=>true | _=>false)) (tk i.size S x fun fl src=>cN src=true∧(
          match base with
          | .nilsl | .esl=>Nat.ble (src.length * i.bytes) 140737488355328=true∧(bB (S.o++[.arr fl i.size src]) fun o=>k { t:=S.t,l:=S.l,o:=o,b:=S.b } (.mf S.o.length))
          | .mf id=>match S.o[id]? with
            | some (.arr fl' sz rows)=>ca (Nat.beq sz i.size&&(fl||!fl')) (Nat.ble ((rows.length + src.length) * i.bytes) 140737488355328=true∧qd S id (.arr (fl'&&fl) sz (rows++src)) fun S' id'=>k S' (.mf id'))
            | _=>ah 48
          | .msl id off len ext=>match S.o[id]? with
            | some (.arr fl' sz rows)=>ca (Nat.beq sz i.size&&(fl||!fl')) (Nat.ble src.length ext=true∧(Nat.ble (off + len + ext) rows.length=true ∧
                bB (S.o.set id (.arr (fl'&&fl) sz (rows.take (off + len)++(src++rows.drop (off + len + src.length))))) fun o=>k { t:=S.t,l:=S.l,o:=o,b:=S.b } (.msl id off (len + src.length) (ext - src.length))))
            | _=>ah 49
          | _=>ah 50))
      | none=>ah 51
    | _=>ah 52
  | _=>ah 53
def tl (P:Program) (ts:List TypeId) (base x:AV) (k:AV→Prop):Prop :=
  match ts with
  | [t0,t1] =>
    match P.underlying t0 with
    | some (.slice e) =>
      match P.info? e with
      | some i=>ca (Nat.blt 0 i.size&&Nat.blt 0 i.bytes&&Io i&&(match P.underlying t1 with | some (.slice _) | some .string=>true | _=>false)) (tk i.size Lu x fun fl src=>ca fl (cN src=true∧(Nat.ble (src.length * i.bytes) 140737488355328=true∧(
          match base with
          | .nilsl | .esl=>k (.sl src)
          | _=>ah 254))))
      | none=>ah 255
    | _=>ah 256
  | _=>ah 257
def Jg (C:Ctx) (o:Oper) (vs:List AV) (k:AV→Prop):Prop :=
  match o.op,vs with
  | .call c,[x,y]=>match c.callee with
    | .builtin .append=>tl C.P c.argTypes.toList x y k
    | _=>ah 258
  | _,_=>ah 259
def tm (P:Program) (ts:List TypeId) (base:AV) (n:Int) (S:St) (k:St→AV→Prop):Prop :=
  match ts with
  | [t0,t1] =>
    match P.underlying t0,P.underlying t1 with
    | some (.slice e),some (.int _) =>
      match P.info? e with
      | some i=>(Nat.blt 0 i.size&&Nat.blt 0 i.bytes&&decide (0<n)&&decide (n * i.bytes≤140737488355328)&&decide (n≤140737488355328))=true∧(dk P e fun z=>ca (z.all (dZ 2)) (
          match base with
          | .nilsl | .esl=>bB (S.o++[.arr true i.size (List.replicate n.toNat z)]) fun o=>k { t:=S.t,l:=S.l,o:=o,b:=S.b } (.mf S.o.length)
          | _=>ah 250))
      | none=>ah 251
    | _,_=>ah 252
  | _=>ah 253
def mz (P:Program) (t:TypeId) (l c:AV) (S:St) (k:St→AV→Prop):Prop :=
  match P.underlying t with
  | some (.slice e) =>
    match P.info? e with
    | some i=>intOf l fun l=>intOf c fun c=>(decide (0≤l)&&decide (l≤c)&&decide (i.bytes * c≤140737488355328)&&decide (c≤140737488355328)&&Nat.blt 0 i.size)=true ∧
        (dk P e fun z=>ca (z.all (dZ 2)) (bB (S.o++[.arr true i.size (List.replicate l.toNat z)]) fun o=>k { t:=S.t,l:=S.l,o:=o,b:=S.b } (.mf S.o.length)))
    | none=>ah 61
  | _=>ah 62
def Dn (P:Program) (ts:List TypeId) (x y:AV) (M:St) (k:AV→St→Prop):Prop :=
  match ts with
  | t::_ =>
    match P.underlying t with
    | some (.slice e) =>
      match P.info? e with
      | some i=>ca (Nat.blt 0 i.size) (tk i.size M y fun fl src=>cN src=true∧ca (!(J4 y)) (
          match x with
          | .mf id=>match M.o[id]? with
            | some (.arr fl' sz rows)=>ca (Nat.beq sz i.size) (bB (M.o.set id (.arr (fl'&&fl) sz (src.take rows.length++rows.drop src.length))) fun o=>k (.v (.int .i64 ((min src.length rows.length:Nat):Int))) { t:=M.t,l:=M.l,o:=o,b:=M.b })
            | _=>ah 243
          | .msl id off len _=>match M.o[id]? with
            | some (.arr fl' sz rows)=>ca (Nat.beq sz i.size) (Nat.ble (off + len) rows.length=true∧(bB (M.o.set id (.arr (fl'&&fl) sz (rows.take off++(src.take len++rows.drop (off + min src.length len))))) fun o=>k (.v (.int .i64 ((min src.length len:Nat):Int))) { t:=M.t,l:=M.l,o:=o,b:=M.b }))
            | _=>ah 244
          | _=>ah 245))
      | none=>ah 246
    | _=>ah 247
  | []=>ah 248
def Do (C:Ctx) (A:eA) (o:Oper) (f:AV) (args:List AV) (S:St) (k:St→AV→Prop):Prop :=
  match f with
  | .fn fid first cap =>
    match C.pure fid with
    | true=>jF S.o (first++args++cap) fun as=>vn C A o fid as fun r =>
        match vE 4 r with
        | true=>k S r
        | false=>gO ((first++args++cap).flatMap (d_ S.o 6)) S fun S'=>k S' r
    | false=>ca ((first++args++cap).all (ve 4)) (match rh A.sto (keyOf o) with
      | some (r,o')=>(C.scall fid (first++args++cap) S.o fun r' o''=>r'=r∧o''=o')∧kK (cx S.o o' 0) S.t S.l fun t l=>k { t:=t,l:=l,o:=o',b:=S.b } r
      | none=>C.scall fid (first++args++cap) S.o fun r o'=>kK (cx S.o o' 0) S.t S.l fun t l=>k { t:=t,l:=l,o:=o',b:=S.b } r)
  | _=>ah 97
def mB (P:Program) (R:List (AV×AV)) (t:TypeId) (m key x:AV) (S:St) (K:St→Prop):Prop :=
  match P.underlying t with
  | some (.map kt _) =>
    match m with
    | .mp id=>match S.o[id]? with
      | some (.mapo fl es)=>ca (ve 4 x) ((∀ K':List (AV×AV)→Prop,K' R→iO P kt key es fun kv r=>ca (zO P kt kv) (
          match r with
          | some i=>ca (Instr.sameBits 10000 ((es[i]?.bind fun e=>vN e.1).getD (.bool false)) kv) (K' (es.set i (key,x)))
          | none=>K' (es++[(key,x)])))∧bB (S.o.set id (.mapo (fl&&dZ 4 x) R)) fun o=>K { t:=S.t,l:=S.l,o:=o,b:=S.b })
      | _=>ah 106
    | _=>ah 107
  | _=>ah 108
def HR (C:Ctx) (A:eA) (pl:cm) (o:Oper) (S:St) (K:St→Prop):Prop :=
  match o.op with
  | .mapUpdate t m key x=>match rh A.mpr (keyOf o) with
    | some R=>dx S m fun m=>dx S key fun key=>dx S x fun x=>mB C.P R t m key x S fun S'=>b_ o.dst .bad S' K
    | none=>xN C pl o S K
  | .insert t m key x=>match rh A.mpr (keyOf o) with
    | some R=>dx S m fun m=>dx S key fun key=>dx S x fun x=>mB C.P R t m key x S fun S'=>b_ o.dst .bad S' K
    | none=>xN C pl o S K
  | .makeSlice t l c=>match fa A.chk (keyOf o) with
    | true=>dx S l fun l=>dx S c fun c=>mz C.P t l c S fun S' a=>b_ o.dst a S' K
    | false=>xN C pl o S K
  | .call c=>match c.callee with
    | .builtin .append=>match fa A.chk (keyOf o) with
      | true=>eo S c.args.toList fun as=>match as with
        | [x,.v (.int _ n)]=>tm C.P c.argTypes.toList x n S fun S' r=>b_ o.dst r S' K
        | [x,y]=>wV C.P c.argTypes.toList x y S fun S' r=>b_ o.dst r S' K
        | _=>ah 210
      | false=>xN C pl o S K
    | .builtin .copy=>eo S c.args.toList fun as=>match as with
        | [x,y]=>Dn C.P c.argTypes.toList x y S fun r S'=>b_ o.dst r S' K
        | _=>ah 249
    | .value f=>dx S f fun fv=>eo S c.args.toList fun as=>Do C A o fv as S fun S' r=>b_ o.dst r S' K
    | _=>xN C pl o S K
  | _=>xN C pl o S K
def Is (A:eA) (dst:Option Tmp) (S:St) (K:St→Prop):Prop :=
  match dst with
  | none=>K S
  | some d=>match rh A.val d with
    | none=>K S
    | some v=>qC S.t d fun a=>a=v∧sM S.t d v fun t=>K { t:=t,l:=S.l,o:=S.o,b:=S.b }
def Gv (A:eA) (key:Nat) (S:St) (K:St→Prop):Prop :=
  match rh A.obr key with
  | none=>K S
  | some (id,R)=>match S.o[id]? with
    | some (.arr fl sz rows)=>rows=R∧bB (S.o.set id (.arr fl sz R)) fun o=>K { t:=S.t,l:=S.l,o:=o,b:=S.b }
    | _=>ah 430
def Gw (C:Ctx) (A:eA) (pl:cm) (o:Oper) (S:St) (K:St→Prop):Prop :=
  eo S o.op.operands.toList fun vs=>Je C A pl o vs fun r=>b_ o.dst r S K
def Gx (C:Ctx) (A:eA) (o:Oper) (S:St) (K:St→Prop):Prop :=
  eo S o.op.operands.toList fun vs=>Jf C A o vs (dE S) fun r=>b_ o.dst r S K
def It (C:Ctx) (A:eA) (o:Oper) (S:St) (K:St→Prop):Prop :=
  eo S o.op.operands.toList fun vs=>HQ C A o vs (dE S) fun r M=>b_ o.dst r (fX S M) K
def pX (row:Option (List (List AV))) (M:St) (id i:Nat) (k:AV→St→Prop):Prop :=
  match M.o[id]? with
  | some (.own ks sz cells none)=>match row with
    | none=>cells[i]?=some none∧k .nilsl M
    | some rows=>cells[i]?=some (some rows)∧bB (M.o.set id (.own ks sz cells (some (i,.mf M.o.length)))++[.arr true sz rows]) fun o=>k (.mf M.o.length) { t:=M.t,l:=M.l,o:=o,b:=M.b }
  | _=>ah 323
def tn (P:Program) (a:yg) (t:TypeId) (same:Bool) (M:St) (id i:Nat) (k:AV→St→Prop):Prop :=
  match same with
  | true=>match M.o[id]? with
    | some (.own none _ cells (some (j,a)))=>(Nat.beq i j&&Nat.blt j cells.length)=true∧jg P t [a] 0 fun r=>k r M
    | _=>ah 324
  | false=>pX a.row M id i fun a M'=>jg P t [a] 0 fun r=>k r M'
def q_ (P:Program) (t:TypeId) (M:St) (id i:Nat) (v:AV) (K:St→Prop):Prop :=
  match P.info? t,M.o[id]? with
  | some inf,some (.own none sz cells hole)=>ca (sR v&&Nat.beq inf.size 1) ((Nat.blt i cells.length&&oP hole i)=true∧(bB (M.o.set id (.own none sz cells (some (i,v)))) fun o=>K { t:=M.t,l:=M.l,o:=o,b:=M.b }))
  | _,_=>ah 325
def tp (P:Program) (j:Nat) (a:yg) (t:TypeId) (l c:AV) (M:St) (k:AV→St→Prop):Prop :=
  match P.underlying t with
  | some (.slice e) =>
    match P.info? e,P.underlying e with
    | some i,some (.slice e2)=>match P.info? e2 with
      | some i2=>intOf l fun l=>intOf c fun c=>(decide (0≤l)&&decide (l≤c)&&decide (i.bytes * c≤140737488355328)&&decide (c≤140737488355328)&&Nat.blt 0 i.size)=true∧ca (Nat.beq i.size 1&&Nat.blt 0 i2.size)
          (dk P e fun z=>match z with
            | [.nilsl]=>List.replicate l.toNat none=a.cs∧qE j M.o M.b (.own none i2.size a.cs none) fun o=>k (.mf j) { t:=M.t,l:=M.l,o:=o,b:=M.b }
            | _=>ah 325)
      | none=>ah 326
    | _,_=>ah 61
  | _=>ah 62
def tq (P:Program) (a:yg) (t:TypeId) (m key:AV) (ok:Bool) (M:St) (k:AV→St→Prop):Prop :=
  match P.underlying t with
  | some (.map kt e)=>match m with
    | .mp id=>match M.o[id]? with
      | some (.own (some ks) _ _ none)=>match a.at_ with
        | some i=>(∀ K':Option Nat→Prop,K' (some i)→iO P kt key (ml ks) fun _ r=>K' r)∧pX a.row M id i fun a M'=>oN ok a true fun r=>k r M'
        | none=>(∀ K':Option Nat→Prop,K' none→iO P kt key (ml ks) fun _ r=>K' r)∧jh P e ok fun r=>k r M
      | _=>ah 333
    | _=>ah 334
  | _=>ah 335
def Kg (M:St) (id sz:Nat) (cells:List (Option (List (List AV)))) (hole:Option (Nat×AV)) (x:AV) (K:St→Prop) (r:Option Nat) (ks:List AV):Prop :=
  match r with
  | some i=>oP hole i=true∧(bB (M.o.set id (.own (some ks) sz cells (some (i,x)))) fun o=>K { t:=M.t,l:=M.l,o:=o,b:=M.b })
  | none=>match hole with
    | none=>bB (M.o.set id (.own (some ks) sz (cells++[none]) (some (cells.length,x)))) fun o=>K { t:=M.t,l:=M.l,o:=o,b:=M.b }
    | some _=>ah 339
def rX (P:Program) (a:yg) (t:TypeId) (m key x:AV) (M:St) (K:St→Prop):Prop :=
  match P.underlying t with
  | some (.map kt _)=>match m with
    | .mp id=>match M.o[id]? with
      | some (.own (some ks) sz cells hole)=>ca (sR x) ((∀ K':Option Nat→List AV→Prop,K' a.at_ a.ks→iO P kt key (ml ks) fun kv r=>ca (zO P kt kv) (match r with
          | some i=>ca (Instr.sameBits 10000 ((ks[i]?.bind vN).getD (.bool false)) kv) (K' (some i) (ks.set i key))
          | none=>K' none (ks++[key])))∧Kg M id sz cells hole x K a.at_ a.ks)
      | _=>ah 340
    | _=>ah 341
  | _=>ah 342
def D_ (P:Program) (A:eA) (pl:cm) (o:Oper) (vs:List AV) (M:St) (k:AV→St→Prop):Prop :=
  match rh A.own (keyOf o) with
  | none=>l9 P pl o vs M k
  | some a=>match o.op,vs with
    | .load t _,[p]=>jO M p fun id i=>tn P a t (DU pl o) M id i k
    | .store t _ _,[p,v]=>jO M p fun id i=>q_ P t M id i v fun M'=>k .bad M'
    | .makeSlice t _ _,[l,c]=>tp P (DV pl.ix o.dst M.o.length) a t l c M k
    | .lookup t _ _ ok,[m,key]=>tq P a t m key ok M k
    | .mapUpdate t _ _ _,[m,key,x]=>rX P a t m key x M fun M'=>k .bad M'
    | .insert t _ _ _,[m,key,x]=>rX P a t m key x M fun M'=>k .bad M'
    | _,_=>ah 343
def pY (A:eA) (S:St) (id:Nat) (K:St→Prop):Prop :=
  match rh A.own (id + 2000000) with
  | none=>ji S id K
  | some a=>match S.o[id]? with
    | some (.own ks sz cells (some (j,.mf k)))=>match S.o[k]? with
      | some (.arr true sz' rows)=>ca (Nat.beq sz' sz) (Nat.blt j cells.length=true∧(cells.set j (some rows)=a.cs∧gO [k] S fun S1=>bB (S1.o.set id (.own ks sz a.cs none)) fun o=>K { t:=S1.t,l:=S1.l,o:=o,b:=S1.b }))
      | _=>ah 320
    | some (.own ks sz cells (some (j,.nilsl)))=>Nat.blt j cells.length=true∧(cells.set j none=a.cs∧(bB (S.o.set id (.own ks sz a.cs none)) fun o=>K { t:=S.t,l:=S.l,o:=o,b:=S.b }))
    | _=>ah 321
def wW (A:eA):List Nat→St→(St→Prop)→Prop
  | [],S,K=>K S
  | id::ids,S,K=>pY A S id fun S'=>wW A ids S' K
def rY (A:eA) (S:St) (id:Nat) (K:St→Prop):Prop :=
  match rh A.mpr (id + 2000000) with
  | none=>kZ S id K
  | some R=>match S.o[id]? with
    | some (.own (some ks) _ cells none)=>oO ks cells=R∧(bB (S.o.set id (.mapo true R)) fun o=>K { t:=S.t,l:=S.l,o:=o,b:=S.b })
    | _=>ah 344
def tr (A:eA):List Nat→St→(St→Prop)→Prop
  | [],S,K=>K S
  | id::ids,S,K=>rY A S id fun S'=>tr A ids S' K
def wX (A:eA) (pl:cm) (id:Nat) (S:St) (K:St→Prop):Prop :=
  match fa pl.cl id with
  | false=>K S
  | true=>wW A (CI S.o.length) S fun S1=>match fa pl.fr id with
    | false=>K S1
    | true=>tr A (CI S1.o.length) S1 K
def Dp (C:Ctx) (A:eA) (o:Oper) (vs:List AV) (M:St) (k:AV→St→Prop):Prop :=
  match o.op,vs with
  | .makeSlice t _ _,[l,c]=>match fa A.chk (keyOf o) with
    | true=>mz C.P t l c M fun M' r=>k r M'
    | false=>mm C o vs M k
  | .call c,.fn fid first cap::as=>match c.callee with
    | .value _=>ca (!(C.pure fid)&&(first++as++cap).all (ve 4)) (match rh A.sto (keyOf o) with
      | some (r,o')=>(C.scall fid (first++as++cap) M.o fun r' o''=>r'=r∧o''=o')∧ca (cx M.o o' 0).isEmpty (k r { t:=M.t,l:=M.l,o:=o',b:=M.b })
      | none=>C.scall fid (first++as++cap) M.o fun r o'=>ca (cx M.o o' 0).isEmpty (k r { t:=M.t,l:=M.l,o:=o',b:=M.b }))
    | _=>ah 310
  | _,_=>HQ C A o vs M k
def Gy (C:Ctx) (A:eA) (pl:cm) (o:Oper) (vs:List AV) (M:St) (k:AV→St→Prop):Prop :=
  match gB pl o with
  | true=>D_ C.P A pl o vs M k
  | false=>Dp C A o vs M k
def Iu (C:Ctx) (A:eA) (pl:cm) (o:Oper) (S:St) (K:St→Prop):Prop :=
  eo S o.op.operands.toList fun vs=>D_ C.P A pl o vs (dE S) fun r M=>b_ o.dst r (fX S M) K
def Gz (C:Ctx) (A:eA) (pl:cm) (o:Oper) (S:St) (K:St→Prop):Prop :=
  eo S o.op.operands.toList fun vs=>Gy C A pl o vs (dE S) fun r M=>b_ o.dst r (fX S M) K
def Iv (C:Ctx) (o:Oper) (S:St) (K:St→Prop):Prop :=
  eo S o.op.operands.toList fun vs=>Jg C o vs fun r=>b_ o.dst r S K
def oy (A:eA) (o:Oper) (K:St→Prop) (S:St):Prop:=Is A o.dst S fun S'=>Gv A (keyOf o) S' K
def Jh (C:Ctx) (A:eA) (pl:cm) (o:Oper) (S:St) (K:St→Prop):Prop :=
  match FX o with
  | 0=>Gw C A pl o S (oy A o K)
  | 1=>Gx C A o S (oy A o K)
  | 2=>It C A o S (oy A o K)
  | _=>HR C A pl o S (oy A o K)
def Iw (C:Ctx) (A:eA) (pl:cm) (o:Oper) (S:St) (K:St→Prop):Prop :=
  match gB pl o with
  | true=>Iu C A pl o S (oy A o K)
  | false=>Jh C A pl o S K
def BV (C:Ctx) (A:eA) (pl:cm) (o:Oper) (S:St) (K:St→Prop):Prop :=
  match gi pl o with
  | 0=>Gw C A pl o S (oy A o K)
  | 1=>Gx C A o S (oy A o K)
  | 2=>Gz C A pl o S (oy A o K)
  | 4=>match o.dst with
    | some d=>b_ o.dst (.ptr (.L d) 0 0) S K
    | none=>ah 217
  | 5=>Iv C o S (oy A o K)
  | _=>match A3 pl o with
    | true=>ah 219
    | false=>HR C A pl o S (oy A o K)
def Ji (op:BinOp):Bool :=
  match op with
  | .eql | .neq=>true
  | _=>false
def zr (op:BinOp):Bool :=
  match op with
  | .eql=>true
  | _=>false
def Ix (P:Program) (o:Oper) (S:St) (K:St→Prop):Prop :=
  match o.op with
  | .binOp op t x (.const (.slice none 0 0)) _=>match P.underlying t with
    | some (.slice _)=>dx S x fun a=>match a with
      | .sl rows=>ca (Ji op) ((rows=[]→b_ o.dst (.v (.bool (zr op))) S K)∧b_ o.dst (.v (.bool (!(zr op)))) S K)
      | _=>ah 460
    | _=>ah 461
  | _=>ah 462
def Au (C:Ctx) (A:eA) (pl:cm) (all:Array Oper):List Oper→St→(St→Prop)→Prop
  | [],S,K=>K S
  | o::rest,S,K =>
    match o.guard with
    | none=>match fa A.dem (keyOf o) with
      | true=>Ix C.P o S fun S'=>Au C A pl all rest S' K
      | false=>Iw C A pl o S fun S'=>Au C A pl all rest S' K
    | some (j,want) =>
      match ry all j with
      | none=>ah 218
      | some d=>gQ d S fun b S1=>gsel b want (Iw C A pl o S1 fun S'=>Au C A pl all rest S' K) (b_ o.dst (.tup []) S1 fun S'=>Au C A pl all rest S' K)
def LI (C:Ctx) (A:eA) (pl:cm) (all:Array Oper) (o:Oper) (S:St) (K:St→Prop):Prop :=
  match o.guard with
  | none=>ca (jP pl all o S) (BV C A pl o S K)
  | some (j,want) =>
    match ry all j with
    | none=>ah 218
    | some d=>gQ d S fun b S1=>gsel b want (ca (jP pl all o S1) (BV C A pl o S1 K)) (b_ o.dst (.tup []) S1 K)
def J5 (C:Ctx) (A:eA) (pl:cm) (ops:Array Oper) (i:Nat) (S:St) (K:St→Prop):Prop :=
  match ops[i]? with
  | none=>ah 303
  | some o=>LI C A pl ops o S K
def oT (C:Ctx) (A:eA) (pl:cm) (ops:Array Oper):PT→Option (St×Prop)→St→(St→Prop)→Prop
  | .done,m,S,K=>match m with
    | none=>K S
    | some (_,X)=>X
  | .go i t,m,S,K=>match m with
    | none=>J5 C A pl ops i S fun S'=>oT C A pl ops t none S' K
    | some (_,_)=>ah 305
  | .alt i t r,m,S,K=>match m with
    | none=>J5 C A pl ops i S fun S'=>oT C A pl ops t none S' fun S1=>oT C A pl ops r (some (S1,K S1)) S K
    | some (S1,X)=>J5 C A pl ops i S fun S'=>oT C A pl ops t none S' fun S2=>S2=S1∧oT C A pl ops r (some (S1,X)) S K
def qq (f:Nat→Option PT):List Nat→Option PT
  | []=>some .done
  | i::is=>match f i with
    | some t=>match qq f is with
      | some r=>some (.alt i t r)
      | none=>none
    | none=>none
def PQ:List Nat→Bool
  | [_,_] | [_,_,_] | [_,_,_,_]=>true
  | _=>false
def kS (pl:cm) (ops:Array Oper) (ws:List Nat):Nat→Nat→Array Bool→Option PT
  | 0,_,listed=>match Region.ready .any ops listed with
    | []=>some .done
    | _::_=>none
  | n + 1,a,listed =>
    match Region.ready .any ops listed with
    | []=>some .done
    | r::rs=>match oS pl ops ws listed (r::rs) with
      | some k=>match kS pl ops ws n a (listed.setIfInBounds k true) with | some t=>some (.go k t) | none=>none
      | none=>match rs with
        | []=>match kS pl ops ws n a (listed.setIfInBounds r true) with | some t=>some (.go r t) | none=>none
        | _::_=>match PQ (r::rs),a with
          | true,a + 1=>qq (fun i=>kS pl ops ws n a (listed.setIfInBounds i true)) (r::rs)
          | _,_=>none
def zt (pl:cm) (ops:Array Oper) (ws:List Nat):Nat→Array Bool→Option PT
  | 0,listed=>kS pl ops ws 0 6 listed
  | n + 1,listed=>match oU ops listed (Region.ready .any ops listed) with
    | some i=>match zt pl ops ws n (listed.setIfInBounds i true) with | some t=>some (.go i t) | none=>none
    | none=>kS pl ops ws (n + 1) 6 listed
def wY (pl:cm) (ops:Array Oper):Option PT :=
  match Lv ops with
  | false=>none
  | true=>match pl.cl with
    | []=>kS pl ops (cy ops.toList []) ops.size 3 (Array.replicate ops.size false)
    | _::_=>zt pl ops (cy ops.toList []) ops.size (Array.replicate ops.size false)
def ordB (pl:cm) (ord:List (Nat×PT)):Code→Bool
  | .region id ops true=>match rh ord id,wY pl ops with
    | some is,some js=>Dl is js
    | _,_=>false
  | .seq a b=>ordB pl ord a&&ordB pl ord b
  | .cond _ a b=>ordB pl ord a&&ordB pl ord b
  | .block _ c=>ordB pl ord c
  | .loop c=>ordB pl ord c
  | _=>true
def qt:Code→Nat
  | .region id _ _=>id
  | .seq a _=>qt a
  | .cond _ a _=>qt a
  | .block _ c=>qt c
  | .loop c=>qt c
  | _=>0
def Fb (A:Jd) (id:Nat) (S:St) (K:St→Prop):Prop :=
  match rh A.wr id with
  | some L=>Gs L S K
  | none=>K S
def HS:Type:=Code→St→(Ex→St→Prop)→Prop
def wZ (C:Ctx) (cd:HS) (A:Jd) (pl:cm):Code→St→(Ex→St→Prop)→Prop
  | .skip,S,K=>K .nrm S
  | .region id ops draw,S,K =>
    match draw with
    | false=>Au C (Fa A id) pl ops ops.toList S fun S'=>wX (Fa A id) pl id S' fun S''=>Fb A id S'' (K .nrm)
    | true=>match rh A.ord id with
      | some is=>ca (t_ pl ops) (xP C.P (cO ops.toList) S fun S1=>oT C (Fa A id) pl ops is none S1 fun S'=>lH (cO ops.toList) S' (wX (Fa A id) pl id S' fun S''=>Fb A id S'' (K .nrm)))
      | none=>ah 440
  | .seq a b,S,K=>wZ C cd A pl a S fun e S'=>match e with
    | .nrm=>match rh A.cut (qt b) with
      | some (W,L,e1,S1)=>Gs L (wk W S') fun S2=>cd b S2 (fun e' S3=>e'=e1∧S3=S1)∧K e1 S1
      | none=>wZ C cd A pl b S' K
    | .ex i=>K (.ex i) S'
    | .ret=>K .ret S'
  | .cond c x y,S,K=>oJ c S fun b S'=>match b with
    | true=>wZ C cd A pl x S' K
    | false=>wZ C cd A pl y S' K
  | .block id c,S,K=>wZ C cd A pl c S fun e S'=>match e with
    | .ex i=>match Nat.beq i id with | true=>K .nrm S' | false=>K (.ex i) S'
    | .nrm=>K .nrm S'
    | .ret=>K .ret S'
  | .loop c,S,K=>match rh A.lps (qt c) with
    | some (W,L,e,S1)=>Gs L (wk W S) fun S2=>(C.loop pl c S2 fun e' S'=>e'=e∧S'=S1)∧K e S1
    | none=>C.loop pl c S K
  | .exit id,S,K=>K (.ex id) S
  | .ret,S,K=>K .ret S
  | _,_,_=>ah 119
def sub:Code→List Nat→Code
  | c,[]=>c
  | .seq a _,0::p=>sub a p
  | .seq _ b,_::p=>sub b p
  | .cond _ a _,0::p=>sub a p
  | .cond _ _ b,_::p=>sub b p
  | .block _ c,_::p=>sub c p
  | .loop c,_::p=>sub c p
  | c,_=>c
def aS (P:Program) (f:Nat):Code :=
  match P.funcs[f]? with
  | some fn=>fn.body.getD .skip
  | none=>.skip
def eC (S S':St):Prop:=∀ (G:Gh) (E:Env) (a:Act) (w:World),aj G pn E S w→TR E S.t a→∃ E',aj G pn E' S' w∧TR E' S'.t a
def Jj:Ex→Nat
  | .nrm=>0
  | .ret=>1
  | .ex i=>i + 2
def Jk (C:Ctx) (cd:HS) (A:Jd) (pl:cm) (we:List (Nat×(Wk×Le))) (c:Code) (S:St) (K:Ex→St→Prop):Prop :=
  wZ C cd A pl c S fun e S'=>match rh we (Jj e) with
    | some (W,L)=>Gs L (wk W S') (K e)
    | none=>K e S'
def Pn:List (Nat×AV)→Nat→Nat→List AV
  | _,_,0=>[]
  | xs,i,n + 1=>(match rh xs i with | some a=>a | none=>.bad)::Pn xs (i + 1) n
def bE (n:Nat) (ts:List (Nat×AV)) (l:List (Nat×List AV)) (o:List Ob) (b:Nat):St:={ t:=Pn ts 0 n,l:=l,o:=o,b:=b }
theorem eC.refl (S:St):eC S S:=fun _ E _ _ h k=>⟨E,h,k⟩
theorem eC.trans {S S' S'':St} (h:eC S S') (k:eC S' S''):eC S S'':=fun G E a w hM ht=>by
  obtain ⟨E1,h1,h2⟩:=h G E a w hM ht
  exact k G E1 a w h1 h2
theorem dm.refl (a:AV):dm a a:=fun _ _ h=>h
theorem dm.trans {a b c:AV} (h:dm a b) (k:dm b c):dm a c:=fun _ _ hv=>k _ _ (h _ _ hv)
theorem dm.bad (a:AV):dm a .bad:=fun _ _ _=>.bad _ _
theorem dm.nil:dm .nilsl (.sl []):=fun E u h=>by cases h; exact .sln E
theorem dm.esl:dm .esl (.sl []):=fun E u h=>by
  cases h with
  | esln=>exact .sln E
  | esl _ a=>exact .sle E a 0
theorem cZ.refl (r:List AV):cZ r r:=⟨rfl,fun _ _ _ h k=>by rw [h] at k; cases k; exact .refl _⟩
theorem cZ.nil:cZ [] []:=.refl _
theorem cZ.cons {a b:AV} {r r':List AV} (h:dm a b) (k:cZ r r'):cZ (a::r) (b::r') :=
  ⟨by simp [k.1],fun i x y h1 h2=>by
    cases i with
    | zero=>simp at h1 h2; subst h1 h2; exact h
    | succ i=>exact k.2 i x y (by simpa using h1) (by simpa using h2)⟩
theorem cZ.vrs {r r':List AV} {E:Env} {us:List Value} (h:cZ r r') (hv:cG E r us):cG E r' us :=
  ⟨by rw [← h.1]; exact hv.1,fun m c u h1 h2=>by
    have hm:m<r.length:=by rw [h.1]; exact (List.getElem?_eq_some_iff.1 h1).1
    exact h.2 m _ c (List.getElem?_eq_getElem hm) h1 _ _ (hv.2 m _ u (List.getElem?_eq_getElem hm) h2)⟩
theorem dm.agg {r r':List AV} (h:cZ r r'):dm (.agg r) (.agg r'):=fun E u hv=>by
  obtain ⟨us,rfl,h1⟩:=hv.aggI
  exact cG.aggV (h.vrs h1)
theorem dm.tup {r r':List AV} (h:cZ r r'):dm (.tup r) (.tup r'):=fun E u hv=>by
  obtain ⟨us,rfl,h1⟩:=hv.tupI
  have:=h.vrs h1
  exact .tup us (by simpa using this.1) (fun m c u h1 h2=>this.2 m c u h1 (by simpa using h2))
theorem dm.fptr {r r':List AV} {j:Nat} (h:cZ r r'):dm (.fptr r j) (.fptr r' j):=fun E u hv=>by
  cases hv with
  | fptr j us h1 h2 h3 h4 =>
    have:=h.vrs (E:=E.fz) (us:=us) ⟨h1.symm,h2⟩
    exact .fptr j us this.1.symm this.2 h3 h4
theorem iY.refl (r:List (List AV)):iY r r:=⟨rfl,fun _ _ _ h k=>by rw [h] at k; cases k; exact .refl _⟩
theorem iY.nil:iY [] []:=.refl _
theorem iY.cons {a b:List AV} {r r':List (List AV)} (h:cZ a b) (k:iY r r'):iY (a::r) (b::r') :=
  ⟨by simp [k.1],fun i x y h1 h2=>by
    cases i with
    | zero=>simp at h1 h2; subst h1 h2; exact h
    | succ i=>exact k.2 i x y (by simpa using h1) (by simpa using h2)⟩
theorem iY.app {a b r r':List (List AV)} (h:iY a b) (k:iY r r'):iY (a++r) (b++r'):=by
  induction a generalizing b with
  | nil =>
    have:b=[]:=List.eq_nil_of_length_eq_zero h.1.symm
    subst this
    exact k
  | cons x a ih =>
    cases b with
    | nil=>exact absurd h.1 (by simp)
    | cons y b=>exact .cons (h.2 0 x y rfl rfl) (ih ⟨by simpa using h.1,fun i p q h1 h2=>h.2 (i + 1) p q (by simpa using h1) (by simpa using h2)⟩)
theorem cZ.app {a b r r':List AV} (h:cZ a b) (k:cZ r r'):cZ (a++r) (b++r'):=by
  induction a generalizing b with
  | nil =>
    have:b=[]:=List.eq_nil_of_length_eq_zero h.1.symm
    subst this
    exact k
  | cons x a ih =>
    cases b with
    | nil=>exact absurd h.1 (by simp)
    | cons y b=>exact .cons (h.2 0 x y rfl rfl) (ih ⟨by simpa using h.1,fun i p q h1 h2=>h.2 (i + 1) p q (by simpa using h1) (by simpa using h2)⟩)
theorem iY.flat {r r':List (List AV)} (h:iY r r'):cZ r.flatten r'.flatten:=by
  induction r generalizing r' with
  | nil =>
    have:r'=[]:=List.eq_nil_of_length_eq_zero h.1.symm
    subst this
    exact .refl _
  | cons x a ih =>
    cases r' with
    | nil=>exact absurd h.1 (by simp)
    | cons y b =>
      have h1:=h.2 0 x y rfl rfl
      have h2:=ih (r':=b) ⟨by simpa using h.1,fun i p q h1 h2=>h.2 (i + 1) p q (by simpa using h1) (by simpa using h2)⟩
      rw [List.flatten_cons,List.flatten_cons]
      have app:∀ {a b r r':List AV},cZ a b→cZ r r'→cZ (a++r) (b++r'):=by
        intro a b r r' h k
        induction a generalizing b with
        | nil =>
          have:b=[]:=List.eq_nil_of_length_eq_zero h.1.symm
          subst this
          exact k
        | cons x a ih =>
          cases b with
          | nil=>exact absurd h.1 (by simp)
          | cons y b=>exact .cons (h.2 0 x y rfl rfl) (ih ⟨by simpa using h.1,fun i p q h1 h2=>h.2 (i + 1) p q (by simpa using h1) (by simpa using h2)⟩)
      exact app h1 h2
theorem iY.lens {r r':List (List AV)} {sz:Nat} (h:iY r r') (hl:∀ x∈r,x.length=sz):∀ x∈r',x.length=sz:=by
  intro x hx
  obtain ⟨i,hi⟩:=List.getElem?_of_mem hx
  have hlt:i<r.length:=by rw [h.1]; exact (List.getElem?_eq_some_iff.1 hi).1
  rw [← (h.2 i _ x (List.getElem?_eq_getElem hlt) hi).1]
  exact hl _ (List.getElem_mem hlt)
theorem dm.sl {r r':List (List AV)} (h:iY r r'):dm (.sl r) (.sl r'):=fun E u hv=>by
  cases hv with
  | sln =>
    have:r'=[]:=List.eq_nil_of_length_eq_zero h.1.symm
    subst this
    exact .sln E
  | sle _ a cap =>
    have:r'=[]:=List.eq_nil_of_length_eq_zero h.1.symm
    subst this
    exact .sle E a cap
  | sl us h1 h2 h3 h4 h5 h6 h7 =>
    have hf:=h.flat
    have:=hf.vrs (E:=E.fz) (us:=us) ⟨h3.symm,h4⟩
    rw [h.1]
    exact .sl us h1 (h.lens h2) this.1.symm this.2 h5 h6 (by rw [← h.1]; exact h7)
theorem Ea {ts:List Nat}:∀ {t:List AV} {i j:Nat} {c:AV},(HN ts i t)[j]?=some c→c=.bad∨t[j]?=some c
  | [],_,_,_,h=>by simp [HN] at h
  | x::xs,i,0,c,h=>by
    simp only [HN,List.getElem?_cons_zero,Option.some.injEq] at h
    split at h
    · exact .inr (by rw [← h]; rfl)
    · exact .inl h.symm
  | x::xs,i,j + 1,c,h=>by
    simp only [HN,List.getElem?_cons_succ] at h
    rw [List.getElem?_cons_succ]
    exact Ea h
theorem Eb {ts:List Nat}:∀ {t:List AV} {i:Nat},(HN ts i t).length=t.length
  | [],_=>rfl
  | x::xs,i=>by simp [HN,Eb]
theorem GA (ts:List Nat) (S:St):eC S { t:=HN ts 0 S.t,l:=S.l,o:=S.o,b:=S.b }:=fun _ E _ _ hM ht =>
  ⟨E,hM.congr rfl rfl rfl,by rw [Eb]; exact ht.len,fun n c u h1 h2=>by
    rcases Ea h1 with h | h
    · rw [h]; exact .bad _ _
    · exact ht.val n c u h h2,ht.df,ht.gt⟩
theorem Av (d:Nat) (S:St):eC S (fb d S):=fun G E a w hM ht=>by
  obtain ⟨E1,h1,h2,_⟩:=qM hM ht d rfl
  exact ⟨E1,h1,h2⟩
theorem rZ:∀ (ds:List Nat) (S:St),eC S (An ds S)
  | [],S=>.refl S
  | d::ds,S=>(Av d S).trans (rZ ds _)
theorem Fc (i:Nat) (S:St):eC S (ek i S):=fun _ _ _ _ hM ht =>
  let ⟨h1,h2⟩:=uo hM ht i
  ⟨_,h1,h2⟩
theorem w5:∀ (ds:List Nat) (S:St),eC S (Gr ds S)
  | [],S=>.refl S
  | d::ds,S=>(Fc d S).trans (w5 ds _)
theorem pz:∀ {os:List Ob} {i:Nat} {x:Ob},Ao os=true→os[i]?=some x→x=.dead
  | [],i,x,_,h=>by simp at h
  | .dead::os,0,x,_,h=>by simp at h; exact h.symm
  | .dead::os,i + 1,x,h,h1=>pz (os:=os) (i:=i) h (by simpa using h1)
  | .arr _ _ _::os,_,_,h,_=>by cases h
  | .mapo _ _::os,_,_,h,_=>by cases h
  | .own _ _ _ _::os,_,_,h,_=>by cases h
theorem Fe (n:Nat) (S:St):eC S (Ja n S):=fun _ E _ _ hM ht=>by
  unfold Ja
  split
  · rename_i h
    rw [Bool.and_eq_true] at h
    have hb:=Nat.le_of_ble_eq_true h.2
    have hbl:=hM.bl
    refine ⟨E,⟨hM.hp,hM.os,hM.tape,hM.output,hM.size,hM.keep,hM.F0,hM.Flt,hM.Fnew,hM.own,hM.inj,hM.loc,fun id=>?_,fun id hid=>?_,?_,hM.szs,hM.pk,fun id=>?_⟩,ht⟩
    · have h0:=hM.obj id
      show fZ E (S.o.take n)[id]? _
      rw [List.getElem?_take]
      split
      · exact h0
      · rename_i hn
        cases hx:S.o[id]? with
        | none=>rw [hx] at h0; exact h0
        | some x =>
          have:x=.dead:=pz h.1 (i:=id - n) (by rw [List.getElem?_drop]; rw [show n + (id - n)=id by omega]; exact hx)
          rw [hx,this] at h0
          revert h0
          cases E.mu (.O id) with
          | none=>exact fun _=>trivial
          | some _=>exact fun h=>h.elim
    · show (S.o.take n)[id]?=some .dead∨_
      have hid':id<S.b:=hid
      rw [List.getElem?_take,if_pos (by omega)]
      exact hM.old id hid
    · show S.b≤(S.o.take n).length
      rw [List.length_take]
      omega
    · have h0:=hM.ow id
      show ey E id (S.o.take n)[id]?
      rw [List.getElem?_take]
      split
      · exact h0
      · rename_i hn
        cases hx:S.o[id]? with
        | none=>rw [hx] at h0; exact h0
        | some x =>
          have:x=.dead:=pz h.1 (i:=id - n) (by rw [List.getElem?_drop]; rw [show n + (id - n)=id by omega]; exact hx)
          rw [hx,this] at h0
          exact h0
  · exact ⟨E,hM,ht⟩
theorem w7 {G:Gh} {E:Env} {S:St} {w:World} (hM:aj G pn E S w):E.mu (.O S.o.length)=none:=by
  have:=hM.obj S.o.length
  rw [List.getElem?_eq_none (Nat.le_refl _)] at this
  revert this
  cases E.mu (.O S.o.length) with
  | none=>exact fun _=>rfl
  | some _=>exact fun h=>h.elim
theorem BW {G:Gh} {E:Env} {S:St} {w:World} (hM:aj G pn E S w) (sz:Nat) (t:List AV):aj G pn ⟨E.F,aG E.mu (.O S.o.length) .virt,E.h⟩ { t:=t,l:=S.l,o:=S.o++[.arr true sz []],b:=S.b } w:=by
  have hbl:=hM.bl
  refine hM.addkey' (key:=.O S.o.length) (mv:=.virt) (fun _ _=>rfl) (fun _ h=>by cases h) (w7 hM) (fun _ _ _ _ h=>by cases h) (fun _ _=>rfl) (fun id hid=>?_) rfl ?_ (fun id h=>?_) (fun _ h=>by cases h) (fun id h=>?_) ?_
  · show (S.o++[_])[id]?=_
    by_cases h:id<S.o.length
    · rw [List.getElem?_append_left h]
    · have hne:id≠S.o.length:=fun e=>hid (by rw [e])
      rw [List.getElem?_eq_none (by simp; omega),List.getElem?_eq_none (by omega)]
  · show S.b≤(S.o++[_]).length
    simp
    omega
  · cases h
    exact hbl
  · cases h
    show fZ _ (S.o++[_])[S.o.length]? _
    rw [List.getElem?_append_right (Nat.le_refl _),Nat.sub_self]
    rfl
  · exact hM.ow_push rfl rfl
theorem rb:∀ (ps:List (Nat×Nat)) (S:St),eC S (BU ps S)
  | [],S=>.refl S
  | (d,sz)::ps,S=>by
    unfold BU
    split
    · rename_i hd
      refine eC.trans ?_ (rb ps _)
      intro G E a w hM ht
      refine ⟨_,BW hM sz _,?_⟩
      have hle:LE E ⟨E.F,aG E.mu (.O S.o.length) .virt,E.h⟩:=kx (w7 hM)
      refine ⟨by simpa using ht.len,fun n c u h1 h2=>?_,ht.df,ht.gt.mono hle⟩
      have h1':(S.t.set d (.mf S.o.length))[n]?=some c:=h1
      rw [List.getElem?_set] at h1'
      split at h1'
      · rename_i e
        subst e
        split at h1'
        · cases h1'
          have hv:=ht.val d _ u hd h2
          cases hv
          exact .mfn (by show aG _ _ _ _=_; unfold aG; rw [if_pos rfl])
        · cases h1'
      · exact (ht.val n c u h1' h2).mono hle
    · exact rb ps S
theorem nN:∀ (ps:List (Nat×Nat×Nat)) (S:St),eC S (zp ps S)
  | [],S=>.refl S
  | (d,j,sz)::ps,S=>by
    unfold zp
    split
    · rename_i row hd
      split
      · rename_i hj
        refine eC.trans ?_ (nN ps _)
        intro G E a w hM ht
        have hle:LE E ⟨E.F,aG E.mu (.O S.o.length) .virt,E.h⟩:=kx (w7 hM)
        refine ⟨_,?_,ht.mono hle⟩
        have h0:=BW hM sz S.t
        refine ⟨h0.hp,h0.os,h0.tape,h0.output,h0.size,h0.keep,h0.F0,h0.Flt,h0.Fnew,h0.own,h0.inj,fun e=>?_,h0.obj,h0.old,h0.bl,h0.szs,(fun _ _ h=>by cases h),h0.ow⟩
        have h1:=h0.loc e
        show im pn _ (aN (rv S.l d (row.set j (.mf S.o.length))) e) e
        rw [jT hd]
        split
        · rename_i e'
          subst e'
          have h1':im pn ⟨E.F,aG E.mu (.O S.o.length) .virt,E.h⟩ (aN S.l d) d:=h1
          rw [hd] at h1'
          rcases h1' with ⟨b,h2,h3,h4,us,ty,h5,h6,h7⟩ | ⟨_,h2,_⟩
          · refine .inl ⟨b,by simpa using h2,by simpa using h3,by simp,us,ty,h5,by simpa using h6,fun m c hc=>?_⟩
            have hf:[row.set j (.mf S.o.length)].flatten=row.set j (.mf S.o.length):=by simp
            have hf0:[row].flatten=row:=by simp
            rw [hf,List.getElem?_set] at hc
            split at hc
            · rename_i e'
              subst e'
              split at hc
              · cases hc
                obtain ⟨u,hu,hv⟩:=h7 j .nilsl (by rw [hf0]; exact hj)
                refine ⟨u,hu,?_⟩
                cases hv
                exact .mfn (by show aG _ _ _ _=_; unfold aG; rw [if_pos rfl])
              · cases hc
            · exact h7 m c (by rw [hf0]; exact hc)
          · cases h2
        · exact h1
      · exact nN ps S
    · exact nN ps S
theorem Ec {G:Gh} {E:Env} {S:St} {w:World} {a:Act} (hM:aj G pn E S w) (ht:TR E S.t a) (ids:List Nat):LE (E.fd ids) ⟨FD E ids,jW ids E.mu,E.h⟩∧aj G pn ⟨FD E ids,jW ids E.mu,E.h⟩ (fc ids S) w∧TR ⟨FD E ids,jW ids E.mu,E.h⟩ (fc ids S).t a:=by
  obtain ⟨hS1,ht1⟩:=mK (ids:=ids) hM ht
  obtain ⟨hle2,hS2⟩:=hS1.freeze (F':=FD E ids) (fun b h=>.inl h) (fun b h=>by
    rcases h with h | ⟨id,hid,o',s,n,hm⟩
    · exact .inl h
    · obtain ⟨h1,h2,h3⟩:=hM.own _ _ _ _ _ hm
      refine .inr ⟨h2,h3,fun k o'' s' n' h'=>?_⟩
      obtain ⟨h4,h5⟩:=iT h'
      exact h5 id hid (hM.inj _ _ _ _ _ _ _ _ _ h4 hm))
  exact ⟨⟨fun _ h=>h,fun _ _ _ h=>(by cases h),fun _ _=>rfl,fun _ _ _ _ _ _ h=>(by cases h)⟩,hS2,ht1.mono hle2⟩
theorem Ff {S:St} {d j:Nat} {row:List AV} {x y:AV} (hr:aN S.l d=some row) (hj:row[j]?=some x) (hy:CE S.o 6 x=some y):eC S (Jb (d_ S.o 6 x) d j y S):=by
  intro G E a w hM ht
  obtain ⟨hle,hS2,ht2⟩:=Ec hM ht (d_ S.o 6 x)
  unfold Jb
  split
  · rename_i row' hr'
    refine ⟨_,⟨hS2.hp,hS2.os,hS2.tape,hS2.output,hS2.size,hS2.keep,hS2.F0,hS2.Flt,hS2.Fnew,hS2.own,hS2.inj,fun e=>?_,hS2.obj,hS2.old,hS2.bl,hS2.szs,(fun _ _ h=>by cases h),hS2.ow⟩,ht2⟩
    show im pn _ (aN (rv (fc (d_ S.o 6 x) S).l d (row'.set j y)) e) e
    rw [jT hr']
    split
    · rename_i e'
      subst e'
      have l1:=hM.loc d
      have l2:=hS2.loc d
      rw [hr] at l1
      rw [hr'] at l2
      rcases l1 with ⟨b,h2,h3,h4,us,ty,h5,h6,h7⟩ | ⟨_,h2,_⟩
      · rcases l2 with ⟨b',k2,k3,k4,us',ty',k5,k6,k7⟩ | ⟨_,k2,_⟩
        · have k2':=(iT k2).1
          rw [h2] at k2'
          injection k2' with k2'
          injection k2' with e1 _ _ _
          subst e1
          have k5':E.h[b]?=_:=k5
          rw [h5] at k5'
          cases k5'
          refine .inl ⟨b,by simpa using k2,by simpa using k3,by simp,us,ty,k5,by simpa using k6,fun m c hc=>?_⟩
          have hf:[row'.set j y].flatten=row'.set j y:=by simp
          have hf0:[row'].flatten=row':=by simp
          rw [hf,List.getElem?_set] at hc
          split at hc
          · rename_i e'
            subst e'
            split at hc
            · cases hc
              have hf1:[row].flatten=row:=by simp
              obtain ⟨u,hu,hv⟩:=h7 j x (by rw [hf1]; exact hj)
              exact ⟨u,hu,(gR hM 6 hy hv (ids:=d_ S.o 6 x) (fun _ h=>h)).mono hle⟩
            · cases hc
          · exact k7 m c (by rw [hf0]; exact hc)
        · cases k2
      · cases h2
    · exact hS2.loc e
  · exact ⟨_,hS2,ht2⟩
theorem iV:∀ (ds:List Nat) (S:St),eC S (yf ds S)
  | [],S=>.refl S
  | d::ds,S=>by
    unfold yf
    split
    · split
      · rename_i row hr
        split
        · rename_i x hx
          split
          · rename_i y hy
            exact (Ff hr hx hy).trans (iV ds _)
          · exact iV ds S
        · exact iV ds S
      · exact iV ds S
    · split
      · rename_i x hx
        split
        · rename_i y hy
          refine eC.trans ?_ (iV ds _)
          intro G E a w hM ht
          obtain ⟨hle,hS2,ht2⟩:=Ec hM ht (d_ S.o 6 x)
          refine ⟨_,hS2.congr rfl rfl rfl,by simpa using ht2.len,fun n c u h1 h2=>?_,ht2.df,ht2.gt⟩
          have h1':((fc (d_ S.o 6 x) S).t.set d y)[n]?=some c:=h1
          rw [List.getElem?_set] at h1'
          split at h1'
          · rename_i e
            subst e
            split at h1'
            · cases h1'
              exact (gR hM 6 hy (ht.val d _ u hx h2) (ids:=d_ S.o 6 x) (fun _ h=>h)).mono hle
            · cases h1'
          · exact ht2.val n c u h1' h2
        · exact iV ds S
      · exact iV ds S
theorem GB (W:Wk) (S:St):eC S (LH W S):=by
  unfold LH
  exact (GA W.ts S).trans ((rZ W.ls _).trans ((w5 _ _).trans ((Fe _ _).trans ((rb _ _).trans (nN _ _)))))
theorem pZ (W:Wk) (S:St):eC S (wk W S):=(iV W.fz S).trans (GB W _)
theorem BX:∀ {xs:List (Nat×AV)} {S:St} {K:St→Prop},Jc xs S K→∃ S',eC S S'∧K S'
  | [],S,K,h=>⟨S,.refl S,h⟩
  | (d,v)::xs,S,K,h=>by
    obtain ⟨a,ha,hl,h⟩:=cI.1 h
    rw [eT] at h
    obtain ⟨S',h1,h2⟩:=BX h
    refine ⟨S',eC.trans ?_ h1,h2⟩
    intro G E act w hM ht
    refine ⟨E,hM.congr rfl rfl rfl,by simpa using ht.len,fun n c u h1 h2=>?_,ht.df,ht.gt⟩
    have h1':(S.t.set d v)[n]?=some c:=h1
    rw [List.getElem?_set] at h1'
    split at h1'
    · rename_i e
      subst e
      split at h1'
      · cases h1'
        exact hl _ _ (ht.val d _ u ha h2)
      · cases h1'
    · exact ht.val n c u h1' h2
theorem BY:∀ {xs:List (Nat×List AV)} {S:St} {K:St→Prop},HO xs S K→∃ S',eC S S'∧K S'
  | [],S,K,h=>⟨S,.refl S,h⟩
  | (d,r)::xs,S,K,h=>by
    unfold HO at h
    split at h
    · rename_i row hd
      obtain ⟨hl,h⟩:=h
      rw [jm] at h
      obtain ⟨S',h1,h2⟩:=BY h
      refine ⟨S',eC.trans ?_ h1,h2⟩
      intro G E act w hM ht
      refine ⟨E,?_,ht⟩
      refine ⟨hM.hp,hM.os,hM.tape,hM.output,hM.size,hM.keep,hM.F0,hM.Flt,hM.Fnew,hM.own,hM.inj,fun e=>?_,hM.obj,hM.old,hM.bl,hM.szs,(fun _ _ h=>by cases h),hM.ow⟩
      have h1:=hM.loc e
      show im pn _ (aN (rv S.l d r) e) e
      rw [jT hd]
      split
      · rename_i e'
        subst e'
        rw [hd] at h1
        rcases h1 with ⟨b,h2,h3,h4,us,ty,h5,h6,h7⟩ | ⟨_,h2,_⟩
        · refine .inl ⟨b,by rw [← hl.1]; exact h2,by rw [← hl.1]; exact h3,by simp,us,ty,h5,by rw [← hl.1]; exact h6,fun m c hc=>?_⟩
          have hf:[r].flatten=r:=by simp
          have hf0:[row].flatten=row:=by simp
          rw [hf] at hc
          have hm:m<row.length:=by rw [hl.1]; exact (List.getElem?_eq_some_iff.1 hc).1
          obtain ⟨u,hu,hv⟩:=h7 m _ (by rw [hf0]; exact List.getElem?_eq_getElem hm)
          exact ⟨u,hu,hl.2 m _ c (List.getElem?_eq_getElem hm) hc _ _ hv⟩
        · cases h2
      · exact h1
    · exact False.elim h
theorem BZ:∀ {xs:List (Nat×List (List AV))} {S:St} {K:St→Prop},HP xs S K→∃ S',eC S S'∧K S'
  | [],S,K,h=>⟨S,.refl S,h⟩
  | (i,R)::xs,S,K,h=>by
    unfold HP at h
    split at h
    · rename_i fl sz rows hi
      obtain ⟨hl,h⟩:=h
      rw [aF] at h
      obtain ⟨S',h1,h2⟩:=BZ h
      refine ⟨S',eC.trans ?_ h1,h2⟩
      intro G E act w hM ht
      refine ⟨E,?_,ht⟩
      refine ⟨hM.hp,hM.os,hM.tape,hM.output,hM.size,hM.keep,hM.F0,hM.Flt,hM.Fnew,hM.own,hM.inj,hM.loc,fun id=>?_,fun id hid=>?_,by show S.b≤(S.o.set _ _).length; rw [List.length_set]; exact hM.bl,hM.szs,hM.pk,fun id=>?_⟩
      · have h1:=hM.obj id
        show fZ E (S.o.set i _)[id]? _
        rw [List.getElem?_set]
        split
        · rename_i e
          subst e
          rw [if_pos (List.getElem?_eq_some_iff.1 hi).1]
          rw [hi] at h1
          revert h1
          cases E.mu (.O i) with
          | none=>exact fun h=>h
          | some mv =>
            cases mv with
            | virt =>
              intro h
              have h:rows=[]:=h
              subst h
              exact List.eq_nil_of_length_eq_zero hl.1.symm
            | blk b o s n =>
              rintro ⟨⟨h1,h2⟩,h3,h4,us,ty,h5,h6,h7⟩
              refine ⟨⟨h1,by rw [← hl.1]; exact h2⟩,h3,hl.lens h4,us,ty,h5,by rw [← hl.1]; exact h6,fun m c hc=>?_⟩
              have hf:=hl.flat
              have hm:m<rows.flatten.length:=by rw [hf.1]; exact (List.getElem?_eq_some_iff.1 hc).1
              obtain ⟨u,hu,hv⟩:=h7 m _ (List.getElem?_eq_getElem hm)
              exact ⟨u,hu,hf.2 m _ c (List.getElem?_eq_getElem hm) hc _ _ hv⟩
        · exact h1
      · have h1:=hM.old id hid
        show (S.o.set i _)[id]?=some .dead∨_
        rw [List.getElem?_set]
        split
        · rename_i e
          subst e
          rcases h1 with h1 | h1
          · rw [hi] at h1; cases h1
          · exact .inr h1
        · exact h1
      · have h1:=hM.ow id
        show ey E id (S.o.set i _)[id]?
        rw [List.getElem?_set]
        split
        · rename_i e
          subst e
          rw [if_pos (List.getElem?_eq_some_iff.1 hi).1]
          rw [hi] at h1
          exact h1
        · exact h1
    · exact False.elim h
theorem mC {L:Le} {S:St} {K:St→Prop} (h:Gs L S K):∃ S',eC S S'∧K S':=by
  obtain ⟨S1,h1,h⟩:=BX h
  obtain ⟨S2,h2,h⟩:=BY h
  obtain ⟨S3,h3,h⟩:=BZ h
  exact ⟨S3,h1.trans (h2.trans h3),h⟩
structure w8 (C:Ctx):Prop where
  det:gU C
theorem aC.mono2 {α β:Type} {X:(α→β→Prop)→Prop} (h:aw X) {K K':α→β→Prop} (hx:X K) (hk:∀ r s,K r s→K' r s):X K':=by
  obtain ⟨r,s,h1,h2⟩:=h _ hx
  exact h2 _ (hk r s h1)
theorem aC.mono {α:Type} {X:(α→Prop)→Prop} (h:aC X) {K K':α→Prop} (hx:X K) (hk:∀ r,K r→K' r):X K':=by
  obtain ⟨r,h1,h2⟩:=h K hx
  exact h2 _ (hk r h1)
theorem aw.mono {α β:Type} {X:(α→β→Prop)→Prop} (h:aw X) {K K':α→β→Prop} (hx:X K) (hk:∀ a b,K a b→K' a b):X K':=by
  obtain ⟨a,b,h1,h2⟩:=h K hx
  exact h2 _ (hk a b h1)
theorem Fg {op:BinOp} {x y:Value} {K:Value→Prop} (h:Gt op x y K):vG op x y K:=by
  unfold Gt at h
  unfold vG
  split at h <;> first
    | exact ar h.1 h.2
    | exact False.elim h
section
variable {C:Ctx} {A:eA} {pl:cm} {o:Oper}
theorem Fh {op:BinOp} {t:TypeId} {x y:AV} {k:AV→Prop} (h:Gu C A o op t x y k):CH C.P op t x y k:=by
  unfold Gu at h
  split at h
  · rename_i a b
    show yA C.P op t a b k
    unfold yA
    split at h
    · rename_i hn
      rw [hn]
      dsimp only
      split at h
      · exact h
      · rename_i a b hne
        split
        · exact (hne _ _ rfl rfl).elim
        · exact Fg h
    · rename_i c hc
      rw [hc]
      exact h
  · rename_i as bs
    show (match uR as,uR bs with
    | some xs,some ys =>
      match lB C.P op t xs ys with
      | some (.bool b)=>k (.v (.bool b))
      | _=>ah 226
    | _,_=>ah 227)
    split at h
    · rename_i xs ys h1 h2
      try rw [h1,h2]
      try dsimp only
      split at h
      · rw [h.1]
        exact h.2
      · exact False.elim h
    · exact False.elim h
  · exact False.elim h
theorem B0 {t:TypeId} {x ix:AV} {k:AV→Prop} (h:Ap C A o t x ix k):qD C.P t x ix k:=by
  unfold Ap at h
  unfold qD
  refine aC.mono bn h (fun i h'=>?_)
  clear h
  split at h'
  · rename_i s hu
    rw [hu]
    dsimp only
    split at h'
    · rw [h'.1]
      dsimp only
      have h2:=h'.2.2
      rw [h'.2.1] at h2
      exact h2
    · exact False.elim h'
  · rename_i len e cs hu
    rw [hu]
    dsimp only
    have h:=h'
    split at h
    · rename_i inf hi
      rw [hi]
      exact ar h.1 h.2
    · exact False.elim h
  · exact False.elim h'
theorem GC {vs:List AV} {k:AV→Prop} (h:Je C A pl o vs k):pop C pl o vs k:=by
  unfold Je at h
  split at h
  · exact h
  · split at h
    · rename_i ho
      unfold pop
      rw [ho]
      exact Fh h
    · rename_i ho
      unfold pop
      rw [ho]
      exact B0 h
    · exact False.elim h
theorem p0 {len cap:Nat} {lo hi mx:Option Int} {k:Nat→Nat→Nat→Prop} (h:zq len cap lo hi mx k):sO len cap lo hi mx k:=by
  unfold zq at h
  unfold sO
  split at h <;> first
    | exact h
    | exact ar h.1 h.2
    | exact False.elim h
theorem iW {t:TypeId} {x:AV} {lo hi mx:Option Int} {S:St} {k:AV→Prop} (h:mw C t x lo hi mx S k):jN C.P t x lo hi mx S k:=by
  unfold mw at h
  rw [Bool.and_comm (jE mx) (jE hi)] at h
  unfold jN
  split at h
  · rename_i hu
    rw [hu]
    dsimp only
    split at h
    · exact p0 h
    · exact False.elim h
  · rename_i e hu
    rw [hu]
    dsimp only
    split at h
    · rename_i i hi
      rw [hi]
      dsimp only
      obtain ⟨h0,h⟩:=ab h
      refine ar h0 ?_
      split at h
      · exact ar h.1 (p0 h.2)
      · split at h
        · rename_i ho
          dsimp only
          rw [ho]
          obtain ⟨h1,h⟩:=ab h
          exact ar h1 (p0 h)
        · exact False.elim h
      · split at h
        · rename_i ho
          dsimp only
          rw [ho]
          obtain ⟨h1,h⟩:=ab h
          exact ar h1 (p0 h)
        · exact False.elim h
      · exact False.elim h
    · exact False.elim h
  · exact False.elim h
theorem u4 {row:List AV} {t:TypeId} {x ix:AV} {S:St} {k:AV→Prop} (h:py C row t x ix S k):iA C.P t x ix S k:=by
  unfold py at h
  unfold iA
  refine aC.mono bn h (fun i h=>?_)
  split at h
  · rename_i e hu
    rw [hu]
    dsimp only
    split at h
    · rename_i inf hi
      rw [hi]
      dsimp only
      split at h
      · have h1:=h.1
        unfold Ir at h1
        dsimp only
        rw [h1]
        exact h.2
      · split at h
        · rename_i ho
          dsimp only
          rw [ho]
          dsimp only
          have h1:=h.1
          unfold Ir at h1
          rw [h1]
          exact h.2
        · rename_i ho
          dsimp only
          rw [ho]
          obtain ⟨h1,h2,h3⟩:=ab h
          refine ar ?_ h3
          rw [Bool.and_eq_true]
          exact ⟨h2,h1⟩
        · exact False.elim h
      · split at h
        · rename_i ho
          dsimp only
          rw [ho]
          dsimp only
          refine ar h.1 ?_
          rw [h.2.1]
          exact h.2.2
        · exact False.elim h
      · exact False.elim h
    · exact False.elim h
  · rename_i len e hu
    rw [hu]
    dsimp only
    split at h
    · rename_i inf hi
      rw [hi]
      exact ar h.1 h.2
    · exact False.elim h
  · exact False.elim h
theorem uE (hC:w8 C) {fid:Nat} {as:List AV} {k:AV→Prop} (h:vn C A o fid as k):C.pcall fid as k:=by
  unfold vn at h
  split at h
  · exact aC.mono (hC.det.pcall _ _) h.1 (fun _ e=>by rw [e]; exact h.2)
  · exact h
theorem Dq {P:Program} {op:BinOp} {t:TypeId} {x y:AV} {S:St} {k:AV→Prop} (h:Dm P op t x y S k):vM P op t x y S k:=by
  unfold Dm at h
  split at h
  · rename_i id
    split at h
    · rename_i rows hob
      obtain ⟨h1,h⟩:=h
      have:vL S (.mf id)=true:=by
        unfold vL
        dsimp only
        rw [hob]
        cases rows with
        | nil=>cases h1
        | cons _ _=>rfl
      unfold vM
      rw [this]
      exact h
    · exact False.elim h
  · exact False.elim h
theorem nO {size:Nat} {S:St} {x:AV} {k:Bool→List (List AV)→Prop} (h:tk size S x k):kq size S x k:=by
  unfold tk at h
  unfold kq
  split at h <;> first
    | exact ar h.1 h.2
    | exact h
    | exact False.elim h
theorem B1 {src dst:TypeId} {x:AV} {S:St} {s:ByteArray} {k:AV→Prop} (h:Ar C.P src dst x S s k):gd C.P src dst x S k:=by
  unfold Ar at h
  unfold gd
  split at h
  · rename_i hu hd
    rw [hu,hd]
    dsimp only
    split at h
    · rename_i he
      rw [he]
      dsimp only
      obtain ⟨h1,h⟩:=ab h
      refine ar h1 (aw.mono ep (nO h) (fun fl rows h=>?_))
      rw [h.1]
      show k (.v (.string ⟨s.data.toList.toArray⟩))
      have:(⟨s.data.toList.toArray⟩:ByteArray)=s:=by cases s; simp
      rw [this]
      exact h.2
    · exact False.elim h
  · exact False.elim h
theorem GD (hC:w8 C) {vs:List AV} {M:St} {k:AV→Prop} (h:Jf C A o vs M k):p8 C o vs M k:=by
  unfold Jf at h
  split at h
  · rename_i ho
    split at h
    · split at h
      · split at h
        · rename_i hob
          unfold p8
          rw [ho]
          dsimp only
          unfold FO
          dsimp only
          unfold xM
          dsimp only
          rw [hob]
          dsimp only
          rw [h.1]
          exact h.2
        · exact False.elim h
      · exact False.elim h
    · exact h
  · rename_i ho
    split at h
    · exact h
    · unfold p8
      rw [ho]
      split at h
      · exact iW h
      · exact aC.mono bn h (fun _ h=>iW h)
      · exact aC.mono bn h (fun _ h=>iW h)
      · exact aC.mono bn h (fun _ h=>aC.mono bn h (fun _ h=>iW h))
      · exact aC.mono bn h (fun _ h=>aC.mono bn h (fun _ h=>iW h))
      · exact aC.mono bn h (fun _ h=>aC.mono bn h (fun _ h=>aC.mono bn h (fun _ h=>iW h)))
      · exact False.elim h
  · rename_i ho
    split at h
    · unfold p8
      rw [ho]
      exact u4 h
    · exact h
  · rename_i ho
    split at h
    · split at h
      · rename_i hu
        split at h
        · rename_i hob
          unfold p8
          rw [ho]
          dsimp only
          unfold pQ
          rw [hu]
          dsimp only
          rw [hob]
          exact h.1 _ h.2
        · exact False.elim h
      · exact False.elim h
    · exact h
  · rename_i ho
    split at h
    · exact h
    · unfold p8
      rw [ho]
      exact Dq h
  · rename_i ho
    split at h
    · unfold p8
      rw [ho]
      exact B1 h
    · exact h
  · rename_i c ho
    split at h
    · rename_i hcal
      split at h
      · unfold p8
        rw [ho]
        dsimp only
        rw [hcal]
        dsimp only
        obtain ⟨h1,h⟩:=ab h
        exact ar h1 (aC.mono (eq _ _) h (fun bs hb=>uE hC hb))
      · exact False.elim h
    · exact h
  · exact h
theorem B2 {S:St} {row:List AV} {a:AV} {cs:List AV} {K:St→Prop} (h:As S row a cs K):mH S a cs K:=by
  unfold As at h
  split at h
  · unfold mH
    split at h
    · rename_i ho
      dsimp only
      rw [ho]
      dsimp only
      rw [h.1]
      exact h.2
    · exact False.elim h
  · exact False.elim h
theorem B3 {vs:List AV} {M:St} {k:AV→St→Prop} (h:HQ C A o vs M k):yD C o vs M k:=by
  unfold HQ at h
  split at h
  · exact h
  · split at h
    · rename_i ho
      split at h
      · unfold yD
        rw [ho]
        refine aC.mono cE h (fun cs h=>?_)
        split at h
        · rename_i hi
          rw [hi]
          obtain ⟨h1,h⟩:=ab h
          exact ar h1 (B2 h)
        · exact False.elim h
      · exact h
    · exact h
theorem Aw {ts:List TypeId} {base x:AV} {S:St} {k:St→AV→Prop} (h:wV C.P ts base x S k):mj C.P ts base x S k:=by
  unfold wV at h
  unfold mj
  split at h
  · split at h
    · rename_i e hu
      dsimp only
      rw [hu]
      dsimp only
      split at h
      · rename_i i hi
        rw [hi]
        dsimp only
        obtain ⟨h1,h⟩:=ab h
        refine ar h1 ?_
        refine aw.mono ep (nO h) (fun fl src h=>?_)
        refine ar h.1 ?_
        replace h:=h.2
        split at h
        · exact ar h.1 h.2
        · exact ar h.1 h.2
        · split at h
          · rename_i ho
            dsimp only
            rw [ho]
            obtain ⟨h1,h⟩:=ab h
            refine ar ?_ h.2
            simp only [Bool.and_eq_true] at h1 ⊢
            exact ⟨⟨h1.1,h.1⟩,h1.2⟩
          · exact False.elim h
        · split at h
          · rename_i ho
            dsimp only
            rw [ho]
            obtain ⟨h1,h2,h3,h⟩:=ab h
            refine ar h1 ?_
            rw [h2]
            exact ar h3 h
          · exact False.elim h
        · exact False.elim h
      · exact False.elim h
    · exact False.elim h
  · exact False.elim h
theorem yh {ts:List TypeId} {base x:AV} {k:AV→Prop} (h:tl C.P ts base x k):lD C.P ts base x k:=by
  unfold tl at h
  unfold lD
  split at h
  · split at h
    · rename_i e hu
      dsimp only
      rw [hu]
      dsimp only
      split at h
      · rename_i i hi
        rw [hi]
        dsimp only
        obtain ⟨h1,h⟩:=ab h
        refine ar h1 ?_
        refine aw.mono ep (nO h) (fun fl src h=>?_)
        obtain ⟨h2,h3,h4,h⟩:=ab h
        refine ar ?_ h
        rw [h2,h3,h4]
        rfl
      · exact False.elim h
    · exact False.elim h
  · exact False.elim h
theorem GE {vs:List AV} {k:AV→Prop} (h:Jg C o vs k):IX C o vs k:=by
  unfold Jg at h
  unfold IX
  split at h
  · rename_i c x y ho
    rw [ho]
    dsimp only
    split at h
    · rename_i hc
      rw [hc]
      exact yh h
    · exact False.elim h
  · exact False.elim h
theorem yi {ts:List TypeId} {base:AV} {n:Int} {S:St} {k:St→AV→Prop} (h:tm C.P ts base n S k):lE C.P ts base n S k:=by
  unfold tm at h
  unfold lE
  split at h
  · split at h
    · rename_i hu hv
      dsimp only
      rw [hu,hv]
      dsimp only
      split at h
      · rename_i hi
        rw [hi]
        exact ar h.1 h.2
      · exact False.elim h
    · exact False.elim h
  · exact False.elim h
theorem og {t:TypeId} {l c:AV} {S:St} {k:St→AV→Prop} (h:mz C.P t l c S k):cC C.P t l c S k:=by
  unfold mz at h
  unfold cC
  split at h
  · rename_i hu
    rw [hu]
    dsimp only
    split at h
    · rename_i hi
      rw [hi]
      dsimp only
      exact aC.mono bn h (fun _ h=>aC.mono bn h (fun _ h=>ar h.1 h.2))
    · exact False.elim h
  · exact False.elim h
theorem Dr (hC:w8 C) {f:AV} {args:List AV} {S:St} {k:St→AV→Prop} (h:Do C A o f args S k):yC C f args S k:=by
  unfold Do at h
  unfold yC
  split at h
  · dsimp only
    split at h
    · rename_i hp
      rw [hp]
      exact aC.mono (eq _ _) h (fun bs hb=>uE hC hb)
    · rename_i hp
      rw [hp]
      obtain ⟨h1,h⟩:=ab h
      refine ar h1 ?_
      split at h
      · exact aw.mono (hC.det.scall _ _ _) h.1 (fun r o' ⟨e1,e2⟩=>by subst e1 e2; exact h.2)
      · exact h
  · exact False.elim h
theorem ol {R:List (AV×AV)} {t:TypeId} {m key x:AV} {S:St} {K:St→Prop} (h:mB C.P R t m key x S K):fk C.P t m key x S K:=by
  unfold mB at h
  unfold fk
  split at h
  · rename_i hu
    rw [hu]
    dsimp only
    split at h
    · split at h
      · rename_i fl es ho
        dsimp only
        rw [ho]
        dsimp only
        obtain ⟨h1,h2,h3⟩:=ab h
        refine ar h1 ?_
        have:=h2 (fun es'=>bB (S.o.set _ (.mapo (fl&&dZ 4 x) es')) fun o=>K { t:=S.t,l:=S.l,o:=o,b:=S.b }) h3
        exact this
      · exact False.elim h
    · exact False.elim h
  · exact False.elim h
theorem Ds {ts:List TypeId} {x y:AV} {M:St} {k:AV→St→Prop} (h:Dn C.P ts x y M k):tV C.P ts x y M k:=by
  unfold Dn at h
  unfold tV
  split at h
  · split at h
    · rename_i e hu
      dsimp only
      rw [hu]
      dsimp only
      split at h
      · rename_i i hi
        rw [hi]
        dsimp only
        obtain ⟨h1,h⟩:=ab h
        refine ar h1 ?_
        refine aw.mono ep (nO h) (fun fl src h=>?_)
        obtain ⟨h2,h⟩:=h
        obtain ⟨h3,h⟩:=ab h
        refine ar (by rw [h2,h3]; rfl) ?_
        split at h
        · split at h
          · rename_i ho
            dsimp only
            rw [ho]
            exact h
          · exact False.elim h
        · split at h
          · rename_i ho
            dsimp only
            rw [ho]
            obtain ⟨h1,h2,h⟩:=ab h
            exact ar (by rw [h1,h2]; rfl) h
          · exact False.elim h
        · exact False.elim h
      · exact False.elim h
    · exact False.elim h
  · exact False.elim h
theorem B4 (hC:w8 C) {S:St} {K:St→Prop} (h:HR C A pl o S K):xN C pl o S K:=by
  unfold HR at h
  split at h
  · rename_i ho
    split at h
    · unfold xN
      rw [ho]
      refine aC.mono cJ h (fun m h=>?_)
      refine aC.mono cJ h (fun k h=>?_)
      refine aC.mono cJ h (fun x h=>?_)
      exact ol h
    · exact h
  · rename_i ho
    split at h
    · unfold xN
      rw [ho]
      refine aC.mono cJ h (fun m h=>?_)
      refine aC.mono cJ h (fun k h=>?_)
      refine aC.mono cJ h (fun x h=>?_)
      exact ol h
    · exact h
  · rename_i ho
    split at h
    · unfold xN
      rw [ho]
      refine aC.mono cJ h (fun l h=>?_)
      refine aC.mono cJ h (fun c h=>?_)
      exact og h
    · exact h
  · rename_i c ho
    split at h
    · rename_i hcal
      split at h
      · unfold xN
        rw [ho]
        dsimp only
        rw [hcal]
        dsimp only
        refine aC.mono bm h (fun as h=>?_)
        split at h
        · exact yi h
        · rename_i x y hne
          split
          · rename_i e
            cases e
            exact (hne _ _ rfl).elim
          · rename_i e
            cases e
            exact Aw h
          · rename_i h3
            exact (h3 _ _ rfl).elim
        · exact False.elim h
      · exact h
    · rename_i hcal
      unfold xN
      rw [ho]
      dsimp only
      rw [hcal]
      dsimp only
      refine aC.mono bm h (fun as h=>?_)
      split at h
      · exact Ds h
      · exact False.elim h
    · rename_i f hcal
      unfold xN
      rw [ho]
      dsimp only
      rw [hcal]
      dsimp only
      refine aC.mono cJ h (fun l h=>?_)
      refine aC.mono bm h (fun c h=>?_)
      exact Dr hC h
    · exact h
  · exact h
theorem lX {K:St→Prop} {S:St} (h:oy A o K S):K S:=by
  have h2:∀ {key:Nat} {S:St} {K:St→Prop},Gv A key S K→K S:=by
    intro key S K h
    unfold Gv at h
    split at h
    · exact h
    · split at h
      · rename_i ho
        obtain ⟨h1,h⟩:=h
        subst h1
        rw [aF] at h
        have e:∀ {α:Type} {l:List α} {i:Nat} {x:α},l[i]?=some x→l.set i x=l:=by
          intro α l i x hx
          refine List.ext_getElem? (fun m=>?_)
          rw [List.getElem?_set]
          split
          · rename_i e
            subst e
            rw [if_pos (List.getElem?_eq_some_iff.1 hx).1,hx]
          · rfl
        rw [e ho] at h
        exact h
      · exact False.elim h
  unfold oy at h
  unfold Is at h
  split at h
  · exact h2 h
  · split at h
    · exact h2 h
    · rename_i v hv
      obtain ⟨a,ha,e,h⟩:=cI.1 h
      subst e
      rw [eT,pu ha] at h
      exact h2 h
theorem zu {S:St} {K:St→Prop} (h:Gw C A pl o S K):EF C pl o S K:=aC.mono bm h (fun _ h=>GC h)
theorem zv (hC:w8 C) {S:St} {K:St→Prop} (h:Gx C A o S K):EG C o S K:=aC.mono bm h (fun _ h=>GD hC h)
theorem Fi {S:St} {K:St→Prop} (h:It C A o S K):EH C o S K:=aC.mono bm h (fun _ h=>B3 h)
theorem qu {row:Option (List (List AV))} {M:St} {id i:Nat} {k:AV→St→Prop} (h:pX row M id i k):fY M id i k:=by
  unfold pX at h
  unfold fY
  split at h
  · rename_i hob
    rw [hob]
    dsimp only
    split at h
    · obtain ⟨h1,h⟩:=h
      rw [h1]
      exact h
    · obtain ⟨h1,h⟩:=h
      rw [h1]
      exact h
  · exact h.elim
theorem yj {P:Program} {a:yg} {t:TypeId} {same:Bool} {M:St} {id i:Nat} {k:AV→St→Prop} (h:tn P a t same M id i k):jk P t same M id i k:=by
  unfold tn at h
  unfold jk
  split at h
  · split at h
    · rename_i hob
      rw [hob]
      exact ar h.1 h.2
    · exact h.elim
  · exact qu h
theorem w9 {P:Program} {t:TypeId} {M:St} {id i:Nat} {v:AV} {K:St→Prop} (h:q_ P t M id i v K):gP P t M id i v K:=by
  unfold q_ at h
  unfold gP
  split at h
  · rename_i hi hob
    rw [hi,hob]
    obtain ⟨h1,h2,h3⟩:=ab h
    refine ar ?_ h3
    simp only [Bool.and_eq_true] at h1 h2 ⊢
    exact ⟨⟨⟨h1.1,h2.1⟩,h1.2⟩,h2.2⟩
  · exact h.elim
theorem yk {P:Program} {j:Nat} {a:yg} {t:TypeId} {l c:AV} {M:St} {k:AV→St→Prop} (h:tp P j a t l c M k):ik P j t l c M k:=by
  unfold tp at h
  unfold ik
  split at h
  · rename_i hu
    rw [hu]
    dsimp only
    split at h
    · rename_i hi he
      rw [hi,he]
      dsimp only
      split at h
      · rename_i hi2
        rw [hi2]
        dsimp only
        refine nC h (fun n h=>?_)
        refine nC h (fun m h=>?_)
        obtain ⟨h1,h⟩:=h
        obtain ⟨h2,h⟩:=ab h
        refine ar ?_ ?_
        · simp only [Bool.and_eq_true] at h1 h2 ⊢
          exact ⟨⟨h1,h2.1⟩,h2.2⟩
        · refine rN h (fun z h=>?_)
          split at h
          · obtain ⟨h3,h⟩:=h
            dsimp only
            rw [h3]
            exact h
          · exact h.elim
      · exact h.elim
    · exact h.elim
  · exact h.elim
theorem yl {P:Program} {a:yg} {t:TypeId} {m key:AV} {ok:Bool} {M:St} {k:AV→St→Prop} (h:tq P a t m key ok M k):jl P t m key ok M k:=by
  unfold tq at h
  unfold jl
  split at h
  · rename_i hu
    rw [hu]
    dsimp only
    split at h
    · dsimp only
      split at h
      · rename_i hob
        rw [hob]
        dsimp only
        split at h
        · obtain ⟨h1,h2⟩:=h
          exact h1 (fun r=>match r with
            | some i=>fY M _ i fun a M'=>oN ok a true fun r=>k r M'
            | none=>jh P _ ok fun r=>k r M) (qu h2)
        · obtain ⟨h1,h2⟩:=h
          exact h1 (fun r=>match r with
            | some i=>fY M _ i fun a M'=>oN ok a true fun r=>k r M'
            | none=>jh P _ ok fun r=>k r M) h2
      · exact h.elim
    · exact h.elim
  · exact h.elim
theorem r5 {P:Program} {a:yg} {t:TypeId} {m key x:AV} {M:St} {K:St→Prop} (h:rX P a t m key x M K):j7 P t m key x M K:=by
  unfold rX at h
  unfold j7
  split at h
  · rename_i hu
    rw [hu]
    dsimp only
    split at h
    · rename_i id
      dsimp only
      split at h
      · rename_i ks sz cells hole hob
        rw [hob]
        dsimp only
        obtain ⟨h1,h2,h3⟩:=ab h
        refine ar h1 ?_
        have h4:=h2 (Kg M id sz cells hole x K) h3
        refine aC.mono2 dQ h4 (fun kv r h5=>?_)
        obtain ⟨h6,h7⟩:=ab h5
        refine ar h6 ?_
        cases r with
        | none=>exact h7
        | some i =>
          obtain ⟨h8,h9,h10⟩:=ab h7
          refine ar ?_ h10
          rw [Bool.and_eq_true]
          exact ⟨h8,h9⟩
      · exact h.elim
    · exact h.elim
  · exact h.elim
theorem uF {M:St} {x:AV} {X Y:Nat→Nat→Prop} (h:jO M x X) (hk:∀ id i,X id i→Y id i):jO M x Y:=by
  unfold jO at h ⊢
  split at h
  · split at h
    · exact hk _ _ h
    · exact h.elim
  · exact h.elim
theorem zw {P:Program} {vs:List AV} {M:St} {k:AV→St→Prop} (h:D_ P A pl o vs M k):l9 P pl o vs M k:=by
  unfold D_ at h
  split at h
  · exact h
  · split at h
    · rename_i ho
      unfold l9
      rw [ho]
      exact uF h (fun _ _ h=>yj h)
    · rename_i ho
      unfold l9
      rw [ho]
      exact uF h (fun _ _ h=>w9 h)
    · rename_i ho
      unfold l9
      rw [ho]
      exact yk h
    · rename_i ho
      unfold l9
      rw [ho]
      exact yl h
    · rename_i ho
      unfold l9
      rw [ho]
      exact r5 h
    · rename_i ho
      unfold l9
      rw [ho]
      exact r5 h
    · exact h.elim
theorem qv {S:St} {id:Nat} {K:St→Prop} (h:pY A S id K):ji S id K:=by
  unfold pY at h
  split at h
  · exact h
  · unfold ji
    split at h
    · rename_i hob
      rw [hob]
      dsimp only
      split at h
      · rename_i hk
        rw [hk]
        obtain ⟨h1,h2,h3,h4⟩:=ab h
        refine ar ?_ ?_
        · rw [Bool.and_eq_true]
          exact ⟨h1,h2⟩
        · rw [h3]
          exact h4
      · exact h.elim
    · rename_i hob
      rw [hob]
      dsimp only
      obtain ⟨h2,h3,h4⟩:=h
      refine ar h2 ?_
      rw [h3]
      exact h4
    · exact h.elim
theorem r6:∀ {ids:List Nat} {S:St} {K:St→Prop},wW A ids S K→nt ids S K
  | [],_,_,h=>h
  | _::_,_,_,h=>aC.mono nJ (qv h) (fun _ h=>r6 h)
theorem r7 {S:St} {id:Nat} {K:St→Prop} (h:rY A S id K):kZ S id K:=by
  unfold rY at h
  split at h
  · exact h
  · unfold kZ
    split at h
    · rename_i hob
      rw [hob]
      dsimp only
      rw [h.1]
      exact h.2
    · exact h.elim
theorem qw:∀ {ids:List Nat} {S:St} {K:St→Prop},tr A ids S K→lG ids S K
  | [],_,_,h=>h
  | _::_,_,_,h=>aC.mono po (r7 h) (fun _ h=>qw h)
theorem w_ {id:Nat} {S:St} {K:St→Prop} (h:wX A pl id S K):kQ pl id S K:=by
  unfold wX at h
  unfold kQ
  split at h
  · rename_i hc
    rw [hc]
    exact h
  · rename_i hc
    rw [hc]
    dsimp only
    refine aC.mono (kB _ _) (r6 h) (fun S1 h=>?_)
    split at h
    · rename_i hc
      rw [hc]
      exact h
    · rename_i hc
      rw [hc]
      exact qw h
theorem Dt (hC:w8 C) {vs:List AV} {M:St} {k:AV→St→Prop} (h:Dp C A o vs M k):mm C o vs M k:=by
  unfold Dp at h
  split at h
  · rename_i t X Y l c ho
    split at h
    · unfold mm
      rw [ho]
      exact og h
    · exact h
  · rename_i c fid first cap as ho
    unfold mm
    rw [ho]
    dsimp only
    split at h
    · rename_i x hcal
      rw [hcal]
      obtain ⟨h1,h⟩:=ab h
      refine ar h1 ?_
      split at h
      · obtain ⟨h2,h3⟩:=h
        obtain ⟨r0,o0,⟨e1,e2⟩,h4⟩:=hC.det.scall _ _ _ _ h2
        subst e1 e2
        exact h4 _ h3
      · exact h
    · exact h.elim
  · rename_i hne hne2
    have h':=B3 h
    unfold mm
    split
    · rename_i t X Y l c ho
      exact absurd rfl (hne t X Y l c ho)
    · rename_i c fid first cap as ho
      exact absurd rfl (hne2 c fid first cap as ho)
    · exact h'
theorem Fj (hC:w8 C) {vs:List AV} {M:St} {k:AV→St→Prop} (h:Gy C A pl o vs M k):nu C pl o vs M k:=by
  unfold Gy at h
  unfold nu
  split at h
  · rename_i hw
    rw [hw]
    exact zw h
  · rename_i hw
    rw [hw]
    exact Dt hC h
theorem Du (hC:w8 C) {S:St} {K:St→Prop} (h:Gz C A pl o S K):qe C pl o S K:=aC.mono bm h (fun _ h=>Fj hC h)
theorem Fl {S:St} {K:St→Prop} (h:Iu C A pl o S K):zP C pl o S K:=aC.mono bm h (fun _ h=>zw h)
theorem Fo {S:St} {K:St→Prop} (h:Iv C o S K):EI C o S K:=aC.mono bm h (fun _ h=>GE h)
theorem GF (hC:w8 C) {S:St} {K:St→Prop} (h:Jh C A pl o S K):zQ C pl o S K:=by
  refine aC.mono (BD hC.det) (K:=oy A o K) ?_ (fun _ h=>lX h)
  unfold Jh at h
  unfold zQ
  split at h
  · rename_i hc
    rw [hc]
    exact zu h
  · rename_i hc
    rw [hc]
    exact zv hC h
  · rename_i hc
    rw [hc]
    exact Fi h
  · rename_i h0 h1 h2
    have:=B4 hC h
    split
    · exact absurd (by assumption) h0
    · exact absurd (by assumption) h1
    · exact absurd (by assumption) h2
    · exact this
theorem vo (hC:w8 C) {S:St} {K:St→Prop} (h:Iw C A pl o S K):FY C pl o S K:=by
  unfold Iw at h
  unfold FY
  split at h
  · rename_i hw
    rw [hw]
    exact aC.mono BB (Fl h) (fun _ h=>lX h)
  · rename_i hw
    rw [hw]
    exact GF hC h
theorem xd (hC:w8 C) {S:St} {K:St→Prop} (h:BV C A pl o S K):xK C pl o S K:=by
  unfold BV at h
  split at h
  · rename_i hc
    refine aC.mono (iy hC.det) (K:=oy A o K) ?_ (fun _ h=>lX h)
    unfold xK
    rw [hc]
    exact zu h
  · rename_i hc
    refine aC.mono (iy hC.det) (K:=oy A o K) ?_ (fun _ h=>lX h)
    unfold xK
    rw [hc]
    exact zv hC h
  · rename_i hc
    refine aC.mono (iy hC.det) (K:=oy A o K) ?_ (fun _ h=>lX h)
    unfold xK
    rw [hc]
    exact Du hC h
  · rename_i hc
    unfold xK
    rw [hc]
    exact h
  · rename_i hc
    refine aC.mono (iy hC.det) (K:=oy A o K) ?_ (fun _ h=>lX h)
    unfold xK
    rw [hc]
    exact Fo h
  · rename_i h0 h1 h2 h4 h5
    refine aC.mono (iy hC.det) (K:=oy A o K) ?_ (fun _ h=>lX h)
    unfold xK
    split
    · exact absurd (by assumption) h0
    · exact absurd (by assumption) h1
    · exact absurd (by assumption) h2
    · exact absurd (by assumption) h4
    · exact absurd (by assumption) h5
    · split at h
      · exact False.elim h
      · rename_i hb
        rw [hb]
        exact B4 hC h
theorem HT (hC:w8 C) {all:Array Oper} {S:St} {K:St→Prop} (h:LI C A pl all o S K):ag C pl all o S K:=by
  unfold LI at h
  unfold ag
  split at h
  · rename_i hg
    rw [hg]
    obtain ⟨h1,h⟩:=ab h
    exact ar h1 (xd hC h)
  · rename_i j want hg
    rw [hg]
    dsimp only
    split at h
    · exact False.elim h
    · rename_i d hd
      rw [hd]
      dsimp only
      refine aw.mono ed h (fun b S1 h=>?_)
      have key:∀ {S:St},ca (jP pl all o S) (BV C A pl o S K)→qF C pl all o S K:=by
        intro S h
        obtain ⟨h1,h⟩:=ab h
        exact ar h1 (xd hC h)
      unfold gsel at h ⊢
      split at h
      · exact key h
      · exact key h
      · exact h
theorem Ed (hC:w8 C) {ops:Array Oper} {i:Nat} {S:St} {K:St→Prop} (h:J5 C A pl ops i S K):yF C pl ops i S K:=by
  unfold J5 at h
  unfold yF
  split at h
  · exact False.elim h
  · rename_i o ho
    rw [ho]
    exact HT hC h
theorem B5 {S2 S1:St} {X:Prop} (h:S2=S1∧X):tY S2 S1 X:=by
  unfold tY
  split
  · exact h.2
  · exact h
theorem Ax (hC:w8 C) {ops:Array Oper} {ws:List Nat}:∀ {n a:Nat} {listed:Array Bool} {t:PT} {S:St} {K:St→Prop},kS pl ops ws n a listed=some t→oT C A pl ops t none S K→ku C pl ops ws n listed S K
  | 0,a,listed,t,S,K,hp,h=>by
    unfold kS at hp
    unfold ku
    split at hp
    · cases hp
      rename_i hr
      rw [hr]
      exact h
    · cases hp
  | n + 1,a,listed,t,S,K,hp,h=>by
    unfold kS at hp
    unfold ku
    split at hp
    · cases hp
      rename_i hr
      rw [hr]
      exact h
    · rename_i r rs hr
      rw [hr]
      dsimp only
      have step:∀ {k b:Nat} {u:PT} {S:St} {K:St→Prop},kS pl ops ws n b (listed.setIfInBounds k true)=some u→(J5 C A pl ops k S fun S'=>oT C A pl ops u none S' K)→yF C pl ops k S fun S'=>ku C pl ops ws n (listed.setIfInBounds k true) S' K :=
        fun hj h=>aC.mono (gp hC.det) (Ed hC h) (fun _ h=>Ax hC hj h)
      have alts:∀ {b:Nat} {is:List Nat} {u:PT} {S S1:St} {K:St→Prop} {X:Prop},qq (fun i=>kS pl ops ws n b (listed.setIfInBounds i true)) is=some u→oT C A pl ops u (some (S1,X)) S K →
          CK (fun i K'=>yF C pl ops i S fun S'=>ku C pl ops ws n (listed.setIfInBounds i true) S' K') is S1 X:=by
        intro b is
        induction is with
        | nil =>
          intro u S S1 K X hu h
          unfold qq at hu
          cases hu
          exact h
        | cons i is ih =>
          intro u S S1 K X hu h
          unfold qq at hu
          split at hu
          · rename_i v hv
            split at hu
            · rename_i w hw
              cases hu
              refine aC.mono (aC.bind (gp hC.det) (fun S'=>f5 hC.det _ _ _)) (step hv h) (fun S2 h=>?_)
              exact B5 ⟨h.1,ih hw h.2⟩
            · cases hu
          · cases hu
      split at hp
      · rename_i k hk
        rw [hk]
        dsimp only
        split at hp
        · cases hp
          rename_i u hj
          exact step hj h
        · cases hp
      · rename_i hk
        rw [hk]
        dsimp only
        split at hp
        · split at hp
          · cases hp
            rename_i u hj
            refine aC.mono (aC.bind (gp hC.det) (fun S'=>f5 hC.det _ _ _)) (step hj h) (fun _ h=>?_)
            exact h
          · cases hp
        · split at hp
          · rename_i b _ _
            unfold qq at hp
            split at hp
            · rename_i v hv
              split at hp
              · rename_i w hw
                cases hp
                refine aC.mono (aC.bind (gp hC.det) (fun S'=>f5 hC.det _ _ _)) (step hv h) (fun S1 h=>?_)
                exact alts hw h
              · cases hp
            · cases hp
          · cases hp
theorem GG (hC:w8 C) {ops:Array Oper} {ws:List Nat}:∀ {n:Nat} {listed:Array Bool} {t:PT} {S:St} {K:St→Prop},zt pl ops ws n listed=some t→oT C A pl ops t none S K→uS C pl ops ws n listed S K
  | 0,listed,t,S,K,hp,h=>Ax hC (n:=0) hp h
  | n + 1,listed,t,S,K,hp,h=>by
    unfold zt at hp
    unfold uS
    split at hp
    · rename_i i hi
      rw [hi]
      dsimp only
      split at hp
      · cases hp
        rename_i u hj
        exact aC.mono (gp hC.det) (Ed hC h) (fun _ h=>GG hC hj h)
      · cases hp
    · rename_i hi
      rw [hi]
      exact Ax hC hp h
theorem GH (hC:w8 C) {ops:Array Oper} {t:PT} {S:St} {K:St→Prop} (hp:wY pl ops=some t) (h:oT C A pl ops t none S K):xO C pl ops S K:=by
  unfold wY at hp
  unfold xO
  split at hp
  · cases hp
  · rename_i hn
    refine ar hn ?_
    split at hp
    · rename_i hc
      rw [hc]
      exact Ax hC hp h
    · rename_i hc
      rw [hc]
      exact GG hC hp h
theorem r8:∀ {x y:PT},Dl x y=true→x=y
  | .done,.done,_=>rfl
  | .go i t,.go j u,h=>by
    unfold Dl at h
    rw [Bool.and_eq_true] at h
    rw [Nat.eq_of_beq_eq_true h.1,r8 h.2]
  | .alt i t r,.alt j u s,h=>by
    unfold Dl at h
    rw [Bool.and_eq_true,Bool.and_eq_true] at h
    rw [Nat.eq_of_beq_eq_true h.1,r8 h.2.1,r8 h.2.2]
  | .done,.go _ _,h=>by cases h
  | .done,.alt _ _ _,h=>by cases h
  | .go _ _,.done,h=>by cases h
  | .go _ _,.alt _ _ _,h=>by cases h
  | .alt _ _ _,.done,h=>by cases h
  | .alt _ _ _,.go _ _,h=>by cases h
end
open Go.RowKit (Below)
def eW (P:Program) (c:Code) (S:St) (K:Ex→St→Prop):Prop :=
  ∃ e S',(∀ (r:Option Nat) (G:Gh) (E:Env) (a:Act) (w:World) (Q:Exit→Act→World→Prop),aj G pn E S w→TR E S.t a→Gb G (fun e' S''=>e'=e∧S''=S') Q→c.wpIn (rd r) 0 P Q a w)∧K e S'
theorem eW.mono {P:Program} {c:Code} {S:St} {K K':Ex→St→Prop} (h:eW P c S K) (hk:∀ e S',K e S'→K' e S'):eW P c S K' :=
  let ⟨e,S',h1,h2⟩:=h
  ⟨e,S',h1,hk _ _ h2⟩
theorem B6 (cfg:qG):w8 (jq cfg):=⟨px cfg⟩
theorem uG {P:Program} {op:BinOp} {t e:TypeId} {rows:List (List AV)} {E:Env} {u:Value} (hop:Ji op=true) (hu:P.underlying t=some (.slice e)) (hx:VR E (.sl rows) u) (w:World) (X Y:Operand) :
    ∃ b,(do eqGuard op t X Y u (.slice none 0 0); binOp op t u (.slice none 0 0):Sem Value).run P w=.ok (.bool b) w∧((b=zr op∧rows=[])∨b=!(zr op)):=by
  have h0:∃ b,(∀ d:Nat,(Op.equalIn (d + 1) t u (.slice none 0 0)).run P w=.ok b w)∧((b=true∧rows=[])∨b=false):=by
    cases hx with
    | sln=>exact ⟨true,fun d=>by unfold Op.equalIn; rw [Sem.run_bind,run_underlying hu]; rfl,.inl ⟨rfl,rfl⟩⟩
    | sle _ a cap=>exact ⟨false,fun d=>by unfold Op.equalIn; rw [Sem.run_bind,run_underlying hu]; rfl,.inr rfl⟩
    | sl us h1 h2 h3 h4 h5 h6 h7=>exact ⟨false,fun d=>by unfold Op.equalIn; rw [Sem.run_bind,run_underlying hu]; rfl,.inr rfl⟩
  obtain ⟨b,hb,hr⟩:=h0
  have hn:F2 u=true:=by cases hx <;> rfl
  have he:(Op.equal t u (.slice none 0 0)).run P w=.ok b w:=sW hb
  rw [jR hn]
  cases op with
  | eql =>
    refine ⟨b,?_,hr⟩
    have:binOp .eql t u (.slice none 0 0)=(do pure (.bool (← Op.equal t u (.slice none 0 0)))):=by cases hx <;> rfl
    simp [this,he]
  | neq =>
    refine ⟨!b,?_,?_⟩
    · have:binOp .neq t u (.slice none 0 0)=(do pure (.bool (!(← Op.equal t u (.slice none 0 0))))):=by cases hx <;> rfl
      simp [this,he]
    · rcases hr with ⟨rfl,hr⟩ | rfl
      · exact .inl ⟨rfl,hr⟩
      · exact .inr rfl
  | _=>cases hop
section
variable {G:Gh} {C:Ctx} {A:eA} {pl:cm}
theorem nP (hO:w8 C) (hC:eV C) {rr:Option Nat} {all:Array Oper} {Q:Exit→Act→World→Prop}:∀ {ops:List Oper} {E:Env} {S:St} {w:World} {a:Act} {K:St→Prop},aj G pn E S w→TR E S.t a→Au C A pl all ops S K →
    (∀ S' E' a' w',K S'→aj G pn E' S' w'→TR E' S'.t a'→Q .normal a' w')→wpListIn (rd rr) 0 C.P all Q ops a w
  | [],E,S,w,a,K,hM,ht,h,hQ=>hQ _ _ _ _ h hM ht
  | o::rest,E,S,w,a,K,hM,ht,h,hQ=>by
    have step:∀ {S1:St},aj G pn E S1 w→TR E S1.t a→Region.wanted o (yielded all a.tmps)=true→(Iw C A pl o S1 fun S'=>Au C A pl all rest S' K)→wpListIn (rd rr) 0 C.P all Q (o::rest) a w:=by
      intro S1 hM1 ht1 hw h
      unfold wpListIn
      rw [if_pos hw]
      refine yY (CZ (vo hO h)) (s8 hC hM1 ht1 (vo hO h) _ _ (fun S' E' a' w' hk hS htr=>?_))
      exact nP hO hC hS htr hk hQ
    unfold Au at h
    split at h
    · rename_i hg
      have hw:Region.wanted o (yielded all a.tmps)=true:=by unfold Region.wanted; rw [hg]
      split at h
      · unfold wpListIn
        rw [if_pos hw]
        unfold Ix at h
        split at h
        · rename_i op t x yt ho
          split at h
          · rename_i e hu
            obtain ⟨c,h,hc⟩:=dL h ht
            split at h
            · rename_i rows
              obtain ⟨hop,h1,h2⟩:=ab h
              obtain ⟨b,hrun,hbr⟩:=uG hop hu hc w x (.const (.slice none 0 0))
              have hex:(execOp a.eval o).run C.P w=.ok (.value (.bool b)) w:=by
                have:(execOp a.eval o)=(do pure (.value (← (do eqGuard op t x (.const (.slice none 0 0)) (a.eval x) (.slice none 0 0); binOp op t (a.eval x) (.slice none 0 0):Sem Value)))):=by
                  unfold execOp
                  rw [ho]
                  simp [Act.eval]
                rw [this,Sem.run_bind,hrun]
                rfl
              refine yY (fun c hc=>by rw [ho] at hc; cases hc) (eb hex ?_)
              have h3:b_ o.dst (.v (.bool b)) S fun S'=>Au C A pl all rest S' K:=by
                rcases hbr with ⟨rfl,hr⟩ | rfl
                · exact h1 hr
                · exact h2
              rw [aJ] at h3
              exact nP hO hC (hM.congr cX cY dl) (ht.put (.v _ _ rfl)) h3 hQ
            · exact False.elim h
          · exact False.elim h
        · exact False.elim h
      · exact step hM ht hw h
    · rename_i j want hg
      split at h
      · exact False.elim h
      · rename_i d hd
        obtain ⟨b,S1,h,hb,hM1,ht1⟩:=k9 hM ht h
        rcases mr hg (nD hd hb) h with ⟨hw,h⟩ | ⟨hw,h⟩
        · exact step hM1 ht1 hw h
        · rw [aJ] at h
          unfold wpListIn
          rw [if_neg (by rw [hw]; exact fun h=>by cases h)]
          exact ⟨fun _ _=>trivial,nP hO hC (hM1.congr cX cY dl) (ht1.put (rO _)) h hQ⟩
end
theorem B7 {A:Jd} {id:Nat} {S:St} {K:St→Prop} (h:Fb A id S K):∃ S',eC S S'∧K S':=by
  unfold Fb at h
  split at h
  · exact mC h
  · exact ⟨S,.refl S,h⟩
theorem B8 {cfg:qG} (hmix:cfg.P.follows .mixedOrders=true) {A:Jd} {pl:cm}:∀ (c:Code) {S:St} {K:Ex→St→Prop},ordB pl A.ord c=true→wZ (jq cfg) (eW cfg.P) A pl c S K →
    ∀ (r:Option Nat) (G:Gh) (E:Env) (a:Act) (w:World) (Q:Exit→Act→World→Prop),aj G pn E S w→TR E S.t a→Gb G K Q→c.wpIn (rd r) 0 cfg.P Q a w:=by
  have hC:=B6 cfg
  intro c
  induction c with
  | skip=>exact fun _ h r G E a w Q hM ht hQ=>wpIn_skip (hQ .nrm _ E _ _ h hM ht)
  | region id ops draw =>
    intro S K hB h r G E a w Q hM ht hQ
    cases draw with
    | false =>
      refine wpIn_region_list (nP hC (lq cfg) hM ht h (fun S' E' a' w' hk hS htr=>?_))
      obtain ⟨S3,E3,hk,hS,htr⟩:=mq hS htr (w_ hk)
      obtain ⟨S2,hw,hk⟩:=B7 hk
      obtain ⟨E2,hM2,ht2⟩:=hw G E3 a' w' hS htr
      exact hQ .nrm _ _ _ _ hk hM2 ht2
    | true =>
      refine m_ hmix pl id ops S (fun e S'=>e=.nrm∧Fb A id S' (K .nrm)) ?_ r G E a w Q hM ht (fun e S' E' a' w' hk hS htr=>?_)
      · unfold ordB at hB
        have h':(match rh A.ord id with
        | some is=>ca (t_ pl ops) (xP (jq cfg).P (cO ops.toList) S fun S1=>oT (jq cfg) (Fa A id) pl ops is none S1 fun S'=>lH (cO ops.toList) S' (wX (Fa A id) pl id S' fun S''=>Fb A id S'' (K .nrm)))
        | none=>ah 440):=h
        split at hB
        · rename_i is js h1 h2
          rw [h1] at h'
          dsimp only at h'
          obtain ⟨h3,h'⟩:=ab h'
          refine ar h3 ?_
          refine aC.mono wB h' (fun S1 h=>?_)
          rw [r8 hB] at h
          refine aC.mono (wC hC.det) (GH hC h2 h) (fun S' h=>?_)
          obtain ⟨h4,h5⟩:=m8 h
          exact h5 _ (aC.mono pV (w_ h4) (fun S'' h=>⟨rfl,h⟩))
        · cases hB
      · obtain ⟨rfl,hk⟩:=hk
        obtain ⟨S2,hw,hk⟩:=B7 hk
        obtain ⟨E2,hM2,ht2⟩:=hw G E' a' w' hS htr
        exact hQ .nrm _ _ _ _ hk hM2 ht2
  | seq x y ihx ihy =>
    intro S K hB h r G E a w Q hM ht hQ
    unfold ordB at hB
    rw [Bool.and_eq_true] at hB
    refine wpIn_seq (ihx hB.1 h r G E a w _ hM ht (fun e S' E' a' w' hk hS htr=>?_))
    cases e with
    | nrm =>
      dsimp only at hk
      split at hk
      · obtain ⟨S2,h1,⟨e2,S3,h2,h3,h4⟩,h5⟩:=mC hk
        subst h3 h4
        obtain ⟨E2,hM2,ht2⟩:=((pZ _ _).trans h1) G E' a' w' hS htr
        refine h2 r G E2 a' w' Q hM2 ht2 (fun e' S'' E'' a'' w'' he hS' ht'=>?_)
        obtain ⟨rfl,rfl⟩:=he
        exact hQ _ _ _ _ _ h5 hS' ht'
      · exact ihy hB.2 hk r G E' a' w' Q hS htr hQ
    | ex i=>exact hQ (.ex i) _ _ _ _ hk hS htr
    | ret=>exact hQ .ret _ _ _ _ hk hS htr
  | cond c x y ihx ihy =>
    intro S K hB h r G E a w Q hM ht hQ
    unfold ordB at hB
    rw [Bool.and_eq_true] at hB
    obtain ⟨b,S1,h1,h2,h3,h4⟩:=o_ hM ht h
    cases b with
    | true=>exact wpIn_cond_true h2 (ihx hB.1 h1 r G E a w Q h3 h4 hQ)
    | false=>exact wpIn_cond_false h2 (ihy hB.2 h1 r G E a w Q h3 h4 hQ)
  | block id c ih =>
    intro S K hB h r G E a w Q hM ht hQ
    refine wpIn_block (ih hB h r G E a w _ hM ht (fun e S' E' a' w' hk hS htr=>?_))
    cases e with
    | nrm=>exact hQ .nrm _ _ _ _ hk hS htr
    | ret=>exact hQ .ret _ _ _ _ hk hS htr
    | ex i =>
      show Exit.inBlock id Q (.exit i) a' w'
      unfold Exit.inBlock
      dsimp only at hk
      split at hk
      · rename_i hb
        have:=Nat.eq_of_beq_eq_true hb
        subst this
        simp only [if_pos]
        exact hQ .nrm _ _ _ _ hk hS htr
      · rename_i hb
        have hne:¬ i=id:=fun e=>by subst e; simp at hb
        simp only [if_neg hne]
        exact hQ (.ex i) _ _ _ _ hk hS htr
  | loop c ih =>
    intro S K hB h r G E a w Q hM ht hQ
    have h':(match rh A.lps (qt c) with
    | some (W,L,e,S1)=>Gs L (wk W S) fun S2=>((jq cfg).loop pl c S2 fun e' S'=>e'=e∧S'=S1)∧K e S1
    | none=>(jq cfg).loop pl c S K):=h
    split at h'
    · obtain ⟨S2,h1,h2,h3⟩:=mC h'
      obtain ⟨E2,hM2,ht2⟩:=((pZ _ _).trans h1) G E a w hM ht
      refine lr cfg pl c S2 _ h2 r G E2 a w Q hM2 ht2 (fun e' S'' E'' a'' w'' he hS' ht'=>?_)
      obtain ⟨rfl,rfl⟩:=he
      exact hQ _ _ _ _ _ h3 hS' ht'
    · exact lr cfg pl c S K h' r G E a w Q hM ht hQ
  | exit id=>exact fun _ h r G E a w Q hM ht hQ=>wpIn_exit (hQ (.ex id) _ E _ _ h hM ht)
  | ret=>exact fun _ h r G E a w Q hM ht hQ=>wpIn_ret (hQ .ret _ E _ _ h hM ht)
  | _=>exact fun _ h=>False.elim h
theorem eW.of {cfg:qG} (hmix:cfg.P.follows .mixedOrders=true) {pl:cm} {c:Code} {S S1:St} {e:Ex} {K:Ex→St→Prop} {A:Jd} {we:List (Nat×(Wk×Le))} (hB:ordB pl A.ord c=true)
    (h:Jk (jq cfg) (eW cfg.P) A pl we c S (fun e' S'=>e'=e∧S'=S1)) (hk:K e S1):eW cfg.P c S K:=by
  refine ⟨e,S1,fun r G E a w Q hM ht hQ=>?_,hk⟩
  refine B8 hmix c hB h r G E a w Q hM ht (fun e' S' E' a' w' hk hS htr=>?_)
  dsimp only at hk
  split at hk
  · obtain ⟨S2,h1,rfl,rfl⟩:=mC hk
    obtain ⟨E2,hM2,ht2⟩:=((pZ _ _).trans h1) G E' a' w' hS htr
    exact hQ _ _ _ _ _ ⟨rfl,rfl⟩ hM2 ht2
  · obtain ⟨rfl,rfl⟩:=hk
    exact hQ _ _ _ _ _ ⟨rfl,rfl⟩ hS htr
theorem jG.round {cfg:qG} {pl:cm} {c:Code} {S:St} {K:Ex→St→Prop}
    (h:eW cfg.P c S fun e S'=>match e with
      | .nrm=>jG cfg.P pl c S' K
      | .ex i=>K (.ex i) S'
      | .ret=>K .ret S'):jG cfg.P pl c S K:=by
  obtain ⟨e1,S1,h2,h1⟩:=h
  have run:∀ (e:Ex) (S3:St) (n:Nat),(∀ (r:Option Nat) (G:Gh) (E:Env) (a:Act) (w:World) (Q:Exit→Act→World→Prop),aj G pn E S1 w→TR E S1.t a→Gb G (fun e' S''=>e'=e∧S''=S3) Q→Exit.then (Code.roundsIn (rd r) 0 cfg.P c Q n) Q (HG e1) a w) →
      ∀ (r:Option Nat) (G:Gh) (E:Env) (a:Act) (w:World) (Q:Exit→Act→World→Prop),aj G pn E S w→TR E S.t a→Gb G (fun e' S''=>e'=e∧S''=S3) Q→Code.roundsIn (rd r) 0 cfg.P c Q (n + 1) a w:=by
    intro e S3 n hn r G E a w Q hM ht hQ
    refine h2 r G E a w _ hM ht (fun e' S' E' a' w' hk hS htr=>?_)
    obtain ⟨rfl,rfl⟩:=hk
    exact hn r G E' a' w' Q hS htr hQ
  cases e1 with
  | nrm =>
    obtain ⟨n,e,S',hl,hk⟩:=h1
    exact ⟨n + 1,e,S',run e S' n (fun r G E a w Q hM ht hQ=>hl r G E a w Q hM ht hQ),hk⟩
  | ex i=>exact ⟨1,.ex i,S1,run _ _ 0 (fun r G E a w Q hM ht hQ=>hQ _ _ _ _ _ ⟨rfl,rfl⟩ hM ht),h1⟩
  | ret=>exact ⟨1,.ret,S1,run _ _ 0 (fun r G E a w Q hM ht hQ=>hQ _ _ _ _ _ ⟨rfl,rfl⟩ hM ht),h1⟩
def rk {σ τ:Type} (Sf:σ→St) (out:τ→Ex×St) (r:σ⊕τ) (e:Ex) (S':St):Prop :=
  match r with
  | .inl s'=>e=.nrm∧S'=Sf s'
  | .inr t=>e≠.nrm∧e=(out t).1∧S'=(out t).2
theorem PR {σ τ:Type} {Sf:σ→St} {out:τ→Ex×St} {s:σ}:rk Sf out (.inl s) .nrm (Sf s):=⟨rfl,rfl⟩
def pk {τ:Type} (out:τ→Ex×St) (t:τ) (e:Ex) (S':St):Prop:=e=(out t).1∧S'=(out t).2
theorem jG.iter {cfg:qG} {pl:cm} {c:Code} {σ τ:Type} {step:σ→Option (σ⊕τ)} (Sf:σ→St) (out:τ→Ex×St)
    (hs:∀ s r,step s=some r→eW cfg.P c (Sf s) (rk Sf out r)):∀ (n:Nat) (s:σ) (t:τ),A.iter step n s=some t→jG cfg.P pl c (Sf s) fun e S'=>e=(out t).1∧S'=(out t).2
  | 0,s,t,h=>by cases h
  | n + 1,s,t,h=>by
    unfold A.iter at h
    split at h
    · cases h
    · rename_i s' hs'
      refine jG.round ((hs s _ hs').mono fun e S' h1=>?_)
      obtain ⟨rfl,rfl⟩:=h1
      exact jG.iter Sf out hs n s' t h
    · rename_i t' ht'
      cases h
      refine jG.round ((hs s _ ht').mono fun e S' h1=>?_)
      obtain ⟨h0,h1,h2⟩:=h1
      cases e with
      | nrm=>exact absurd rfl h0
      | ex i=>exact ⟨h1,h2⟩
      | ret=>exact ⟨h1,h2⟩
theorem fD.le {P:Program} {f:Nat} {as as':List AV} {K:AV→Prop} (h:fD P f as' K) (hl:cZ as as'):fD P f as K:=by
  obtain ⟨r,⟨h1,h2⟩,h3⟩:=h
  exact ⟨r,⟨h1,fun F w us hF hg hv=>h2 F w us hF hg (hl.vrs hv)⟩,h3⟩
theorem fD.to {P:Program} {f:Nat} {as:List AV} {r:AV} (h:fD P f as fun x=>dm x r):fD P f as fun x=>x=r:=by
  obtain ⟨x,⟨h1,h2⟩,h3⟩:=h
  refine ⟨r,⟨h1,fun F w us hF hg hv=>(h2 F w us hF hg hv).mono ?_⟩,rfl⟩
  rintro e w' ⟨v,F',h4,h5,h6⟩
  exact ⟨v,F',h4,h3 _ _ h5,h6⟩
def ft (k:IntKind) (x:Int):AV:=.v (.int k x)
def Kh (x:Bool):AV:=.v (.bool x)
def eD {α:Type} (f:α→List AV) (x:α):AV:=.agg (f x)
def ac (k:IntKind) (x:Int):List AV:=[.v (.int k x)]
def ff (x:Bool):List AV:=[.v (.bool x)]
def gf {α:Type} (f:α→List AV) (l:List α):List AV:=[.sl (l.map f)]
def pA {α β:Type} (f:α→AV) (g:β→AV) (e:α×β):AV×AV:=(f e.1,g e.2)
theorem Ay {k:IntKind} {a b:Int} (h:(a==b)=true):AV.v (.int k a)=AV.v (.int k b):=by rw [eq_of_beq h]
theorem h_ {i:Nat}:Ex.ex i≠Ex.nrm:=fun h=>by cases h
theorem tu:Ex.ret≠Ex.nrm:=fun h=>by cases h
theorem HU {α:Type} (f:α→List AV) (l:List α):AV.v (.int .i64 (((l.map f).length:Nat):Int))=AV.v (.int .i64 (l.length:Int)):=by rw [List.length_map]
theorem GI {α:Type} (f:α→List AV) {l:List α} {i:Int} {x:α} (h:ax l i=some x):Ir (l.map f) i=some (f x):=by
  unfold ax at h
  unfold Ir
  split
  · rename_i h0
    rw [if_pos h0] at h
    rw [List.getElem?_map,h]
    rfl
  · rename_i h0
    rw [if_neg h0] at h
    cases h
theorem bv {α:Type} (f:α→List AV) {l:List α} {i:Int} {x:α} (h:ax l i=some x):(l.map f)[i.toNat]?=some (f x):=by
  unfold ax at h
  split at h
  · rw [List.getElem?_map,h]
    rfl
  · cases h
theorem GJ {α:Type} (f:α→List AV) (l:List α) {sz:Nat} (hf:∀ x,Nat.beq (f x).length sz=true):kn sz (l.map f)=true:=by
  cases l with
  | nil=>rfl
  | cons x l=>exact hf x
theorem Dv {α:Type} (f:α→List AV) (l:List α) (hf:∀ x,(f x).all mG=true):cN (l.map f)=true:=by
  unfold cN
  rw [List.all_eq_true]
  intro r hr
  obtain ⟨x,_,rfl⟩:=List.mem_map.1 hr
  exact hf x
theorem k_ {α:Type} (f:α→List AV) (l m:List α):l.map f++m.map f=(l++m).map f:=List.map_append.symm
theorem bA {α:Type} (f:α→List AV) (l:List α) (i:Nat) (x:α):(l.map f).set i (f x)=(l.set i x).map f:=(List.map_set).symm
theorem vp {α:Type} (f:α→List AV) (n:Nat) (x:α):List.replicate n (f x)=(List.replicate n x).map f:=List.map_replicate.symm
theorem HV {α:Type} (f:α→List AV) (l:List α) (i off a b:Nat):AV.msl i off (a + (l.map f).length) (b - (l.map f).length)=AV.msl i off (a + l.length) (b - l.length):=by rw [List.length_map]
theorem HW {α:Type} (f:α→List AV) (l:List α) (i off a b:Nat):AV.msl i off a ((l.map f).length - b)=AV.msl i off a (l.length - b):=by rw [List.length_map]
theorem GK {α:Type} (f:α→List AV) (l:List α) (i off a b:Nat):AV.msl i off ((l.map f).length - a) b=AV.msl i off (l.length - a) b:=by rw [List.length_map]
theorem HX {α:Type} (f:α→List AV) (l m:List α) (a:Nat):(l.map f).take a++(m.map f++(l.map f).drop (a + (m.map f).length))=(l.take a++(m++l.drop (a + m.length))).map f:=by
  rw [List.length_map,List.map_append,List.map_append,List.map_take,List.map_drop]
theorem Fp {α:Type} {f:α→List AV} {l:List α} {k:Nat} (h:Nat.ble l.length k=true):Nat.ble (l.map f).length k=true:=by rw [List.length_map]; exact h
theorem Fq {α:Type} {f:α→List AV} {l:List α} {k:Nat} (h:Nat.ble k l.length=true):Nat.ble k (l.map f).length=true:=by rw [List.length_map]; exact h
theorem Ki {α:Type} (f:α→List AV) (l:List α) (a b:Nat):AV.sl (((l.map f).drop a).take b)=AV.sl (((l.drop a).take b).map f):=by rw [List.map_take,List.map_drop]
theorem Jl {α:Type} (f:α→List AV) (l:List α) (a b:Nat):dm (.sl (((l.map f).drop a).take b)) (.sl (((l.drop a).take b).map f)):=by rw [Ki]; exact dm.refl _
theorem GL {α:Type} {f:α→List AV} {l:List α} {h:Int} (e:(decide (0≤h)&&decide (h≤(l.length:Int)))=true):(decide (0≤h)&&decide (h≤(((l.map f).length:Nat):Int)))=true:=by rw [List.length_map]; exact e
theorem HY {α:Type} (f:α→List AV) {l:List α} (h:l.map f=[]):dm .nilsl (.sl (l.map f)):=by rw [h]; exact dm.nil
theorem Jm {α:Type} (f:α→List AV) (n:Nat) {z:List AV} {x:α} (h:cZ z (f x)):iY (List.replicate n z) ((List.replicate n x).map f):=by
  rw [List.map_replicate]
  refine ⟨by simp,fun i a b h1 h2=>?_⟩
  rw [List.getElem?_replicate] at h1 h2
  split at h1
  · cases h1
    rename_i hi
    rw [if_pos hi] at h2
    cases h2
    exact h
  · cases h1
theorem HZ (n i off a b:Nat) (z:List AV):AV.msl i off a ((List.replicate n z).length - b)=AV.msl i off a (n - b):=by rw [List.length_replicate]
theorem p5 {α:Type} {f:α→List AV} {l:List α} {k m:Nat} (h:Nat.ble (l.length * k) m=true):Nat.ble ((l.map f).length * k) m=true:=by rw [List.length_map]; exact h
theorem iX {α:Type} {f:α→List AV} {l:List α} {k m n:Nat} (h:Nat.ble ((l.length + n) * k) m=true):Nat.ble (((l.map f).length + n) * k) m=true:=by rw [List.length_map]; exact h
theorem Fs {α:Type} {f:α→List AV} {l l':List α} {k m:Nat} (h:Nat.ble ((l.length + l'.length) * k) m=true):Nat.ble (((l.map f).length + (l'.map f).length) * k) m=true:=by rw [List.length_map,List.length_map]; exact h
section
variable {α:Type} (f:α→List AV)
end
theorem nQ {α:Type} {P:Program} (c:Prop) [Decidable c] (x y:Sem α):aD P (if c then x else y)=if c then aD P x else aD P y:=by
  split <;> rfl
def Jn (f:Nat→Option Bool):List Nat→Option Bool
  | []=>some true
  | i::is=>match f i with
    | some e=>match Jn f is with
      | some s=>some (e&&s)
      | none=>none
    | none=>none
def Ee (P:Program):Nat→TypeId→Value→Value→Option Bool
  | 0,_,_,_=>none
  | n + 1,t,x,y =>
    match P.underlying t,x,y with
    | some .bool,.bool a,.bool b=>some (a==b)
    | some (.int _),.int k a,.int k' b=>if k=k' then some (a==b) else none
    | some .string,.string a,.string b=>some (a.toList==b.toList)
    | some (.struct fs),.agg xs,.agg ys=>match P.stoodInHeld t with
      | true=>none
      | false => fs.toList.foldr (fun f (r : Option Bool × Bool) => match f.name == "_", aD P (part f.type xs f.offset), aD P (part f.type ys f.offset) with
          | false,some a,some b=>match Ee P n f.type a b,r with
            | some e,(_,false)=>(some e,true)
            | some e,(some s,true)=>(some (e&&s),true)
            | _,_=>(none,true)
          | _,_,_=>(none,true)) (some true,false) |>.1
    | some (.array len e),.agg xs,.agg ys=>match aD P (sizeOf e) with
      | some m=>Jn (fun i=>match aD P (part e xs (i * m)),aD P (part e ys (i * m)) with
        | some a,some b=>Ee P n e a b
        | _,_=>none) (List.range' 0 len)
      | none=>none
    | _,_,_=>none
theorem gg {P:Program} {t:TypeId} {d:TypeDesc} (h:P.underlying t=some d):aD P (underlying t)=some d:=by
  unfold underlying
  simp [aW,program,aD,h]
  rfl
theorem Fu {P:Program} {t:TypeId} {fs:Array Field} {xs ys:Array Value} {d:Nat} (ht:P.underlying t=some (.struct fs)) (hp:P.stoodInHeld t=false) :
    aD P (Op.equalIn (d + 1) t (.agg xs) (.agg ys))=aD P (Op.eqFields d xs ys fs.toList):=by
  simp only [Op.equalIn,aW,gg ht,Option.bind_some]
  have hprog:aD P program=some P:=rfl
  simp only [aW,hprog,Option.bind_some,hp,Bool.false_eq_true,if_false]
  rw [← Array.forIn_toList]
  generalize fs.toList=l
  clear ht
  induction l with
  | nil=>rfl
  | cons f l ih =>
    simp only [List.forIn_cons,Op.eqFields,aW,nQ]
    split
    · try simp only [aW]
      generalize aD P (part f.type xs f.offset)=r1
      cases r1 with
      | none=>rfl
      | some a =>
        simp only [Option.bind_some]
        generalize aD P (part f.type ys f.offset)=r2
        cases r2 with
        | none=>rfl
        | some b =>
          simp only [Option.bind_some]
          generalize aD P (Op.equalIn d f.type a b)=r3
          cases r3 with
          | none=>rfl
          | some r =>
            cases r
            · rfl
            · simp only [Option.bind_some]
              exact ih
    · exact ih
def vq (d:Nat) (e:TypeId) (m:Nat) (xs ys:Array Value):List Nat→Sem Bool
  | []=>pure true
  | i::is=>do
    if !(← Op.equalIn d e (← part e xs (i * m)) (← part e ys (i * m))) then return false
    vq d e m xs ys is
theorem GM {P:Program} {t e:TypeId} {len m:Nat} {xs ys:Array Value} {d:Nat} (ht:P.underlying t=some (.array len e)) (hm:aD P (sizeOf e)=some m) :
    aD P (Op.equalIn (d + 1) t (.agg xs) (.agg ys))=aD P (vq d e m xs ys (List.range' 0 len)):=by
  simp only [Op.equalIn,aW,gg ht,Option.bind_some,hm]
  simp only [Std.Legacy.Range.forIn_eq_forIn_range',Std.Legacy.Range.size,Nat.sub_zero,Nat.add_one_sub_one,Nat.div_one]
  generalize List.range' 0 len=l
  clear ht
  induction l with
  | nil=>rfl
  | cons i l ih =>
    simp only [List.forIn_cons,vq,aW,nQ]
    generalize aD P (part e xs (i * m))=r1
    cases r1 with
    | none=>rfl
    | some a =>
      simp only [Option.bind_some]
      generalize aD P (part e ys (i * m))=r2
      cases r2 with
      | none=>rfl
      | some b =>
        simp only [Option.bind_some]
        generalize aD P (Op.equalIn d e a b)=r3
        cases r3 with
        | none=>rfl
        | some r =>
          cases r
          · rfl
          · simp only [Option.bind_some]
            exact ih
theorem na {P:Program}:∀ (n d:Nat) {t:TypeId} {x y:Value} {b:Bool},n≤d→Ee P n t x y=some b→aD P (Op.equalIn d t x y)=some b
  | 0,_,_,_,_,_,_,h=>by cases h
  | n + 1,0,_,_,_,_,hd,_=>by omega
  | n + 1,d + 1,t,x,y,b,hd,h=>by
    unfold Ee at h
    split at h
    · rename_i hu
      cases h
      simp only [Op.equalIn,aW,gg hu,Option.bind_some]
      rfl
    · rename_i hu
      split at h
      · rename_i hk
        cases h
        simp only [Op.equalIn,aW,gg hu,Option.bind_some]
        rw [if_pos hk]
        rfl
      · cases h
    · rename_i hu
      cases h
      simp only [Op.equalIn,aW,gg hu,Option.bind_some,← beq_toListBytes]
      rfl
    · rename_i fs xs ys hu
      split at h
      · cases h
      · rename_i hp
        rw [Fu hu hp]
        have key : ∀ (l : List Field) (r : Option Bool) (m : Bool), l.foldr (fun f (r : Option Bool × Bool) => match f.name == "_", aD P (part f.type xs f.offset), aD P (part f.type ys f.offset) with
          | false,some a,some b=>match Ee P n f.type a b,r with
            | some e,(_,false)=>(some e,true)
            | some e,(some s,true)=>(some (e&&s),true)
            | _,_=>(none,true)
          | _,_,_=>(none,true)) (some true,false)=(r,m)→(m=false→l=[])∧∀ b,r=some b→aD P (Op.eqFields d xs ys l)=some b:=by
          intro l
          induction l with
          | nil =>
            intro r m h
            cases h
            exact ⟨fun _=>rfl,fun b hb=>by cases hb; rfl⟩
          | cons f l ih =>
            intro r m h
            rw [List.foldr_cons] at h
            generalize hq:(l.foldr _ (some true,false):Option Bool×Bool)=q at h
            obtain ⟨r',m'⟩:=q
            obtain ⟨ih1,ih2⟩:=ih r' m' hq
            split at h
            · rename_i a b hn ha hb
              have hn' : f.name ≠ "_" := by simpa using hn
              have step:∀ e,Ee P n f.type a b=some e→aD P (Op.eqFields d xs ys (f::l))=match e with | true=>aD P (Op.eqFields d xs ys l) | false=>some false:=by
                intro e he
                simp only [Op.eqFields]
                rw [if_pos hn']
                simp only [aW,ha,hb,Option.bind_some,na n d (by omega) he]
                cases e <;> rfl
              cases hv:Ee P n f.type a b with
              | none =>
                rw [hv] at h
                cases h
                exact ⟨fun h=>(by cases h),fun b' hb'=>(by cases hb')⟩
              | some e =>
                rw [hv] at h
                cases m' with
                | false =>
                  cases h
                  refine ⟨fun h=>(by cases h),fun b' hb'=>?_⟩
                  cases hb'
                  rw [step e hv,ih1 rfl]
                  cases e <;> rfl
                | true =>
                  cases r' with
                  | none =>
                    cases h
                    exact ⟨fun h=>(by cases h),fun b' hb'=>(by cases hb')⟩
                  | some s =>
                    cases h
                    refine ⟨fun h=>(by cases h),fun b' hb'=>?_⟩
                    cases hb'
                    rw [step e hv,ih2 s rfl]
                    cases e <;> rfl
            · cases h
              exact ⟨fun h=>(by cases h),fun b' hb'=>(by cases hb')⟩
        generalize hq:(fs.toList.foldr _ (some true,false):Option Bool×Bool)=q at h
        obtain ⟨r,m⟩:=q
        exact (key _ r m hq).2 b h
    · rename_i len e xs ys hu
      split at h
      · rename_i m hm
        rw [GM hu hm]
        generalize List.range' 0 len=l at h ⊢
        induction l generalizing b with
        | nil =>
          cases h
          rfl
        | cons i l ih =>
          unfold Jn at h
          split at h
          · rename_i c hc
            split at hc
            · rename_i u v h1 h2
              split at h
              · rename_i s hs
                cases h
                simp only [vq,aW,h1,h2,Option.bind_some,na n d (by omega) hc]
                cases c
                · rfl
                · exact ih _ hs
              · cases h
            · cases hc
          · cases h
      · cases h
    · cases h
theorem Fv {P:Program} {t:TypeId} {xs ys:List Value} {b:Bool} (hg:P.eqGuardType P.depth t=false) (h:Ee P 16 t (.agg xs.toArray) (.agg ys.toArray)=some b):lB P .eql t xs ys=some (.bool b):=by
  unfold lB
  have h1:aD P (eqGuard .eql t (.tmp 0) (.tmp 0) (.agg xs.toArray) (.agg ys.toArray))=some ():=by
    simp [eqGuard,aW,program,aD,hg]
    rfl
  have h2:aD P (binOp .eql t (.agg xs.toArray) (.agg ys.toArray))=some (.bool b):=by
    have:=na (P:=P) 16 10000 (by omega) h
    simp only [binOp,Op.equal,Op.maxDepth]
    rw [aW,this]
    rfl
  rw [aW,h1]
  exact h2
theorem Fw {P:Program} {t:TypeId} {xs ys:List Value} {b:Bool} (hg:P.eqGuardType P.depth t=false) (h:Ee P 16 t (.agg xs.toArray) (.agg ys.toArray)=some b):lB P .neq t xs ys=some (.bool (!b)):=by
  unfold lB
  have h1:aD P (eqGuard .neq t (.tmp 0) (.tmp 0) (.agg xs.toArray) (.agg ys.toArray))=some ():=by
    simp [eqGuard,aW,program,aD,hg]
    rfl
  have h2:aD P (binOp .neq t (.agg xs.toArray) (.agg ys.toArray))=some (.bool (!b)):=by
    have:=na (P:=P) 16 10000 (by omega) h
    simp only [binOp,Op.equal,Op.maxDepth]
    rw [aW,this]
    rfl
  rw [aW,h1]
  exact h2
structure Ef (P:Program) (kt:TypeId) {κ:Type} (kf:κ→AV) (kv:κ→Value) (beq:κ→κ→Bool):Prop where
  tok:∀ k,vN (kf k)=some (kv k)
  eqv:∀ a b,Ee P 16 kt (kv a) (kv b)=some (beq a b)
  chk:∀ e k,aD P (Instr.checkKey e 10000 kt (kv k))=some ()
  sam:∀ a b,beq a b=true→Instr.sameBits 10000 (kv b) (kv a)=true
def Az:List Bool→Nat→Option Nat
  | [],_=>none
  | true::_,i=>some i
  | false::bs,i=>Az bs (i + 1)
theorem xe {P:Program} {kt:TypeId} {x:Value}:∀ {es:List MapEntry} {bs:List Bool} {i:Nat},es.length=bs.length→(∀ (j:Nat) (e:MapEntry) (b:Bool),es[j]?=some e→bs[j]?=some b→Ee P 16 kt x e.key=some b) →
    ∃ r,aD P (Instr.findAsking kt x es i)=some r∧r.map (·.1)=Az bs i
  | [],[],i,_,_=>⟨none,rfl,rfl⟩
  | [],_::_,_,h,_=>by simp at h
  | _::_,[],_,h,_=>by simp at h
  | e::es,b::bs,i,hl,hv=>by
    have h0:=na (P:=P) 16 10000 (by omega) (hv 0 e b rfl rfl)
    unfold Instr.findAsking
    rw [aW]
    have h1:aD P (Op.equal kt x e.key)=some b:=h0
    rw [h1,Option.bind_some,nQ]
    cases b with
    | true=>exact ⟨some (i,e.val),rfl,rfl⟩
    | false=>exact xe (es:=es) (bs:=bs) (i:=i + 1) (by simpa using hl) (fun j e' b' h2 h3=>hv (j + 1) e' b' (by simpa using h2) (by simpa using h3))
theorem Eg {P:Program} {kt:TypeId} {x:Value} {d:TypeDesc} (hd:P.underlying kt=some d):∀ {es:List MapEntry} {bs:List Bool} {i:Nat} {r:Option (Nat×Value)},es.length=bs.length→(∀ (j:Nat) (e:MapEntry) (b:Bool),es[j]?=some e→bs[j]?=some b→Ee P 16 kt x e.key=some b) →
    Instr.findNow d x es i=some r→r.map (·.1)=Az bs i
  | [],[],i,r,_,_,h=>by cases h; rfl
  | [],_::_,_,_,h,_,_=>by simp at h
  | _::_,[],_,_,h,_,_=>by simp at h
  | e::es,b::bs,i,r,hl,hv,h=>by
    have h0:=hv 0 e b rfl rfl
    have hs:∀ c,Instr.sameNow d x e.key=some c→c=b:=by
      intro c hc
      unfold Ee at h0
      rw [hd] at h0
      generalize e.key=y at h0 hc
      unfold Instr.sameNow at hc
      split at hc
      · dsimp only at h0
        split at hc
        · rename_i hk
          rw [if_pos hk] at h0
          rw [hc] at h0
          exact Option.some.inj h0
        · cases hc
      · dsimp only at h0
        rw [beq_toListBytes] at hc
        rw [hc] at h0
        exact Option.some.inj h0
      · dsimp only at h0
        rw [hc] at h0
        exact Option.some.inj h0
      · cases hc
    unfold Instr.findNow at h
    split at h
    · rename_i hc
      cases h
      rw [← hs _ hc]
      rfl
    · rename_i hc
      rw [← hs _ hc]
      exact Eg hd (es:=es) (bs:=bs) (i:=i + 1) (by simpa using hl) (fun j e' b' h2 h3=>hv (j + 1) e' b' (by simpa using h2) (by simpa using h3)) h
    · cases h
theorem H0 {P:Program} {kt:TypeId} {x:Value} {es:List MapEntry} {bs:List Bool} {d:TypeDesc} (hd:P.underlying kt=some d) (hl:es.length=bs.length) (hv:∀ (j:Nat) (e:MapEntry) (b:Bool),es[j]?=some e→bs[j]?=some b→Ee P 16 kt x e.key=some b) :
    ∃ r,aD P (Instr.findKey kt x es)=some r∧r.map (·.1)=Az bs 0:=by
  unfold Instr.findKey
  rw [aW,gg hd,Option.bind_some]
  split
  · rename_i r hr
    exact ⟨r,rfl,Eg hd hl hv hr⟩
  · exact xe hl hv
theorem xf {κ β:Type} {kf:κ→AV} {kv:κ→Value} {vf:β→AV} (ht:∀ k,vN (kf k)=some (kv k)):∀ l:List (κ×β),keysOf (l.map (pA kf vf))=some (l.map fun e=>({ key:=kv e.1,val:=.bool false,born:=0 }:MapEntry))
  | []=>rfl
  | e::l=>by
    show (match vN (kf e.1),keysOf (l.map (pA kf vf)) with
      | some x,some xs=>some (({ key:=x,val:=.bool false,born:=0 }:MapEntry)::xs)
      | _,_=>none)=_
    rw [ht,xf ht l]
    rfl
theorem zx {P:Program} {kt:TypeId} {κ β:Type} {kf:κ→AV} {kv:κ→Value} {beq:κ→κ→Bool} {vf:β→AV} (hd:(P.underlying kt).isSome=true) (hk:Ef P kt kf kv beq) (l:List (κ×β)) (k:κ) {K:Value→Option Nat→Prop}
    (h:K (kv k) (Az (l.map fun e=>beq k e.1) 0)):iO P kt (kf k) (l.map (pA kf vf)) K:=by
  obtain ⟨d,hd⟩:=Option.isSome_iff_exists.1 hd
  unfold iO
  rw [hk.tok,xf hk.tok]
  dsimp only
  rw [hk.chk]
  obtain ⟨r,h1,h2⟩:=H0 (P:=P) (x:=kv k) (es:=l.map fun e=>({ key:=kv e.1,val:=.bool false,born:=0 }:MapEntry)) (bs:=l.map fun e=>beq k e.1) hd (by simp) (fun j e b h1 h2=>by
    rw [List.getElem?_map,Option.map_eq_some_iff] at h1 h2
    obtain ⟨x,h3,rfl⟩:=h1
    obtain ⟨y,h4,rfl⟩:=h2
    rw [h3] at h4
    cases h4
    exact hk.eqv _ _)
  rw [h1]
  dsimp only
  rw [h2]
  exact h
theorem r9 {κ β:Type} {beq:κ→κ→Bool} {k:κ}:∀ (l:List (κ×β)) (i:Nat),(Az (l.map fun e=>beq k e.1) i=none∧fE beq l k=none)∨∃ j e,Az (l.map fun e=>beq k e.1) i=some (i + j)∧l[j]?=some e∧beq k e.1=true∧fE beq l k=some e.2
  | [],i=>.inl ⟨rfl,rfl⟩
  | e::l,i=>by
    rw [List.map_cons]
    cases hb:beq k e.1 with
    | true=>exact .inr ⟨0,e,rfl,rfl,hb,by unfold fE; rw [if_pos hb]⟩
    | false =>
      have hg:fE beq (e::l) k=fE beq l k:=by
        show (if beq k e.1=true then some e.2 else fE beq l k)=_
        rw [if_neg (by rw [hb]; exact Bool.false_ne_true)]
      rcases r9 (β:=β) (beq:=beq) (k:=k) l (i + 1) with ⟨h1,h2⟩ | ⟨j,e',h1,h2,h3,h4⟩
      · exact .inl ⟨h1,hg.trans h2⟩
      · exact .inr ⟨j + 1,e',by rw [show i + (j + 1)=i + 1 + j by omega]; exact h1,h2,h3,hg.trans h4⟩
def H1 (P:Program) (kt e:TypeId) {κ β:Type} (kf:κ→AV) (beq:κ→κ→Bool) (vf:β→AV) (z:β) (l:List (κ×β)) (k:κ):Prop :=
  ∀ k':AV→Prop,k' (vf ((fE beq l k).getD z))→iO P kt (kf k) (l.map (pA kf vf)) fun _ r=>j6 P e false (l.map (pA kf vf)) r k'
def H2 (P:Program) (kt:TypeId) {κ β:Type} (kf:κ→AV) (beq:κ→κ→Bool) (vf:β→AV) (l:List (κ×β)) (k:κ) (v:β):Prop :=
  ∀ K':List (AV×AV)→Prop,K' ((kJ beq l k v).map (pA kf vf))→iO P kt (kf k) (l.map (pA kf vf)) fun kv' r=>ca (zO P kt kv') (
          match r with
          | some i=>ca (Instr.sameBits 10000 (((l.map (pA kf vf))[i]?.bind fun e=>vN e.1).getD (.bool false)) kv') (K' ((l.map (pA kf vf)).set i (kf k,vf v)))
          | none=>K' (l.map (pA kf vf)++[(kf k,vf v)]))
theorem Jo {P:Program} {kt e:TypeId} {κ β:Type} {kf:κ→AV} {kv:κ→Value} {beq:κ→κ→Bool} {vf:β→AV} (hd:(P.underlying kt).isSome=true) (hk:Ef P kt kf kv beq) (z:β) (hz:∀ k',jh P e false k'=k' (vf z)) (l:List (κ×β)) (k:κ) :
    ∀ k':AV→Prop,k' (vf ((fE beq l k).getD z))→iO P kt (kf k) (l.map (pA kf vf)) fun _ r=>j6 P e false (l.map (pA kf vf)) r k':=by
  intro k' h
  refine zx hd hk l k ?_
  rcases r9 (β:=β) (beq:=beq) (k:=k) l 0 with ⟨h1,h2⟩ | ⟨j,en,h1,h2,h3,h4⟩
  · rw [h1]
    show jh P e false k'
    rw [hz]
    rw [h2] at h
    exact h
  · rw [h1]
    show j6 P e false _ (some (0 + j)) k'
    unfold j6
    dsimp only
    rw [Nat.zero_add,List.getElem?_map,h2]
    rw [h4] at h
    exact h
theorem zy {κ β:Type} {beq:κ→κ→Bool} {k:κ} {v:β}:∀ {l:List (κ×β)},fE beq l k=none→kJ beq l k v=l++[(k,v)]
  | [],_=>rfl
  | e::l,h=>by
    unfold fE at h
    split at h
    · cases h
    · rename_i hb
      show (if beq k e.1=true then (k,v)::l else e::kJ beq l k v)=_
      rw [if_neg hb,zy h]
      rfl
theorem zA {κ β:Type} {beq:κ→κ→Bool} {k:κ} {v:β}:∀ {l:List (κ×β)} {i j:Nat},Az (l.map fun e=>beq k e.1) i=some (i + j)→kJ beq l k v=l.set j (k,v)
  | [],_,_,h=>by cases h
  | e::l,i,j,h=>by
    rw [List.map_cons] at h
    show (if beq k e.1=true then (k,v)::l else e::kJ beq l k v)=_
    cases hb:beq k e.1 with
    | true =>
      rw [hb] at h
      have:i=i + j:=Option.some.inj h
      have:j=0:=by omega
      subst this
      rw [if_pos rfl]
      rfl
    | false =>
      rw [hb] at h
      have h':Az (l.map fun e=>beq k e.1) (i + 1)=some (i + j):=h
      rw [if_neg (by exact Bool.false_ne_true)]
      rcases r9 (β:=β) (beq:=beq) (k:=k) l (i + 1) with ⟨h1,_⟩ | ⟨j',e',h1,_⟩
      · rw [h1] at h'; cases h'
      · rw [h1] at h'
        have:i + 1 + j'=i + j:=Option.some.inj h'
        have:j=j' + 1:=by omega
        subst this
        rw [zA h1]
        rfl
theorem Jp {P:Program} {kt:TypeId} {κ β:Type} {kf:κ→AV} {kv:κ→Value} {beq:κ→κ→Bool} {vf:β→AV} (hd:(P.underlying kt).isSome=true) (hk:Ef P kt kf kv beq) (l:List (κ×β)) (k:κ) (v:β) :
    ∀ K':List (AV×AV)→Prop,K' ((kJ beq l k v).map (pA kf vf))→iO P kt (kf k) (l.map (pA kf vf)) fun kv' r=>ca (zO P kt kv') (
          match r with
          | some i=>ca (Instr.sameBits 10000 (((l.map (pA kf vf))[i]?.bind fun e=>vN e.1).getD (.bool false)) kv') (K' ((l.map (pA kf vf)).set i (kf k,vf v)))
          | none=>K' (l.map (pA kf vf)++[(kf k,vf v)])):=by
  intro K' h
  refine zx hd hk l k ?_
  refine ar (by unfold zO; rw [hk.chk]) ?_
  rcases r9 (β:=β) (beq:=beq) (k:=k) l 0 with ⟨h1,h2⟩ | ⟨j,en,h1,h2,h3,h4⟩
  · rw [h1]
    rw [zy h2,List.map_append] at h
    exact h
  · rw [h1]
    rw [zA h1,List.map_set] at h
    rw [Nat.zero_add]
    refine ar ?_ h
    rw [List.getElem?_map,h2]
    show Instr.sameBits 10000 ((vN (kf en.1)).getD (.bool false)) (kv k)=true
    rw [hk.tok]
    exact hk.sam _ _ h3
section
variable {P:Program} {kt:TypeId} {κ:Type} {kf:κ→AV} {kv:κ→Value} {beq:κ→κ→Bool}
end
def lu (H:Type) (P:Program) (t:TypeId) {α:Type} (f:α→List AV) (wf:α→Prop):Prop:=∀ (n:Nat) (d:DataW H),ef P n t d=true→∃ x,cZ (iD P n t d) (f x)∧wf x
def iE (H:Type) (P:Program) (ts:List TypeId) {α:Type} (f:α→List AV) (wf:α→Prop):Prop:=∀ (n:Nat) (ds:List (DataW H)),ds.length=ts.length→((ts.zip ds).all fun x=>ef P n x.1 x.2)=true→∃ x,cZ ((ts.zip ds).flatMap fun x=>iD P n x.1 x.2) (f x)∧wf x
section
variable {H:Type} {P:Program} {t:TypeId}
theorem lu.int {k:IntKind} (hu:P.underlying t=some (.int k)):lu H P t (ac k) (vB k):=by
  intro n d h
  cases n with
  | zero=>cases h
  | succ n =>
    unfold ef at h
    rw [hu] at h
    cases d with
    | lit l =>
      cases l with
      | int k' m =>
        have h:(decide (k'=k)&&(Lit.int k m).wf)=true:=h
        rw [Bool.and_eq_true] at h
        obtain ⟨h1,h2⟩:=h
        have h1:=of_decide_eq_true h1
        subst h1
        have h2:(decide (k'.min≤m)&&decide (m≤k'.max))=true:=h2
        rw [Bool.and_eq_true] at h2
        refine ⟨m,?_,of_decide_eq_true h2.1,of_decide_eq_true h2.2⟩
        unfold iD
        rw [hu]
        exact cZ.refl _
      | _=>cases h
    | _=>cases h
theorem lu.bool (hu:P.underlying t=some .bool):lu H P t ff (fun _=>True):=by
  intro n d h
  cases n with
  | zero=>cases h
  | succ n =>
    unfold ef at h
    rw [hu] at h
    cases d with
    | lit l =>
      cases l with
      | bool b =>
        refine ⟨b,?_,trivial⟩
        unfold iD
        rw [hu]
        exact cZ.refl _
      | _=>cases h
    | _=>cases h
theorem lu.slice {e:TypeId} (hu:P.underlying t=some (.slice e)) {α:Type} {f:α→List AV} {wf:α→Prop} (he:lu H P e f wf):lu H P t (gf f) (fun l=>l.length≤maxLen∧∀ x∈l,wf x):=by
  intro n d h
  cases n with
  | zero=>cases h
  | succ n =>
    unfold ef at h
    rw [hu] at h
    cases d with
    | nil =>
      refine ⟨[],?_,by simp [maxLen],fun x hx=>by cases hx⟩
      unfold iD
      rw [hu]
      exact cZ.cons dm.nil cZ.nil
    | slice xs sp =>
      have h:(decide (xs.length≤maxLen)&&xs.all (ef P n e))=true:=h
      rw [Bool.and_eq_true] at h
      obtain ⟨h1,h2⟩:=h
      have key:∀ xs:List (DataW H),xs.all (ef P n e)=true→∃ l:List α,iY (xs.map (iD P n e)) (l.map f)∧l.length=xs.length∧∀ x∈l,wf x:=by
        intro xs
        induction xs with
        | nil=>exact fun _=>⟨[],iY.nil,rfl,fun x hx=>by cases hx⟩
        | cons x xs ih =>
          intro h
          rw [List.all_cons,Bool.and_eq_true] at h
          obtain ⟨y,hy1,hy2⟩:=he n x h.1
          obtain ⟨l,hl1,hl2,hl3⟩:=ih h.2
          refine ⟨y::l,iY.cons hy1 hl1,by simp [hl2],fun z hz=>?_⟩
          rcases List.mem_cons.1 hz with rfl | hz
          · exact hy2
          · exact hl3 z hz
      obtain ⟨l,hl1,hl2,hl3⟩:=key xs h2
      refine ⟨l,?_,by rw [hl2]; exact of_decide_eq_true h1,hl3⟩
      unfold iD
      rw [hu]
      exact cZ.cons (dm.sl hl1) cZ.nil
    | _=>cases h
theorem iE.nil:iE H P [] (fun _:Unit=>[]) (fun _=>True):=fun _ _ _ _=>⟨(),cZ.nil,trivial⟩
theorem iE.cons {ts:List TypeId} {α β:Type} {f:α→List AV} {wf:α→Prop} {g:β→List AV} {wg:β→Prop} (h:lu H P t f wf) (hs:iE H P ts g wg):iE H P (t::ts) (fun x:α×β=>f x.1++g x.2) (fun x=>wf x.1∧wg x.2):=by
  intro n ds hl ha
  cases ds with
  | nil=>simp at hl
  | cons d ds =>
    rw [List.zip_cons_cons,List.all_cons,Bool.and_eq_true] at ha
    obtain ⟨x,h1,h2⟩:=h n d ha.1
    obtain ⟨y,h3,h4⟩:=hs n ds (by simpa using hl) ha.2
    refine ⟨(x,y),?_,h2,h4⟩
    rw [List.zip_cons_cons,List.flatMap_cons]
    exact h1.app h3
theorem lu.struct {fs:Array Field} (hu:P.underlying t=some (.struct fs)) {α:Type} {g:α→List AV} {wg:α→Prop} (h:iE H P (fs.toList.map (·.type)) g wg):lu H P t g wg:=by
  intro n d hd
  cases n with
  | zero=>cases hd
  | succ n =>
    unfold ef at hd
    rw [hu] at hd
    cases d with
    | agg ds =>
    have hd:(Nat.beq ds.length fs.size&&(fs.toList.zip ds).all fun x=>ef P n x.1.type x.2)=true:=hd
    rw [Bool.and_eq_true] at hd
    obtain ⟨h1,h2⟩:=hd
    have hlen:=Nat.eq_of_beq_eq_true h1
    obtain ⟨x,h3,h4⟩:=h n ds (by simpa using hlen) (by
      rw [List.zip_map_left,List.all_map]
      exact h2)
    refine ⟨x,?_,h4⟩
    unfold iD
    rw [hu]
    dsimp only
    rw [List.zip_map_left,List.flatMap_map] at h3
    exact h3
    | _=>cases hd
theorem lu.conv {α β:Type} {f:α→List AV} {wf:α→Prop} {g:β→List AV} {wg:β→Prop} (h:lu H P t f wf) (φ:α→β) (hf:∀ x,f x=g (φ x)) (hw:∀ x,wf x→wg (φ x)):lu H P t g wg:=fun n d hd=>by
  obtain ⟨x,h1,h2⟩:=h n d hd
  exact ⟨φ x,by rw [← hf]; exact h1,hw x h2⟩
theorem lu.argS {fs:Array Field} (hu:P.underlying t=some (.struct fs)) {α:Type} {f:α→List AV} {wf:α→Prop} (h:lu H P t f wf) {n:Nat} {d:DataW H} (hd:ef P n t d=true):∃ x,dm (qp P n t d) (.agg (f x))∧wf x:=by
  obtain ⟨x,h1,h2⟩:=h n d hd
  refine ⟨x,?_,h2⟩
  unfold qp
  rw [hu]
  exact dm.agg h1
theorem lu.arg1 (hs:lW P t=false) {α:Type} {f:α→List AV} {wf:α→Prop} {g:α→AV} (h:lu H P t f wf) (hg:∀ x,f x=[g x]) {n:Nat} {d:DataW H} (hd:ef P n t d=true):∃ x,dm (qp P n t d) (g x)∧wf x:=by
  obtain ⟨x,h1,h2⟩:=h n d hd
  refine ⟨x,?_,h2⟩
  rw [hg] at h1
  unfold lW at hs
  unfold qp
  split
  · rename_i fs hu
    rw [hu] at hs
    cases hs
  · generalize iD P n t d=r at h1
    cases r with
    | nil=>exact absurd h1.1 (by simp)
    | cons a r=>exact h1.2 0 a _ rfl rfl
end
end A
end Go.Proofs.YtcckeabholabcaaGreat
