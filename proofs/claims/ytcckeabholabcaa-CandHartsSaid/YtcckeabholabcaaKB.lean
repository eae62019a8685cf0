/- The evaluator with answers; contracts out of it. Nothing is claimed here of the program. -/
import Derived.Test.YtcckeabholabcaaK6
import Derived.Test.YtcckeabholabcaaM0
import Derived.Laws.StructEq
namespace Go.Proofs.Ytcckeabholabcaa
namespace A
open Go
def pf {α:Type}:List (Nat×α)→Nat→Option α
  | [],_=>none
  | (d,x)::xs,e=>match Nat.beq d e with | true=>some x | false=>pf xs e
structure Wk where
  ts:List Nat
  ls:List Nat
  no:Nat
  pr:List (Nat×Nat)
  pl:List (Nat×Nat×Nat)
  fz:List Nat
def E8 (ts:List Nat):Nat→List AV→List AV
  | _,[]=>[]
  | i,x::xs=>(match eq ts i with | true=>x | false=>.bad)::E8 ts (i + 1) xs
def xE:List Nat→St→St
  | [],S=>S
  | d::ds,S=>xE ds (et d S)
def AR:Nat→Nat→List Nat
  | _,0=>[]
  | i,n + 1=>i::AR (i + 1) n
def DT:List Nat→St→St
  | [],S=>S
  | i::is,S=>DT is (dK i S)
def xF:List Ob→Bool
  | []=>true
  | .dead::os=>xF os
  | _=>false
def Gt (n:Nat) (S:St):St :=
  match xF (S.o.drop n)&&Nat.ble S.b n with
  | true=>{ t:=S.t,l:=S.l,o:=S.o.take n,b:=S.b }
  | false=>S
def zp:List (Nat×Nat)→St→St
  | [],S=>S
  | (d,sz)::ps,S=>match S.t[d]? with
    | some .nilsl=>zp ps { t:=S.t.set d (.mf S.o.length),l:=S.l,o:=S.o++[.arr true sz []],b:=S.b }
    | _=>zp ps S
def ww:List (Nat×Nat×Nat)→St→St
  | [],S=>S
  | (d,j,sz)::ps,S=>match aG S.l d with
    | some row=>match row[j]? with
      | some .nilsl=>ww ps { t:=S.t,l:=pj S.l d (row.set j (.mf S.o.length)),o:=S.o++[.arr true sz []],b:=S.b }
      | _=>ww ps S
    | none=>ww ps S
def Gu (ids:List Nat) (d j:Nat) (b:AV) (S:St):St :=
  match aG (eu ids S).l d with
  | some row=>{ t:=(eu ids S).t,l:=pj (eu ids S).l d (row.set j b),o:=(eu ids S).o,b:=(eu ids S).b }
  | none=>eu ids S
def vq:List Nat→St→St
  | [],S=>S
  | d::ds,S=>match Nat.ble 10000 d with
    | true=>match aG S.l ((d - 10000) / 100) with
      | some row=>match row[d % 100]? with
        | some a=>match z7 S.o 6 a with
          | some b=>vq ds (Gu (dD S.o 6 a) ((d - 10000) / 100) (d % 100) b S)
          | none=>vq ds S
        | none=>vq ds S
      | none=>vq ds S
    | false=>match S.t[d]? with
      | some a=>match z7 S.o 6 a with
        | some b=>vq ds { t:=(eu (dD S.o 6 a) S).t.set d b,l:=(eu (dD S.o 6 a) S).l,o:=(eu (dD S.o 6 a) S).o,b:=(eu (dD S.o 6 a) S).b }
        | none=>vq ds S
      | none=>vq ds S
def IB (W:Wk) (S:St):St :=
  ww W.pl (zp W.pr (Gt W.no (DT (AR W.no (S.o.length - W.no)) (xE W.ls { t:=E8 W.ts 0 S.t,l:=S.l,o:=S.o,b:=S.b }))))
def wk (W:Wk) (S:St):St:=IB W (vq W.fz S)
def cR (a b:AV):Prop:=∀ E u,VR E a u→VR E b u
def cM (r r':List AV):Prop:=r.length=r'.length∧∀ (i:Nat) (a b:AV),r[i]?=some a→r'[i]?=some b→cR a b
def g0 (r r':List (List AV)):Prop:=r.length=r'.length∧∀ (i:Nat) (a b:List AV),r[i]?=some a→r'[i]?=some b→cM a b
structure Le where
  ts:List (Nat×AV)
  ls:List (Nat×List AV)
  os:List (Nat×List (List AV))
def Gv:List (Nat×AV)→St→(St→Prop)→Prop
  | [],S,K=>K S
  | (d,v)::xs,S,K=>og S.t d fun a=>cR a v∧qg S.t d v fun t=>Gv xs { t:=t,l:=S.l,o:=S.o,b:=S.b } K
def E9:List (Nat×List AV)→St→(St→Prop)→Prop
  | [],S,K=>K S
  | (d,r)::xs,S,K=>match aG S.l d with
    | some row=>cM row r∧mC (pj S.l d r) fun l=>E9 xs { t:=S.t,l:=l,o:=S.o,b:=S.b } K
    | none=>ae 450
def E_:List (Nat×List (List AV))→St→(St→Prop)→Prop
  | [],S,K=>K S
  | (i,R)::xs,S,K=>match S.o[i]? with
    | some (.arr fl sz rows)=>g0 rows R∧bk (S.o.set i (.arr fl sz R)) fun o=>E_ xs { t:=S.t,l:=S.l,o:=o,b:=S.b } K
    | _=>ae 451
def DU (L:Le) (S:St) (K:St→Prop):Prop:=Gv L.ts S fun S=>E9 L.ls S fun S=>E_ L.os S K
structure vr where
  at_:Option Nat
  row:Option (List (List AV))
  ks:List AV
  cs:List (Option (List (List AV)))
structure dT where
  dem:List Nat
  chk:List Nat
  row:List (Nat×List AV)
  val:List (Nat×AV)
  call:List (Nat×AV)
  sto:List (Nat×(AV×List Ob))
  obr:List (Nat×(Nat×List (List AV)))
  mpr:List (Nat×List (AV×AV))
  own:List (Nat×vr)
inductive PT where
  | done
  | go (i:Nat) (t:PT)
  | alt (i:Nat) (t r:PT)
def jm:List Nat→PT
  | []=>.done
  | i::is=>.go i (jm is)
def AS:PT→PT→Bool
  | .done,.done=>true
  | .go i t,.go j u=>Nat.beq i j&&AS t u
  | .alt i t r,.alt j u s=>Nat.beq i j&&(AS t u&&AS r s)
  | _,_=>false
structure Gw where
  ord:List (Nat×PT)
  reg:List (Nat×dT)
  wr:List (Nat×Le)
  lps:List (Nat×(Wk×Le×Ex×St))
  cut:List (Nat×(Wk×Le×Ex×St))
def Cs (A:Gw) (id:Nat):dT :=
  match pf A.reg id with
  | some R=>R
  | none=>⟨[],[],[],[],[],[],[],[],[]⟩
def keyOf (o:Oper):Nat :=
  match o.dst with
  | some d=>d
  | none=>match o.op with
    | .store _ (.tmp t) _=>t + 1000000
    | .mapUpdate _ (.tmp t) _ _=>t + 1000000
    | .insert _ (.tmp t) _ _=>t + 1000000
    | _=>0
def FO (rows:List (List AV)) (i:Int):Option (List AV):=if 0≤i then rows[i.toNat]? else none
def DV (op:BinOp) (x y:Value) (K:Value→Prop):Prop :=
  match op,x,y with
  | .quo,.int k a,.int k' b=>(decide (k=k')&&!(b==0))=true∧K (.int k (k.wrap (a.tdiv b)))
  | .rem,.int k a,.int k' b=>(decide (k=k')&&!(b==0))=true∧K (.int k (a.tmod b))
  | .shl,.int k a,.int _ b=>decide (0≤b)=true∧K (.int k (k.wrap (a * 2 ^ (min b.toNat k.bits))))
  | .shr,.int k a,.int _ b=>decide (0≤b)=true∧K (.int k (a.fdiv (2 ^ (min b.toNat k.bits))))
  | .add,.string a,.string b=>decide (((a.size + b.size:Nat):Int)≤9223372036854775807)=true∧K (.string (a++b))
  | _,_,_=>ae 20
def DW (C:Ctx) (A:dT) (o:Oper) (op:BinOp) (t:TypeId) (x y:AV) (k:AV→Prop):Prop :=
  match x,y with
  | .v a,.v b=>match EU op a b with
    | none=>match a,b with
      | .bool x,.bool y=>yl C.P op t x y k
      | a,b=>DV op a b fun c=>k (.v c)
    | some c=>k (.v c)
  | .agg as,.agg bs=>match rK as,rK bs with
    | some xs,some ys=>match pf A.val (keyOf o) with
      | some (.v (.bool b))=>li C.P op t xs ys=some (.bool b)∧k (.v (.bool b))
      | _=>ae 400
    | _,_=>ae 401
  | _,_=>ae 402
def xG (C:Ctx) (A:dT) (o:Oper) (t:TypeId) (x ix:AV) (k:AV→Prop):Prop :=
  intOf ix fun i =>
  match C.P.underlying t,x with
  | some .string,.v (.string s)=>match pf A.val (keyOf o) with
    | some (.v (.int .u8 n))=>(if 0≤i then s[i.toNat]? else none)=some (UInt8.ofNat n.toNat)∧(n=((UInt8.ofNat n.toNat).toNat:Int)∧k (.v (.int .u8 n)))
    | _=>ae 403
  | some (.array len e),.agg cs=>match C.P.info? e with
    | some inf=>(decide (0≤i)&&decide (i<len))=true∧ic C.P e cs (i.toNat * inf.size) k
    | none=>ae 404
  | _,_=>ae 405
def Gx (C:Ctx) (A:dT) (pl:bR) (o:Oper) (vs:List AV) (k:AV→Prop):Prop :=
  match eq A.chk (keyOf o) with
  | false=>pop C pl o vs k
  | true=>match o.op,vs with
    | .binOp op t _ _ _,[a,b]=>DW C A o op t a b k
    | .index t _ _,[a,i]=>xG C A o t a i k
    | _,_=>ae 406
def wx (len cap:Nat) (lo hi mx:Option Int) (k:Nat→Nat→Nat→Prop):Prop :=
  match lo,hi,mx with
  | none,none,none=>k 0 len cap
  | some l,none,none=>(decide (0≤l)&&decide (l≤len))=true∧k l.toNat len cap
  | none,some h,none=>(decide (0≤h)&&decide (h≤cap))=true∧k 0 h.toNat cap
  | some l,some h,none=>(decide (0≤l)&&decide (l≤h)&&decide (h≤cap))=true∧k l.toNat h.toNat cap
  | none,some h,some m=>(decide (0≤h)&&decide (h≤m)&&decide (m≤cap))=true∧k 0 h.toNat m.toNat
  | some l,some h,some m=>(decide (0≤l)&&decide (l≤h)&&decide (h≤m)&&decide (m≤cap))=true∧k l.toNat h.toNat m.toNat
  | _,_,_=>ae 63
def kI (C:Ctx) (t:TypeId) (x:AV) (lo hi mx:Option Int) (S:St) (k:AV→Prop):Prop :=
  match C.P.underlying t with
  | some .string =>
    match x,mx with
    | .v (.string s),none=>wx s.size s.size lo hi none fun l h _=>k (.v (.string (s.extract l h)))
    | _,_=>ae 64
  | some (.slice e) =>
    match C.P.info? e with
    | some i=>bK (Nat.blt 0 i.size) (
      match x with
      | .sl rows=>lD i.size rows=true∧wx rows.length rows.length lo hi mx fun l h _ =>
        match lo,hi,iD mx&&iD hi with
        | _,_,true=>k .esl
        | none,none,_=>k (.sl rows)
        | _,none,_=>k (.sl (rows.drop l))
        | none,_,_=>k (.sl (rows.take h))
        | _,_,_=>k (.sl ((rows.drop l).take (h - l)))
      | .mf id=>match S.o[id]? with
        | some (.arr _ sz rows)=>bK (Nat.beq sz i.size) (wx rows.length rows.length lo hi mx fun l h m =>
          match lo,hi,iD mx&&iD hi with
          | _,_,true=>k .esl
          | none,none,_=>k (.mf id)
          | _,none,_=>k (.msl id l (rows.length - l) 0)
          | _,_,_=>k (.msl id l (h - l) (m - h)))
        | _=>ae 65
      | .msl id off len ext=>match S.o[id]? with
        | some (.arr _ sz _)=>bK (Nat.beq sz i.size) (wx len (len + ext) lo hi mx fun l h m =>
          match iD mx&&iD hi with
          | true=>k .esl
          | false=>k (.msl id (l + off) (h - l) (m - h)))
        | _=>ae 66
      | _=>ae 67)
    | none=>ae 68
  | _=>ae 69
def m9 (C:Ctx) (row:List AV) (t:TypeId) (x ix:AV) (S:St) (k:AV→Prop):Prop :=
  intOf ix fun i =>
  match C.P.underlying t with
  | some (.slice e) =>
    match C.P.info? e with
    | some inf =>
      match x with
      | .sl rows=>FO rows i=some row∧bK (Nat.beq row.length inf.size&&Nat.blt 0 inf.size) (k (.fptr row 0))
      | .mf id=>match S.o[id]? with
        | some (.arr _ _ rows)=>FO rows i=some row∧bK (Nat.beq row.length inf.size&&Nat.blt 0 inf.size) (k (.ptr (.O id) i.toNat 0))
        | some (.own none _ cells _)=>bK (Nat.beq inf.size 1) ((decide (0≤i)&&Nat.blt i.toNat cells.length)=true∧k (.ptr (.O id) i.toNat 0))
        | _=>ae 72
      | .msl id off len _=>match S.o[id]? with
        | some (.arr _ _ rows)=>(decide (0≤i)&&decide (i<len))=true∧(rows[i.toNat + off]?=some row∧bK (Nat.beq row.length inf.size&&Nat.blt 0 inf.size) (k (.ptr (.O id) (i.toNat + off) 0)))
        | _=>ae 74
      | _=>ae 75
    | none=>ae 76
  | some (.array len e) =>
    match C.P.info? e with
    | some inf=>(decide (0≤i)&&decide (i<len))=true∧(
      match x with
      | .ptr key a j=>k (.ptr key a (i.toNat * inf.size + j))
      | .fptr row j=>k (.fptr row (i.toNat * inf.size + j))
      | _=>ae 77)
    | none=>ae 78
  | _=>ae 79
def sj (C:Ctx) (A:dT) (o:Oper) (fid:Nat) (as:List AV) (k:AV→Prop):Prop :=
  match pf A.call (keyOf o) with
  | some r=>(C.pcall fid as fun x=>x=r)∧k r
  | none=>C.pcall fid as k
def AT (P:Program) (op:BinOp) (t:TypeId) (x y:AV) (S:St) (k:AV→Prop):Prop :=
  match x,y with
  | .mf id,.nilsl=>match S.o[id]? with
    | some (.arr _ _ rows)=>Hp rows=true∧(match P.underlying t,op with
      | some (.slice _),.eql=>k (.v (.bool false))
      | some (.slice _),.neq=>k (.v (.bool true))
      | _,_=>ae 265)
    | _=>ae 472
  | _,_=>ae 473
def qK (size:Nat) (S:St) (x:AV) (k:Bool→List (List AV)→Prop):Prop :=
  match x with
  | .nilsl | .esl=>k true []
  | .sl rows=>lD size rows=true∧k true rows
  | .mf id=>match S.o[id]? with | some (.arr fl sz rows)=>bK (Nat.beq sz size) (k fl rows) | _=>ae 45
  | .msl id off len _=>match S.o[id]? with | some (.arr fl sz rows)=>bK (Nat.beq sz size) (k fl ((rows.drop off).take len)) | _=>ae 46
  | .v (.string s)=>bK (Nat.beq size 1) (k true (s.data.toList.map fun b=>[.v (.int .u8 b.toNat)]))
  | x=>i_ size S x k
def xH (P:Program) (src dst:TypeId) (x:AV) (S:St) (s:ByteArray) (k:AV→Prop):Prop :=
  match P.underlying src,P.underlying dst with
  | some (.slice e),some .string =>
    match P.underlying e with
    | some (.int .u8)=>bK (!(Hl x)) (qK 1 S x fun _ rows=>bytesOf rows=some s.data.toList∧k (.v (.string s)))
    | _=>ae 481
  | _,_=>ae 482
def Gy (C:Ctx) (A:dT) (o:Oper) (vs:List AV) (M:St) (k:AV→Prop):Prop :=
  match o.op,vs with
  | .load t _,[p]=>match pf A.row (keyOf o) with
    | some row=>match p with
      | .ptr (.O id) i j=>match M.o[id]? with
        | some (.arr _ _ rows)=>rows[i]?=some row∧ic C.P t row j k
        | _=>ae 410
      | _=>ae 411
    | none=>nG C o vs M k
  | .slice t _ lo hi mx,a::rest=>match eq A.chk (keyOf o) with
    | false=>nG C o vs M k
    | true=>match lo,hi,mx,rest with
      | none,none,none,[]=>kI C t a none none none M k
      | some _,none,none,[x]=>intOf x fun x=>kI C t a (some x) none none M k
      | none,some _,none,[y]=>intOf y fun y=>kI C t a none (some y) none M k
      | some _,some _,none,[x,y]=>intOf x fun x=>intOf y fun y=>kI C t a (some x) (some y) none M k
      | none,some _,some _,[y,z]=>intOf y fun y=>intOf z fun z=>kI C t a none (some y) (some z) M k
      | some _,some _,some _,[x,y,z]=>intOf x fun x=>intOf y fun y=>intOf z fun z=>kI C t a (some x) (some y) (some z) M k
      | _,_,_,_=>ae 202
  | .indexAddr t _ _,[a,i]=>match pf A.row (keyOf o) with
    | some row=>m9 C row t a i M k
    | none=>nG C o vs M k
  | .lookup t _ _ ok,[m,key]=>match pf A.call (keyOf o) with
    | some a=>match C.P.underlying t,m with
      | some (.map kt e),.mp id=>match M.o[id]? with
        | some (.mapo _ es)=>(∀ k':AV→Prop,k' a→gQ C.P kt key es fun _ r=>iX C.P e ok es r k')∧k a
        | _=>ae 412
      | _,_=>ae 413
    | none=>nG C o vs M k
  | .binOp op t _ _ _,[a,b]=>match eq A.chk (keyOf o) with
    | false=>nG C o vs M k
    | true=>AT C.P op t a b M k
  | .convert src dst _,[x]=>match pf A.call (keyOf o) with
    | some (.v (.string s))=>xH C.P src dst x M s k
    | _=>nG C o vs M k
  | .call c,vs=>match c.callee with
    | .value _=>match vs with
      | .fn fid first cap::as=>bK (C.pure fid) (iE M.o (first++as++cap) fun bs=>sj C A o fid bs fun r=>bK (sG 4 r||((first++as++cap).flatMap (dD M.o 6)).isEmpty) (k r))
      | _=>ae 205
    | _=>nG C o vs M k
  | _,_=>nG C o vs M k
def xI (S:St) (row:List AV) (a:AV) (cs:List AV) (K:St→Prop):Prop :=
  match a with
  | .ptr (.O id) i j =>
    match S.o[id]? with
    | some (.arr fl sz rows)=>rows[i]?=some row∧bK (Nat.ble (j + cs.length) row.length&&cs.all (r5 4)) (ia (splice row j cs) fun row'=>bk (S.o.set id (.arr (fl&&cs.all (dB 4)) sz (rows.set i row'))) fun o=>K { t:=S.t,l:=S.l,o:=o,b:=S.b })
    | _=>ae 18
  | _=>ae 19
def Fa (C:Ctx) (A:dT) (o:Oper) (vs:List AV) (M:St) (k:AV→St→Prop):Prop :=
  match pf A.row (keyOf o) with
  | none=>vL C o vs M k
  | some row=>match o.op,vs with
    | .store t _ _,[p,y]=>match p with
      | .ptr (.O _) _ _=>lE y fun cs=>match C.P.info? t with
        | some i=>bK (Nat.beq cs.length i.size) (xI M row p cs fun M'=>k .bad M')
        | none=>ae 208
      | _=>vL C o vs M k
    | _,_=>vL C o vs M k
def ui (P:Program) (ts:List TypeId) (base x:AV) (S:St) (k:St→AV→Prop):Prop :=
  match ts with
  | [t0,t1] =>
    match P.underlying t0 with
    | some (.slice e) =>
      match P.info? e with
      | some i=>bK (Nat.blt 0 i.size&&Nat.blt 0 i.bytes&&FK i&&(match P.underlying t1 with | some (.slice _) | some .string=>true | _=>false)) (qK i.size S x fun fl src=>eb src=true∧(
          match base with
          | .nilsl | .esl=>Nat.ble (src.length * i.bytes) 140737488355328=true∧(bk (S.o++[.arr fl i.size src]) fun o=>k { t:=S.t,l:=S.l,o:=o,b:=S.b } (.mf S.o.length))
          | .mf id=>match S.o[id]? with
            | some (.arr fl' sz rows)=>bK (Nat.beq sz i.size&&(fl||!fl')) (Nat.ble ((rows.length + src.length) * i.bytes) 140737488355328=true∧nL S id (.arr (fl'&&fl) sz (rows++src)) fun S' id'=>k S' (.mf id'))
            | _=>ae 48
          | .msl id off len ext=>match S.o[id]? with
            | some (.arr fl' sz rows)=>bK (Nat.beq sz i.size&&(fl||!fl')) (Nat.ble src.length ext=true∧(Nat.ble (off + len + ext) rows.length=true ∧
                bk (S.o.set id (.arr (fl'&&fl) sz (rows.take (off + len)++(src++rows.drop (off + len + src.length))))) fun o=>k { t:=S.t,l:=S.l,o:=o,b:=S.b } (.msl id off (len + src.length) (ext - src.length))))
            | _=>ae 49
          | _=>ae 50))
      | none=>ae 51
    | _=>ae 52
  | _=>ae 53
def qL (P:Program) (ts:List TypeId) (base x:AV) (k:AV→Prop):Prop :=
  match ts with
  | [t0,t1] =>
    match P.underlying t0 with
    | some (.slice e) =>
      match P.info? e with
      | some i=>bK (Nat.blt 0 i.size&&Nat.blt 0 i.bytes&&FK i&&(match P.underlying t1 with | some (.slice _) | some .string=>true | _=>false)) (qK i.size Il x fun fl src=>bK fl (eb src=true∧(Nat.ble (src.length * i.bytes) 140737488355328=true∧(
          match base with
          | .nilsl | .esl=>k (.sl src)
          | _=>ae 254))))
      | none=>ae 255
    | _=>ae 256
  | _=>ae 257
def Gz (C:Ctx) (o:Oper) (vs:List AV) (k:AV→Prop):Prop :=
  match o.op,vs with
  | .call c,[x,y]=>match c.callee with
    | .builtin .append=>qL C.P c.argTypes.toList x y k
    | _=>ae 258
  | _,_=>ae 259
def qM (P:Program) (ts:List TypeId) (base:AV) (n:Int) (S:St) (k:St→AV→Prop):Prop :=
  match ts with
  | [t0,t1] =>
    match P.underlying t0,P.underlying t1 with
    | some (.slice e),some (.int _) =>
      match P.info? e with
      | some i=>(Nat.blt 0 i.size&&Nat.blt 0 i.bytes&&decide (0<n)&&decide (n * i.bytes≤140737488355328)&&decide (n≤140737488355328))=true∧(cL P e fun z=>bK (z.all (dB 2)) (
          match base with
          | .nilsl | .esl=>bk (S.o++[.arr true i.size (List.replicate n.toNat z)]) fun o=>k { t:=S.t,l:=S.l,o:=o,b:=S.b } (.mf S.o.length)
          | _=>ae 250))
      | none=>ae 251
    | _,_=>ae 252
  | _=>ae 253
def kJ (P:Program) (t:TypeId) (l c:AV) (S:St) (k:St→AV→Prop):Prop :=
  match P.underlying t with
  | some (.slice e) =>
    match P.info? e with
    | some i=>intOf l fun l=>intOf c fun c=>(decide (0≤l)&&decide (l≤c)&&decide (i.bytes * c≤140737488355328)&&decide (c≤140737488355328)&&Nat.blt 0 i.size)=true ∧
        (cL P e fun z=>bK (z.all (dB 2)) (bk (S.o++[.arr true i.size (List.replicate l.toNat z)]) fun o=>k { t:=S.t,l:=S.l,o:=o,b:=S.b } (.mf S.o.length)))
    | none=>ae 61
  | _=>ae 62
def AU (P:Program) (ts:List TypeId) (x y:AV) (M:St) (k:AV→St→Prop):Prop :=
  match ts with
  | t::_ =>
    match P.underlying t with
    | some (.slice e) =>
      match P.info? e with
      | some i=>bK (Nat.blt 0 i.size) (qK i.size M y fun fl src=>eb src=true∧bK (!(Hl y)) (
          match x with
          | .mf id=>match M.o[id]? with
            | some (.arr fl' sz rows)=>bK (Nat.beq sz i.size) (bk (M.o.set id (.arr (fl'&&fl) sz (src.take rows.length++rows.drop src.length))) fun o=>k (.v (.int .i64 ((min src.length rows.length:Nat):Int))) { t:=M.t,l:=M.l,o:=o,b:=M.b })
            | _=>ae 243
          | .msl id off len _=>match M.o[id]? with
            | some (.arr fl' sz rows)=>bK (Nat.beq sz i.size) (Nat.ble (off + len) rows.length=true∧(bk (M.o.set id (.arr (fl'&&fl) sz (rows.take off++(src.take len++rows.drop (off + min src.length len))))) fun o=>k (.v (.int .i64 ((min src.length len:Nat):Int))) { t:=M.t,l:=M.l,o:=o,b:=M.b }))
            | _=>ae 244
          | _=>ae 245))
      | none=>ae 246
    | _=>ae 247
  | []=>ae 248
def AW (C:Ctx) (A:dT) (o:Oper) (f:AV) (args:List AV) (S:St) (k:St→AV→Prop):Prop :=
  match f with
  | .fn fid first cap =>
    match C.pure fid with
    | true=>iE S.o (first++args++cap) fun as=>sj C A o fid as fun r =>
        match sG 4 r with
        | true=>k S r
        | false=>fU ((first++args++cap).flatMap (dD S.o 6)) S fun S'=>k S' r
    | false=>bK ((first++args++cap).all (r5 4)) (match pf A.sto (keyOf o) with
      | some (r,o')=>(C.scall fid (first++args++cap) S.o fun r' o''=>r'=r∧o''=o')∧jo (ca S.o o' 0) S.t S.l fun t l=>k { t:=t,l:=l,o:=o',b:=S.b } r
      | none=>C.scall fid (first++args++cap) S.o fun r o'=>jo (ca S.o o' 0) S.t S.l fun t l=>k { t:=t,l:=l,o:=o',b:=S.b } r)
  | _=>ae 97
def kK (P:Program) (R:List (AV×AV)) (t:TypeId) (m key x:AV) (S:St) (K:St→Prop):Prop :=
  match P.underlying t with
  | some (.map kt _) =>
    match m with
    | .mp id=>match S.o[id]? with
      | some (.mapo fl es)=>bK (r5 4 x) ((∀ K':List (AV×AV)→Prop,K' R→gQ P kt key es fun kv r=>bK (wU P kt kv) (
          match r with
          | some i=>bK (Instr.sameBits 10000 ((es[i]?.bind fun e=>sN e.1).getD (.bool false)) kv) (K' (es.set i (key,x)))
          | none=>K' (es++[(key,x)])))∧bk (S.o.set id (.mapo (fl&&dB 4 x) R)) fun o=>K { t:=S.t,l:=S.l,o:=o,b:=S.b })
      | _=>ae 106
    | _=>ae 107
  | _=>ae 108
def Fb (C:Ctx) (A:dT) (pl:bR) (o:Oper) (S:St) (K:St→Prop):Prop :=
  match o.op with
  | .mapUpdate t m key x=>match pf A.mpr (keyOf o) with
    | some R=>cV S m fun m=>cV S key fun key=>cV S x fun x=>kK C.P R t m key x S fun S'=>bJ o.dst .bad S' K
    | none=>u6 C pl o S K
  | .insert t m key x=>match pf A.mpr (keyOf o) with
    | some R=>cV S m fun m=>cV S key fun key=>cV S x fun x=>kK C.P R t m key x S fun S'=>bJ o.dst .bad S' K
    | none=>u6 C pl o S K
  | .makeSlice t l c=>match eq A.chk (keyOf o) with
    | true=>cV S l fun l=>cV S c fun c=>kJ C.P t l c S fun S' a=>bJ o.dst a S' K
    | false=>u6 C pl o S K
  | .call c=>match c.callee with
    | .builtin .append=>match eq A.chk (keyOf o) with
      | true=>dL S c.args.toList fun as=>match as with
        | [x,.v (.int _ n)]=>qM C.P c.argTypes.toList x n S fun S' r=>bJ o.dst r S' K
        | [x,y]=>ui C.P c.argTypes.toList x y S fun S' r=>bJ o.dst r S' K
        | _=>ae 210
      | false=>u6 C pl o S K
    | .builtin .copy=>dL S c.args.toList fun as=>match as with
        | [x,y]=>AU C.P c.argTypes.toList x y S fun r S'=>bJ o.dst r S' K
        | _=>ae 249
    | .value f=>cV S f fun fv=>dL S c.args.toList fun as=>AW C A o fv as S fun S' r=>bJ o.dst r S' K
    | _=>u6 C pl o S K
  | _=>u6 C pl o S K
def FP (A:dT) (dst:Option Tmp) (S:St) (K:St→Prop):Prop :=
  match dst with
  | none=>K S
  | some d=>match pf A.val d with
    | none=>K S
    | some v=>og S.t d fun a=>a=v∧qg S.t d v fun t=>K { t:=t,l:=S.l,o:=S.o,b:=S.b }
def DX (A:dT) (key:Nat) (S:St) (K:St→Prop):Prop :=
  match pf A.obr key with
  | none=>K S
  | some (id,R)=>match S.o[id]? with
    | some (.arr fl sz rows)=>rows=R∧bk (S.o.set id (.arr fl sz R)) fun o=>K { t:=S.t,l:=S.l,o:=o,b:=S.b }
    | _=>ae 430
def DY (C:Ctx) (A:dT) (pl:bR) (o:Oper) (S:St) (K:St→Prop):Prop :=
  dL S o.op.operands.toList fun vs=>Gx C A pl o vs fun r=>bJ o.dst r S K
def DZ (C:Ctx) (A:dT) (o:Oper) (S:St) (K:St→Prop):Prop :=
  dL S o.op.operands.toList fun vs=>Gy C A o vs (cY S) fun r=>bJ o.dst r S K
def FQ (C:Ctx) (A:dT) (o:Oper) (S:St) (K:St→Prop):Prop :=
  dL S o.op.operands.toList fun vs=>Fa C A o vs (cY S) fun r M=>bJ o.dst r (e_ S M) K
def nx (row:Option (List (List AV))) (M:St) (id i:Nat) (k:AV→St→Prop):Prop :=
  match M.o[id]? with
  | some (.own ks sz cells none)=>match row with
    | none=>cells[i]?=some none∧k .nilsl M
    | some rows=>cells[i]?=some (some rows)∧bk (M.o.set id (.own ks sz cells (some (i,.mf M.o.length)))++[.arr true sz rows]) fun o=>k (.mf M.o.length) { t:=M.t,l:=M.l,o:=o,b:=M.b }
  | _=>ae 323
def qN (P:Program) (a:vr) (t:TypeId) (same:Bool) (M:St) (id i:Nat) (k:AV→St→Prop):Prop :=
  match same with
  | true=>match M.o[id]? with
    | some (.own none _ cells (some (j,a)))=>(Nat.beq i j&&Nat.blt j cells.length)=true∧ic P t [a] 0 fun r=>k r M
    | _=>ae 324
  | false=>nx a.row M id i fun a M'=>ic P t [a] 0 fun r=>k r M'
def o5 (P:Program) (t:TypeId) (M:St) (id i:Nat) (v:AV) (K:St→Prop):Prop :=
  match P.info? t,M.o[id]? with
  | some inf,some (.own none sz cells hole)=>bK (qk v&&Nat.beq inf.size 1) ((Nat.blt i cells.length&&mH hole i)=true∧(bk (M.o.set id (.own none sz cells (some (i,v)))) fun o=>K { t:=M.t,l:=M.l,o:=o,b:=M.b }))
  | _,_=>ae 325
def qO (P:Program) (j:Nat) (a:vr) (t:TypeId) (l c:AV) (M:St) (k:AV→St→Prop):Prop :=
  match P.underlying t with
  | some (.slice e) =>
    match P.info? e,P.underlying e with
    | some i,some (.slice e2)=>match P.info? e2 with
      | some i2=>intOf l fun l=>intOf c fun c=>(decide (0≤l)&&decide (l≤c)&&decide (i.bytes * c≤140737488355328)&&decide (c≤140737488355328)&&Nat.blt 0 i.size)=true∧bK (Nat.beq i.size 1&&Nat.blt 0 i2.size)
          (cL P e fun z=>match z with
            | [.nilsl]=>List.replicate l.toNat none=a.cs∧om j M.o M.b (.own none i2.size a.cs none) fun o=>k (.mf j) { t:=M.t,l:=M.l,o:=o,b:=M.b }
            | _=>ae 325)
      | none=>ae 326
    | _,_=>ae 61
  | _=>ae 62
def qP (P:Program) (a:vr) (t:TypeId) (m key:AV) (ok:Bool) (M:St) (k:AV→St→Prop):Prop :=
  match P.underlying t with
  | some (.map kt e)=>match m with
    | .mp id=>match M.o[id]? with
      | some (.own (some ks) _ _ none)=>match a.at_ with
        | some i=>(∀ K':Option Nat→Prop,K' (some i)→gQ P kt key (kB ks) fun _ r=>K' r)∧nx a.row M id i fun a M'=>mF ok a true fun r=>k r M'
        | none=>(∀ K':Option Nat→Prop,K' none→gQ P kt key (kB ks) fun _ r=>K' r)∧ig P e ok fun r=>k r M
      | _=>ae 333
    | _=>ae 334
  | _=>ae 335
def Hz (M:St) (id sz:Nat) (cells:List (Option (List (List AV)))) (hole:Option (Nat×AV)) (x:AV) (K:St→Prop) (r:Option Nat) (ks:List AV):Prop :=
  match r with
  | some i=>mH hole i=true∧(bk (M.o.set id (.own (some ks) sz cells (some (i,x)))) fun o=>K { t:=M.t,l:=M.l,o:=o,b:=M.b })
  | none=>match hole with
    | none=>bk (M.o.set id (.own (some ks) sz (cells++[none]) (some (cells.length,x)))) fun o=>K { t:=M.t,l:=M.l,o:=o,b:=M.b }
    | some _=>ae 339
def pT (P:Program) (a:vr) (t:TypeId) (m key x:AV) (M:St) (K:St→Prop):Prop :=
  match P.underlying t with
  | some (.map kt _)=>match m with
    | .mp id=>match M.o[id]? with
      | some (.own (some ks) sz cells hole)=>bK (qk x) ((∀ K':Option Nat→List AV→Prop,K' a.at_ a.ks→gQ P kt key (kB ks) fun kv r=>bK (wU P kt kv) (match r with
          | some i=>bK (Instr.sameBits 10000 ((ks[i]?.bind sN).getD (.bool false)) kv) (K' (some i) (ks.set i key))
          | none=>K' none (ks++[key])))∧Hz M id sz cells hole x K a.at_ a.ks)
      | _=>ae 340
    | _=>ae 341
  | _=>ae 342
def Bz (P:Program) (A:dT) (pl:bR) (o:Oper) (vs:List AV) (M:St) (k:AV→St→Prop):Prop :=
  match pf A.own (keyOf o) with
  | none=>kp P pl o vs M k
  | some a=>match o.op,vs with
    | .load t _,[p]=>iJ M p fun id i=>qN P a t (Bh pl o) M id i k
    | .store t _ _,[p,v]=>iJ M p fun id i=>o5 P t M id i v fun M'=>k .bad M'
    | .makeSlice t _ _,[l,c]=>qO P (Bi pl.ix o.dst M.o.length) a t l c M k
    | .lookup t _ _ ok,[m,key]=>qP P a t m key ok M k
    | .mapUpdate t _ _ _,[m,key,x]=>pT P a t m key x M fun M'=>k .bad M'
    | .insert t _ _ _,[m,key,x]=>pT P a t m key x M fun M'=>k .bad M'
    | _,_=>ae 343
def ny (A:dT) (S:St) (id:Nat) (K:St→Prop):Prop :=
  match pf A.own (id + 2000000) with
  | none=>ij S id K
  | some a=>match S.o[id]? with
    | some (.own ks sz cells (some (j,.mf k)))=>match S.o[k]? with
      | some (.arr true sz' rows)=>bK (Nat.beq sz' sz) (Nat.blt j cells.length=true∧(cells.set j (some rows)=a.cs∧fU [k] S fun S1=>bk (S1.o.set id (.own ks sz a.cs none)) fun o=>K { t:=S1.t,l:=S1.l,o:=o,b:=S1.b }))
      | _=>ae 320
    | some (.own ks sz cells (some (j,.nilsl)))=>Nat.blt j cells.length=true∧(cells.set j none=a.cs∧(bk (S.o.set id (.own ks sz a.cs none)) fun o=>K { t:=S.t,l:=S.l,o:=o,b:=S.b }))
    | _=>ae 321
def uj (A:dT):List Nat→St→(St→Prop)→Prop
  | [],S,K=>K S
  | id::ids,S,K=>ny A S id fun S'=>uj A ids S' K
def pU (A:dT) (S:St) (id:Nat) (K:St→Prop):Prop :=
  match pf A.mpr (id + 2000000) with
  | none=>jE S id K
  | some R=>match S.o[id]? with
    | some (.own (some ks) _ cells none)=>mG ks cells=R∧(bk (S.o.set id (.mapo true R)) fun o=>K { t:=S.t,l:=S.l,o:=o,b:=S.b })
    | _=>ae 344
def qQ (A:dT):List Nat→St→(St→Prop)→Prop
  | [],S,K=>K S
  | id::ids,S,K=>pU A S id fun S'=>qQ A ids S' K
def ul (A:dT) (pl:bR) (id:Nat) (S:St) (K:St→Prop):Prop :=
  match eq pl.cl id with
  | false=>K S
  | true=>uj A (Ac S.o.length) S fun S1=>match eq pl.fr id with
    | false=>K S1
    | true=>qQ A (Ac S1.o.length) S1 K
def AX (C:Ctx) (A:dT) (o:Oper) (vs:List AV) (M:St) (k:AV→St→Prop):Prop :=
  match o.op,vs with
  | .makeSlice t _ _,[l,c]=>match eq A.chk (keyOf o) with
    | true=>kJ C.P t l c M fun M' r=>k r M'
    | false=>kC C o vs M k
  | .call c,.fn fid first cap::as=>match c.callee with
    | .value _=>bK (!(C.pure fid)&&(first++as++cap).all (r5 4)) (match pf A.sto (keyOf o) with
      | some (r,o')=>(C.scall fid (first++as++cap) M.o fun r' o''=>r'=r∧o''=o')∧bK (ca M.o o' 0).isEmpty (k r { t:=M.t,l:=M.l,o:=o',b:=M.b })
      | none=>C.scall fid (first++as++cap) M.o fun r o'=>bK (ca M.o o' 0).isEmpty (k r { t:=M.t,l:=M.l,o:=o',b:=M.b }))
    | _=>ae 310
  | _,_=>Fa C A o vs M k
def D1 (C:Ctx) (A:dT) (pl:bR) (o:Oper) (vs:List AV) (M:St) (k:AV→St→Prop):Prop :=
  match fF pl o with
  | true=>Bz C.P A pl o vs M k
  | false=>AX C A o vs M k
def FR (C:Ctx) (A:dT) (pl:bR) (o:Oper) (S:St) (K:St→Prop):Prop :=
  dL S o.op.operands.toList fun vs=>Bz C.P A pl o vs (cY S) fun r M=>bJ o.dst r (e_ S M) K
def D2 (C:Ctx) (A:dT) (pl:bR) (o:Oper) (S:St) (K:St→Prop):Prop :=
  dL S o.op.operands.toList fun vs=>D1 C A pl o vs (cY S) fun r M=>bJ o.dst r (e_ S M) K
def FS (C:Ctx) (o:Oper) (S:St) (K:St→Prop):Prop :=
  dL S o.op.operands.toList fun vs=>Gz C o vs fun r=>bJ o.dst r S K
def mt (A:dT) (o:Oper) (K:St→Prop) (S:St):Prop:=FP A o.dst S fun S'=>DX A (keyOf o) S' K
def GA (C:Ctx) (A:dT) (pl:bR) (o:Oper) (S:St) (K:St→Prop):Prop :=
  match Dj o with
  | 0=>DY C A pl o S (mt A o K)
  | 1=>DZ C A o S (mt A o K)
  | 2=>FQ C A o S (mt A o K)
  | _=>Fb C A pl o S (mt A o K)
def FT (C:Ctx) (A:dT) (pl:bR) (o:Oper) (S:St) (K:St→Prop):Prop :=
  match fF pl o with
  | true=>FR C A pl o S (mt A o K)
  | false=>GA C A pl o S K
def zq (C:Ctx) (A:dT) (pl:bR) (o:Oper) (S:St) (K:St→Prop):Prop :=
  match fo pl o with
  | 0=>DY C A pl o S (mt A o K)
  | 1=>DZ C A o S (mt A o K)
  | 2=>D2 C A pl o S (mt A o K)
  | 4=>match o.dst with
    | some d=>bJ o.dst (.ptr (.L d) 0 0) S K
    | none=>ae 217
  | 5=>FS C o S (mt A o K)
  | _=>match yn pl o with
    | true=>ae 219
    | false=>Fb C A pl o S (mt A o K)
def GB (op:BinOp):Bool :=
  match op with
  | .eql | .neq=>true
  | _=>false
def wy (op:BinOp):Bool :=
  match op with
  | .eql=>true
  | _=>false
def FU (P:Program) (o:Oper) (S:St) (K:St→Prop):Prop :=
  match o.op with
  | .binOp op t x (.const (.slice none 0 0)) _=>match P.underlying t with
    | some (.slice _)=>cV S x fun a=>match a with
      | .sl rows=>bK (GB op) ((rows=[]→bJ o.dst (.v (.bool (wy op))) S K)∧bJ o.dst (.v (.bool (!(wy op)))) S K)
      | _=>ae 460
    | _=>ae 461
  | _=>ae 462
def xJ (C:Ctx) (A:dT) (pl:bR) (all:Array Oper):List Oper→St→(St→Prop)→Prop
  | [],S,K=>K S
  | o::rest,S,K =>
    match o.guard with
    | none=>match eq A.dem (keyOf o) with
      | true=>FU C.P o S fun S'=>xJ C A pl all rest S' K
      | false=>FT C A pl o S fun S'=>xJ C A pl all rest S' K
    | some (j,want) =>
      match pq all j with
      | none=>ae 218
      | some d=>fW d S fun b S1=>gsel b want (FT C A pl o S1 fun S'=>xJ C A pl all rest S' K) (bJ o.dst (.tup []) S1 fun S'=>xJ C A pl all rest S' K)
def IC (C:Ctx) (A:dT) (pl:bR) (all:Array Oper) (o:Oper) (S:St) (K:St→Prop):Prop :=
  match o.guard with
  | none=>bK (iK pl all o S) (zq C A pl o S K)
  | some (j,want) =>
    match pq all j with
    | none=>ae 218
    | some d=>fW d S fun b S1=>gsel b want (bK (iK pl all o S1) (zq C A pl o S1 K)) (bJ o.dst (.tup []) S1 K)
def Hm (C:Ctx) (A:dT) (pl:bR) (ops:Array Oper) (i:Nat) (S:St) (K:St→Prop):Prop :=
  match ops[i]? with
  | none=>ae 303
  | some o=>IC C A pl ops o S K
def oT (C:Ctx) (A:dT) (pl:bR) (ops:Array Oper):PT→Option (St×Prop)→St→(St→Prop)→Prop
  | .done,m,S,K=>match m with
    | none=>K S
    | some (_,X)=>X
  | .go i t,m,S,K=>match m with
    | none=>Hm C A pl ops i S fun S'=>oT C A pl ops t none S' K
    | some (_,_)=>ae 305
  | .alt i t r,m,S,K=>match m with
    | none=>Hm C A pl ops i S fun S'=>oT C A pl ops t none S' fun S1=>oT C A pl ops r (some (S1,K S1)) S K
    | some (S1,X)=>Hm C A pl ops i S fun S'=>oT C A pl ops t none S' fun S2=>S2=S1∧oT C A pl ops r (some (S1,X)) S K
def nX (f:Nat→Option PT):List Nat→Option PT
  | []=>some .done
  | i::is=>match f i with
    | some t=>match nX f is with
      | some r=>some (.alt i t r)
      | none=>none
    | none=>none
def K8:List Nat→Bool
  | [_,_] | [_,_,_] | [_,_,_,_]=>true
  | _=>false
def jy (pl:bR) (ops:Array Oper) (ws:List Nat):Nat→Nat→Array Bool→Option PT
  | 0,_,listed=>match Region.ready .any ops listed with
    | []=>some .done
    | _::_=>none
  | n + 1,a,listed =>
    match Region.ready .any ops listed with
    | []=>some .done
    | r::rs=>match mJ pl ops ws listed (r::rs) with
      | some k=>match jy pl ops ws n a (listed.setIfInBounds k true) with | some t=>some (.go k t) | none=>none
      | none=>match rs with
        | []=>match jy pl ops ws n a (listed.setIfInBounds r true) with | some t=>some (.go r t) | none=>none
        | _::_=>match K8 (r::rs),a with
          | true,a + 1=>nX (fun i=>jy pl ops ws n a (listed.setIfInBounds i true)) (r::rs)
          | _,_=>none
def wz (pl:bR) (ops:Array Oper) (ws:List Nat):Nat→Array Bool→Option PT
  | 0,listed=>jy pl ops ws 0 6 listed
  | n + 1,listed=>match mK ops listed (Region.ready .any ops listed) with
    | some i=>match wz pl ops ws n (listed.setIfInBounds i true) with | some t=>some (.go i t) | none=>none
    | none=>jy pl ops ws (n + 1) 6 listed
def uo (pl:bR) (ops:Array Oper):Option PT :=
  match Im ops with
  | false=>none
  | true=>match pl.cl with
    | []=>jy pl ops (ce ops.toList []) ops.size 3 (Array.replicate ops.size false)
    | _::_=>wz pl ops (ce ops.toList []) ops.size (Array.replicate ops.size false)
def jq (pl:bR) (ord:List (Nat×PT)):Code→Bool
  | .region id ops true=>match pf ord id,uo pl ops with
    | some is,some js=>AS is js
    | _,_=>false
  | .seq a b=>jq pl ord a&&jq pl ord b
  | .cond _ a b=>jq pl ord a&&jq pl ord b
  | .block _ c=>jq pl ord c
  | .loop c=>jq pl ord c
  | _=>true
def nY:Code→Nat
  | .region id _ _=>id
  | .seq a _=>nY a
  | .cond _ a _=>nY a
  | .block _ c=>nY c
  | .loop c=>nY c
  | _=>0
def Ct (A:Gw) (id:Nat) (S:St) (K:St→Prop):Prop :=
  match pf A.wr id with
  | some L=>DU L S K
  | none=>K S
def Fc:Type:=Code→St→(Ex→St→Prop)→Prop
def uq (C:Ctx) (cd:Fc) (A:Gw) (pl:bR):Code→St→(Ex→St→Prop)→Prop
  | .skip,S,K=>K .nrm S
  | .region id ops draw,S,K =>
    match draw with
    | false=>xJ C (Cs A id) pl ops ops.toList S fun S'=>ul (Cs A id) pl id S' fun S''=>Ct A id S'' (K .nrm)
    | true=>match pf A.ord id with
      | some is=>bK (qZ pl ops) (u9 C.P (cw ops.toList) S fun S1=>oT C (Cs A id) pl ops is none S1 fun S'=>jX (cw ops.toList) S' (ul (Cs A id) pl id S' fun S''=>Ct A id S'' (K .nrm)))
      | none=>ae 440
  | .seq a b,S,K=>uq C cd A pl a S fun e S'=>match e with
    | .nrm=>match pf A.cut (nY b) with
      | some (W,L,e1,S1)=>DU L (wk W S') fun S2=>cd b S2 (fun e' S3=>e'=e1∧S3=S1)∧K e1 S1
      | none=>uq C cd A pl b S' K
    | .ex i=>K (.ex i) S'
    | .ret=>K .ret S'
  | .cond c x y,S,K=>mB c S fun b S'=>match b with
    | true=>uq C cd A pl x S' K
    | false=>uq C cd A pl y S' K
  | .block id c,S,K=>uq C cd A pl c S fun e S'=>match e with
    | .ex i=>match Nat.beq i id with | true=>K .nrm S' | false=>K (.ex i) S'
    | .nrm=>K .nrm S'
    | .ret=>K .ret S'
  | .loop c,S,K=>match pf A.lps (nY c) with
    | some (W,L,e,S1)=>DU L (wk W S) fun S2=>(C.loop pl c S2 fun e' S'=>e'=e∧S'=S1)∧K e S1
    | none=>C.loop pl c S K
  | .exit id,S,K=>K (.ex id) S
  | .ret,S,K=>K .ret S
  | _,_,_=>ae 119
def sub:Code→List Nat→Code
  | c,[]=>c
  | .seq a _,0::p=>sub a p
  | .seq _ b,_::p=>sub b p
  | .cond _ a _,0::p=>sub a p
  | .cond _ _ b,_::p=>sub b p
  | .block _ c,_::p=>sub c p
  | .loop c,_::p=>sub c p
  | c,_=>c
def bF (P:Program) (f:Nat):Code :=
  match P.funcs[f]? with
  | some fn=>fn.body.getD .skip
  | none=>.skip
def dV (S S':St):Prop:=∀ (G:Gh) (E:Env) (a:Act) (w:World),af G pn E S w→TR E S.t a→∃ E',af G pn E' S' w∧TR E' S'.t a
def GC:Ex→Nat
  | .nrm=>0
  | .ret=>1
  | .ex i=>i + 2
def GD (C:Ctx) (cd:Fc) (A:Gw) (pl:bR) (we:List (Nat×(Wk×Le))) (c:Code) (S:St) (K:Ex→St→Prop):Prop :=
  uq C cd A pl c S fun e S'=>match pf we (GC e) with
    | some (W,L)=>DU L (wk W S') (K e)
    | none=>K e S'
def KG:List (Nat×AV)→Nat→Nat→List AV
  | _,_,0=>[]
  | xs,i,n + 1=>(match pf xs i with | some a=>a | none=>.bad)::KG xs (i + 1) n
def cv (n:Nat) (ts:List (Nat×AV)) (l:List (Nat×List AV)) (o:List Ob) (b:Nat):St:={ t:=KG ts 0 n,l:=l,o:=o,b:=b }
theorem dV.refl (S:St):dV S S:=fun _ E _ _ h k=>⟨E,h,k⟩
theorem dV.trans {S S' S'':St} (h:dV S S') (k:dV S' S''):dV S S'':=fun G E a w hM ht=>by
  obtain ⟨E1,h1,h2⟩:=h G E a w hM ht
  exact k G E1 a w h1 h2
theorem cR.refl (a:AV):cR a a:=fun _ _ h=>h
theorem cR.trans {a b c:AV} (h:cR a b) (k:cR b c):cR a c:=fun _ _ hv=>k _ _ (h _ _ hv)
theorem cR.bad (a:AV):cR a .bad:=fun _ _ _=>.bad _ _
theorem cR.nil:cR .nilsl (.sl []):=fun E u h=>by cases h; exact .sln E
theorem cR.esl:cR .esl (.sl []):=fun E u h=>by
  cases h with
  | esln=>exact .sln E
  | esl _ a=>exact .sle E a 0
theorem cM.refl (r:List AV):cM r r:=⟨rfl,fun _ _ _ h k=>by rw [h] at k; cases k; exact .refl _⟩
theorem cM.nil:cM [] []:=.refl _
theorem cM.cons {a b:AV} {r r':List AV} (h:cR a b) (k:cM r r'):cM (a::r) (b::r') :=
  ⟨by simp [k.1],fun i x y h1 h2=>by
    cases i with
    | zero=>simp at h1 h2; subst h1 h2; exact h
    | succ i=>exact k.2 i x y (by simpa using h1) (by simpa using h2)⟩
theorem cM.vrs {r r':List AV} {E:Env} {us:List Value} (h:cM r r') (hv:cn E r us):cn E r' us :=
  ⟨by rw [← h.1]; exact hv.1,fun m c u h1 h2=>by
    have hm:m<r.length:=by rw [h.1]; exact (List.getElem?_eq_some_iff.1 h1).1
    exact h.2 m _ c (List.getElem?_eq_getElem hm) h1 _ _ (hv.2 m _ u (List.getElem?_eq_getElem hm) h2)⟩
theorem cR.agg {r r':List AV} (h:cM r r'):cR (.agg r) (.agg r'):=fun E u hv=>by
  obtain ⟨us,rfl,h1⟩:=hv.aggI
  exact cn.aggV (h.vrs h1)
theorem cR.tup {r r':List AV} (h:cM r r'):cR (.tup r) (.tup r'):=fun E u hv=>by
  obtain ⟨us,rfl,h1⟩:=hv.tupI
  have:=h.vrs h1
  exact .tup us (by simpa using this.1) (fun m c u h1 h2=>this.2 m c u h1 (by simpa using h2))
theorem cR.fptr {r r':List AV} {j:Nat} (h:cM r r'):cR (.fptr r j) (.fptr r' j):=fun E u hv=>by
  cases hv with
  | fptr j us h1 h2 h3 h4 =>
    have:=h.vrs (E:=E.fz) (us:=us) ⟨h1.symm,h2⟩
    exact .fptr j us this.1.symm this.2 h3 h4
theorem g0.refl (r:List (List AV)):g0 r r:=⟨rfl,fun _ _ _ h k=>by rw [h] at k; cases k; exact .refl _⟩
theorem g0.nil:g0 [] []:=.refl _
theorem g0.cons {a b:List AV} {r r':List (List AV)} (h:cM a b) (k:g0 r r'):g0 (a::r) (b::r') :=
  ⟨by simp [k.1],fun i x y h1 h2=>by
    cases i with
    | zero=>simp at h1 h2; subst h1 h2; exact h
    | succ i=>exact k.2 i x y (by simpa using h1) (by simpa using h2)⟩
theorem g0.app {a b r r':List (List AV)} (h:g0 a b) (k:g0 r r'):g0 (a++r) (b++r'):=by
  induction a generalizing b with
  | nil =>
    have:b=[]:=List.eq_nil_of_length_eq_zero h.1.symm
    subst this
    exact k
  | cons x a ih =>
    cases b with
    | nil=>exact absurd h.1 (by simp)
    | cons y b=>exact .cons (h.2 0 x y rfl rfl) (ih ⟨by simpa using h.1,fun i p q h1 h2=>h.2 (i + 1) p q (by simpa using h1) (by simpa using h2)⟩)
theorem cM.app {a b r r':List AV} (h:cM a b) (k:cM r r'):cM (a++r) (b++r'):=by
  induction a generalizing b with
  | nil =>
    have:b=[]:=List.eq_nil_of_length_eq_zero h.1.symm
    subst this
    exact k
  | cons x a ih =>
    cases b with
    | nil=>exact absurd h.1 (by simp)
    | cons y b=>exact .cons (h.2 0 x y rfl rfl) (ih ⟨by simpa using h.1,fun i p q h1 h2=>h.2 (i + 1) p q (by simpa using h1) (by simpa using h2)⟩)
theorem g0.flat {r r':List (List AV)} (h:g0 r r'):cM r.flatten r'.flatten:=by
  induction r generalizing r' with
  | nil =>
    have:r'=[]:=List.eq_nil_of_length_eq_zero h.1.symm
    subst this
    exact .refl _
  | cons x a ih =>
    cases r' with
    | nil=>exact absurd h.1 (by simp)
    | cons y b =>
      have h1:=h.2 0 x y rfl rfl
      have h2:=ih (r':=b) ⟨by simpa using h.1,fun i p q h1 h2=>h.2 (i + 1) p q (by simpa using h1) (by simpa using h2)⟩
      rw [List.flatten_cons,List.flatten_cons]
      have app:∀ {a b r r':List AV},cM a b→cM r r'→cM (a++r) (b++r'):=by
        intro a b r r' h k
        induction a generalizing b with
        | nil =>
          have:b=[]:=List.eq_nil_of_length_eq_zero h.1.symm
          subst this
          exact k
        | cons x a ih =>
          cases b with
          | nil=>exact absurd h.1 (by simp)
          | cons y b=>exact .cons (h.2 0 x y rfl rfl) (ih ⟨by simpa using h.1,fun i p q h1 h2=>h.2 (i + 1) p q (by simpa using h1) (by simpa using h2)⟩)
      exact app h1 h2
theorem g0.lens {r r':List (List AV)} {sz:Nat} (h:g0 r r') (hl:∀ x∈r,x.length=sz):∀ x∈r',x.length=sz:=by
  intro x hx
  obtain ⟨i,hi⟩:=List.getElem?_of_mem hx
  have hlt:i<r.length:=by rw [h.1]; exact (List.getElem?_eq_some_iff.1 hi).1
  rw [← (h.2 i _ x (List.getElem?_eq_getElem hlt) hi).1]
  exact hl _ (List.getElem_mem hlt)
theorem cR.sl {r r':List (List AV)} (h:g0 r r'):cR (.sl r) (.sl r'):=fun E u hv=>by
  cases hv with
  | sln =>
    have:r'=[]:=List.eq_nil_of_length_eq_zero h.1.symm
    subst this
    exact .sln E
  | sle _ a cap =>
    have:r'=[]:=List.eq_nil_of_length_eq_zero h.1.symm
    subst this
    exact .sle E a cap
  | sl us h1 h2 h3 h4 h5 h6 h7 =>
    have hf:=h.flat
    have:=hf.vrs (E:=E.fz) (us:=us) ⟨h3.symm,h4⟩
    rw [h.1]
    exact .sl us h1 (h.lens h2) this.1.symm this.2 h5 h6 (by rw [← h.1]; exact h7)
theorem BA {ts:List Nat}:∀ {t:List AV} {i j:Nat} {c:AV},(E8 ts i t)[j]?=some c→c=.bad∨t[j]?=some c
  | [],_,_,_,h=>by simp [E8] at h
  | x::xs,i,0,c,h=>by
    simp only [E8,List.getElem?_cons_zero,Option.some.injEq] at h
    split at h
    · exact .inr (by rw [← h]; rfl)
    · exact .inl h.symm
  | x::xs,i,j + 1,c,h=>by
    simp only [E8,List.getElem?_cons_succ] at h
    rw [List.getElem?_cons_succ]
    exact BA h
theorem BB {ts:List Nat}:∀ {t:List AV} {i:Nat},(E8 ts i t).length=t.length
  | [],_=>rfl
  | x::xs,i=>by simp [E8,BB]
theorem D3 (ts:List Nat) (S:St):dV S { t:=E8 ts 0 S.t,l:=S.l,o:=S.o,b:=S.b }:=fun _ E _ _ hM ht =>
  ⟨E,hM.congr rfl rfl rfl,by rw [BB]; exact ht.len,fun n c u h1 h2=>by
    rcases BA h1 with h | h
    · rw [h]; exact .bad _ _
    · exact ht.val n c u h h2,ht.df,ht.gt⟩
theorem xK (d:Nat) (S:St):dV S (et d S):=fun G E a w hM ht=>by
  obtain ⟨E1,h1,h2,_⟩:=oF hM ht d rfl
  exact ⟨E1,h1,h2⟩
theorem pV:∀ (ds:List Nat) (S:St),dV S (xE ds S)
  | [],S=>.refl S
  | d::ds,S=>(xK d S).trans (pV ds _)
theorem Cu (i:Nat) (S:St):dV S (dK i S):=fun _ _ _ _ hM ht =>
  let ⟨h1,h2⟩:=rf hM ht i
  ⟨_,h1,h2⟩
theorem ut:∀ (ds:List Nat) (S:St),dV S (DT ds S)
  | [],S=>.refl S
  | d::ds,S=>(Cu d S).trans (ut ds _)
theorem m_:∀ {os:List Ob} {i:Nat} {x:Ob},xF os=true→os[i]?=some x→x=.dead
  | [],i,x,_,h=>by simp at h
  | .dead::os,0,x,_,h=>by simp at h; exact h.symm
  | .dead::os,i + 1,x,h,h1=>m_ (os:=os) (i:=i) h (by simpa using h1)
  | .arr _ _ _::os,_,_,h,_=>by cases h
  | .mapo _ _::os,_,_,h,_=>by cases h
  | .own _ _ _ _::os,_,_,h,_=>by cases h
theorem Cv (n:Nat) (S:St):dV S (Gt n S):=fun _ E _ _ hM ht=>by
  unfold Gt
  split
  · rename_i h
    rw [Bool.and_eq_true] at h
    have hb:=Nat.le_of_ble_eq_true h.2
    have hbl:=hM.bl
    refine ⟨E,⟨hM.hp,hM.os,hM.tape,hM.output,hM.size,hM.keep,hM.F0,hM.Flt,hM.Fnew,hM.own,hM.inj,hM.loc,fun id=>?_,fun id hid=>?_,?_,hM.szs,hM.pk,fun id=>?_⟩,ht⟩
    · have h0:=hM.obj id
      show fb E (S.o.take n)[id]? _
      rw [List.getElem?_take]
      split
      · exact h0
      · rename_i hn
        cases hx:S.o[id]? with
        | none=>rw [hx] at h0; exact h0
        | some x =>
          have:x=.dead:=m_ h.1 (i:=id - n) (by rw [List.getElem?_drop]; rw [show n + (id - n)=id by omega]; exact hx)
          rw [hx,this] at h0
          revert h0
          cases E.mu (.O id) with
          | none=>exact fun _=>trivial
          | some _=>exact fun h=>h.elim
    · show (S.o.take n)[id]?=some .dead∨_
      have hid':id<S.b:=hid
      rw [List.getElem?_take,if_pos (by omega)]
      exact hM.old id hid
    · show S.b≤(S.o.take n).length
      rw [List.length_take]
      omega
    · have h0:=hM.ow id
      show dQ E id (S.o.take n)[id]?
      rw [List.getElem?_take]
      split
      · exact h0
      · rename_i hn
        cases hx:S.o[id]? with
        | none=>rw [hx] at h0; exact h0
        | some x =>
          have:x=.dead:=m_ h.1 (i:=id - n) (by rw [List.getElem?_drop]; rw [show n + (id - n)=id by omega]; exact hx)
          rw [hx,this] at h0
          exact h0
  · exact ⟨E,hM,ht⟩
theorem uu {G:Gh} {E:Env} {S:St} {w:World} (hM:af G pn E S w):E.mu (.O S.o.length)=none:=by
  have:=hM.obj S.o.length
  rw [List.getElem?_eq_none (Nat.le_refl _)] at this
  revert this
  cases E.mu (.O S.o.length) with
  | none=>exact fun _=>rfl
  | some _=>exact fun h=>h.elim
theorem zr {G:Gh} {E:Env} {S:St} {w:World} (hM:af G pn E S w) (sz:Nat) (t:List AV):af G pn ⟨E.F,aA E.mu (.O S.o.length) .virt,E.h⟩ { t:=t,l:=S.l,o:=S.o++[.arr true sz []],b:=S.b } w:=by
  have hbl:=hM.bl
  refine hM.addkey' (key:=.O S.o.length) (mv:=.virt) (fun _ _=>rfl) (fun _ h=>by cases h) (uu hM) (fun _ _ _ _ h=>by cases h) (fun _ _=>rfl) (fun id hid=>?_) rfl ?_ (fun id h=>?_) (fun _ h=>by cases h) (fun id h=>?_) ?_
  · show (S.o++[_])[id]?=_
    by_cases h:id<S.o.length
    · rw [List.getElem?_append_left h]
    · have hne:id≠S.o.length:=fun e=>hid (by rw [e])
      rw [List.getElem?_eq_none (by simp; omega),List.getElem?_eq_none (by omega)]
  · show S.b≤(S.o++[_]).length
    simp
    omega
  · cases h
    exact hbl
  · cases h
    show fb _ (S.o++[_])[S.o.length]? _
    rw [List.getElem?_append_right (Nat.le_refl _),Nat.sub_self]
    rfl
  · exact hM.ow_push rfl rfl
theorem o6:∀ (ps:List (Nat×Nat)) (S:St),dV S (zp ps S)
  | [],S=>.refl S
  | (d,sz)::ps,S=>by
    unfold zp
    split
    · rename_i hd
      refine dV.trans ?_ (o6 ps _)
      intro G E a w hM ht
      refine ⟨_,zr hM sz _,?_⟩
      have hle:LE E ⟨E.F,aA E.mu (.O S.o.length) .virt,E.h⟩:=je (uu hM)
      refine ⟨by simpa using ht.len,fun n c u h1 h2=>?_,ht.df,ht.gt.mono hle⟩
      have h1':(S.t.set d (.mf S.o.length))[n]?=some c:=h1
      rw [List.getElem?_set] at h1'
      split at h1'
      · rename_i e
        subst e
        split at h1'
        · cases h1'
          have hv:=ht.val d _ u hd h2
          cases hv
          exact .mfn (by show aA _ _ _ _=_; unfold aA; rw [if_pos rfl])
        · cases h1'
      · exact (ht.val n c u h1' h2).mono hle
    · exact o6 ps S
theorem l3:∀ (ps:List (Nat×Nat×Nat)) (S:St),dV S (ww ps S)
  | [],S=>.refl S
  | (d,j,sz)::ps,S=>by
    unfold ww
    split
    · rename_i row hd
      split
      · rename_i hj
        refine dV.trans ?_ (l3 ps _)
        intro G E a w hM ht
        have hle:LE E ⟨E.F,aA E.mu (.O S.o.length) .virt,E.h⟩:=je (uu hM)
        refine ⟨_,?_,ht.mono hle⟩
        have h0:=zr hM sz S.t
        refine ⟨h0.hp,h0.os,h0.tape,h0.output,h0.size,h0.keep,h0.F0,h0.Flt,h0.Fnew,h0.own,h0.inj,fun e=>?_,h0.obj,h0.old,h0.bl,h0.szs,(fun _ _ h=>by cases h),h0.ow⟩
        have h1:=h0.loc e
        show gr pn _ (aG (pj S.l d (row.set j (.mf S.o.length))) e) e
        rw [iO hd]
        split
        · rename_i e'
          subst e'
          have h1':gr pn ⟨E.F,aA E.mu (.O S.o.length) .virt,E.h⟩ (aG S.l d) d:=h1
          rw [hd] at h1'
          rcases h1' with ⟨b,h2,h3,h4,us,ty,h5,h6,h7⟩ | ⟨_,h2,_⟩
          · refine .inl ⟨b,by simpa using h2,by simpa using h3,by simp,us,ty,h5,by simpa using h6,fun m c hc=>?_⟩
            have hf:[row.set j (.mf S.o.length)].flatten=row.set j (.mf S.o.length):=by simp
            have hf0:[row].flatten=row:=by simp
            rw [hf,List.getElem?_set] at hc
            split at hc
            · rename_i e'
              subst e'
              split at hc
              · cases hc
                obtain ⟨u,hu,hv⟩:=h7 j .nilsl (by rw [hf0]; exact hj)
                refine ⟨u,hu,?_⟩
                cases hv
                exact .mfn (by show aA _ _ _ _=_; unfold aA; rw [if_pos rfl])
              · cases hc
            · exact h7 m c (by rw [hf0]; exact hc)
          · cases h2
        · exact h1
      · exact l3 ps S
    · exact l3 ps S
theorem BC {G:Gh} {E:Env} {S:St} {w:World} {a:Act} (hM:af G pn E S w) (ht:TR E S.t a) (ids:List Nat):LE (E.fd ids) ⟨FD E ids,iR ids E.mu,E.h⟩∧af G pn ⟨FD E ids,iR ids E.mu,E.h⟩ (eu ids S) w∧TR ⟨FD E ids,iR ids E.mu,E.h⟩ (eu ids S).t a:=by
  obtain ⟨hS1,ht1⟩:=kU (ids:=ids) hM ht
  obtain ⟨hle2,hS2⟩:=hS1.freeze (F':=FD E ids) (fun b h=>.inl h) (fun b h=>by
    rcases h with h | ⟨id,hid,o',s,n,hm⟩
    · exact .inl h
    · obtain ⟨h1,h2,h3⟩:=hM.own _ _ _ _ _ hm
      refine .inr ⟨h2,h3,fun k o'' s' n' h'=>?_⟩
      obtain ⟨h4,h5⟩:=gW h'
      exact h5 id hid (hM.inj _ _ _ _ _ _ _ _ _ h4 hm))
  exact ⟨⟨fun _ h=>h,fun _ _ _ h=>(by cases h),fun _ _=>rfl,fun _ _ _ _ _ _ h=>(by cases h)⟩,hS2,ht1.mono hle2⟩
theorem Cw {S:St} {d j:Nat} {row:List AV} {x y:AV} (hr:aG S.l d=some row) (hj:row[j]?=some x) (hy:z7 S.o 6 x=some y):dV S (Gu (dD S.o 6 x) d j y S):=by
  intro G E a w hM ht
  obtain ⟨hle,hS2,ht2⟩:=BC hM ht (dD S.o 6 x)
  unfold Gu
  split
  · rename_i row' hr'
    refine ⟨_,⟨hS2.hp,hS2.os,hS2.tape,hS2.output,hS2.size,hS2.keep,hS2.F0,hS2.Flt,hS2.Fnew,hS2.own,hS2.inj,fun e=>?_,hS2.obj,hS2.old,hS2.bl,hS2.szs,(fun _ _ h=>by cases h),hS2.ow⟩,ht2⟩
    show gr pn _ (aG (pj (eu (dD S.o 6 x) S).l d (row'.set j y)) e) e
    rw [iO hr']
    split
    · rename_i e'
      subst e'
      have l1:=hM.loc d
      have l2:=hS2.loc d
      rw [hr] at l1
      rw [hr'] at l2
      rcases l1 with ⟨b,h2,h3,h4,us,ty,h5,h6,h7⟩ | ⟨_,h2,_⟩
      · rcases l2 with ⟨b',k2,k3,k4,us',ty',k5,k6,k7⟩ | ⟨_,k2,_⟩
        · have k2':=(gW k2).1
          rw [h2] at k2'
          injection k2' with k2'
          injection k2' with e1 _ _ _
          subst e1
          have k5':E.h[b]?=_:=k5
          rw [h5] at k5'
          cases k5'
          refine .inl ⟨b,by simpa using k2,by simpa using k3,by simp,us,ty,k5,by simpa using k6,fun m c hc=>?_⟩
          have hf:[row'.set j y].flatten=row'.set j y:=by simp
          have hf0:[row'].flatten=row':=by simp
          rw [hf,List.getElem?_set] at hc
          split at hc
          · rename_i e'
            subst e'
            split at hc
            · cases hc
              have hf1:[row].flatten=row:=by simp
              obtain ⟨u,hu,hv⟩:=h7 j x (by rw [hf1]; exact hj)
              exact ⟨u,hu,(fX hM 6 hy hv (ids:=dD S.o 6 x) (fun _ h=>h)).mono hle⟩
            · cases hc
          · exact k7 m c (by rw [hf0]; exact hc)
        · cases k2
      · cases h2
    · exact hS2.loc e
  · exact ⟨_,hS2,ht2⟩
theorem gY:∀ (ds:List Nat) (S:St),dV S (vq ds S)
  | [],S=>.refl S
  | d::ds,S=>by
    unfold vq
    split
    · split
      · rename_i row hr
        split
        · rename_i x hx
          split
          · rename_i y hy
            exact (Cw hr hx hy).trans (gY ds _)
          · exact gY ds S
        · exact gY ds S
      · exact gY ds S
    · split
      · rename_i x hx
        split
        · rename_i y hy
          refine dV.trans ?_ (gY ds _)
          intro G E a w hM ht
          obtain ⟨hle,hS2,ht2⟩:=BC hM ht (dD S.o 6 x)
          refine ⟨_,hS2.congr rfl rfl rfl,by simpa using ht2.len,fun n c u h1 h2=>?_,ht2.df,ht2.gt⟩
          have h1':((eu (dD S.o 6 x) S).t.set d y)[n]?=some c:=h1
          rw [List.getElem?_set] at h1'
          split at h1'
          · rename_i e
            subst e
            split at h1'
            · cases h1'
              exact (fX hM 6 hy (ht.val d _ u hx h2) (ids:=dD S.o 6 x) (fun _ h=>h)).mono hle
            · cases h1'
          · exact ht2.val n c u h1' h2
        · exact gY ds S
      · exact gY ds S
theorem D4 (W:Wk) (S:St):dV S (IB W S):=by
  unfold IB
  exact (D3 W.ts S).trans ((pV W.ls _).trans ((ut _ _).trans ((Cv _ _).trans ((o6 _ _).trans (l3 _ _)))))
theorem nz (W:Wk) (S:St):dV S (wk W S):=(gY W.fz S).trans (D4 W _)
theorem zt:∀ {xs:List (Nat×AV)} {S:St} {K:St→Prop},Gv xs S K→∃ S',dV S S'∧K S'
  | [],S,K,h=>⟨S,.refl S,h⟩
  | (d,v)::xs,S,K,h=>by
    obtain ⟨a,ha,hl,h⟩:=co.1 h
    rw [ed] at h
    obtain ⟨S',h1,h2⟩:=zt h
    refine ⟨S',dV.trans ?_ h1,h2⟩
    intro G E act w hM ht
    refine ⟨E,hM.congr rfl rfl rfl,by simpa using ht.len,fun n c u h1 h2=>?_,ht.df,ht.gt⟩
    have h1':(S.t.set d v)[n]?=some c:=h1
    rw [List.getElem?_set] at h1'
    split at h1'
    · rename_i e
      subst e
      split at h1'
      · cases h1'
        exact hl _ _ (ht.val d _ u ha h2)
      · cases h1'
    · exact ht.val n c u h1' h2
theorem zu:∀ {xs:List (Nat×List AV)} {S:St} {K:St→Prop},E9 xs S K→∃ S',dV S S'∧K S'
  | [],S,K,h=>⟨S,.refl S,h⟩
  | (d,r)::xs,S,K,h=>by
    unfold E9 at h
    split at h
    · rename_i row hd
      obtain ⟨hl,h⟩:=h
      rw [im] at h
      obtain ⟨S',h1,h2⟩:=zu h
      refine ⟨S',dV.trans ?_ h1,h2⟩
      intro G E act w hM ht
      refine ⟨E,?_,ht⟩
      refine ⟨hM.hp,hM.os,hM.tape,hM.output,hM.size,hM.keep,hM.F0,hM.Flt,hM.Fnew,hM.own,hM.inj,fun e=>?_,hM.obj,hM.old,hM.bl,hM.szs,(fun _ _ h=>by cases h),hM.ow⟩
      have h1:=hM.loc e
      show gr pn _ (aG (pj S.l d r) e) e
      rw [iO hd]
      split
      · rename_i e'
        subst e'
        rw [hd] at h1
        rcases h1 with ⟨b,h2,h3,h4,us,ty,h5,h6,h7⟩ | ⟨_,h2,_⟩
        · refine .inl ⟨b,by rw [← hl.1]; exact h2,by rw [← hl.1]; exact h3,by simp,us,ty,h5,by rw [← hl.1]; exact h6,fun m c hc=>?_⟩
          have hf:[r].flatten=r:=by simp
          have hf0:[row].flatten=row:=by simp
          rw [hf] at hc
          have hm:m<row.length:=by rw [hl.1]; exact (List.getElem?_eq_some_iff.1 hc).1
          obtain ⟨u,hu,hv⟩:=h7 m _ (by rw [hf0]; exact List.getElem?_eq_getElem hm)
          exact ⟨u,hu,hl.2 m _ c (List.getElem?_eq_getElem hm) hc _ _ hv⟩
        · cases h2
      · exact h1
    · exact False.elim h
theorem zv:∀ {xs:List (Nat×List (List AV))} {S:St} {K:St→Prop},E_ xs S K→∃ S',dV S S'∧K S'
  | [],S,K,h=>⟨S,.refl S,h⟩
  | (i,R)::xs,S,K,h=>by
    unfold E_ at h
    split at h
    · rename_i fl sz rows hi
      obtain ⟨hl,h⟩:=h
      rw [ay] at h
      obtain ⟨S',h1,h2⟩:=zv h
      refine ⟨S',dV.trans ?_ h1,h2⟩
      intro G E act w hM ht
      refine ⟨E,?_,ht⟩
      refine ⟨hM.hp,hM.os,hM.tape,hM.output,hM.size,hM.keep,hM.F0,hM.Flt,hM.Fnew,hM.own,hM.inj,hM.loc,fun id=>?_,fun id hid=>?_,by show S.b≤(S.o.set _ _).length; rw [List.length_set]; exact hM.bl,hM.szs,hM.pk,fun id=>?_⟩
      · have h1:=hM.obj id
        show fb E (S.o.set i _)[id]? _
        rw [List.getElem?_set]
        split
        · rename_i e
          subst e
          rw [if_pos (List.getElem?_eq_some_iff.1 hi).1]
          rw [hi] at h1
          revert h1
          cases E.mu (.O i) with
          | none=>exact fun h=>h
          | some mv =>
            cases mv with
            | virt =>
              intro h
              have h:rows=[]:=h
              subst h
              exact List.eq_nil_of_length_eq_zero hl.1.symm
            | blk b o s n =>
              rintro ⟨⟨h1,h2⟩,h3,h4,us,ty,h5,h6,h7⟩
              refine ⟨⟨h1,by rw [← hl.1]; exact h2⟩,h3,hl.lens h4,us,ty,h5,by rw [← hl.1]; exact h6,fun m c hc=>?_⟩
              have hf:=hl.flat
              have hm:m<rows.flatten.length:=by rw [hf.1]; exact (List.getElem?_eq_some_iff.1 hc).1
              obtain ⟨u,hu,hv⟩:=h7 m _ (List.getElem?_eq_getElem hm)
              exact ⟨u,hu,hf.2 m _ c (List.getElem?_eq_getElem hm) hc _ _ hv⟩
        · exact h1
      · have h1:=hM.old id hid
        show (S.o.set i _)[id]?=some .dead∨_
        rw [List.getElem?_set]
        split
        · rename_i e
          subst e
          rcases h1 with h1 | h1
          · rw [hi] at h1; cases h1
          · exact .inr h1
        · exact h1
      · have h1:=hM.ow id
        show dQ E id (S.o.set i _)[id]?
        rw [List.getElem?_set]
        split
        · rename_i e
          subst e
          rw [if_pos (List.getElem?_eq_some_iff.1 hi).1]
          rw [hi] at h1
          exact h1
        · exact h1
    · exact False.elim h
theorem kL {L:Le} {S:St} {K:St→Prop} (h:DU L S K):∃ S',dV S S'∧K S':=by
  obtain ⟨S1,h1,h⟩:=zt h
  obtain ⟨S2,h2,h⟩:=zu h
  obtain ⟨S3,h3,h⟩:=zv h
  exact ⟨S3,h1.trans (h2.trans h3),h⟩
structure uv (C:Ctx):Prop where
  det:fZ C
theorem av.mono2 {α β:Type} {X:(α→β→Prop)→Prop} (h:ao X) {K K':α→β→Prop} (hx:X K) (hk:∀ r s,K r s→K' r s):X K':=by
  obtain ⟨r,s,h1,h2⟩:=h _ hx
  exact h2 _ (hk r s h1)
theorem av.mono {α:Type} {X:(α→Prop)→Prop} (h:av X) {K K':α→Prop} (hx:X K) (hk:∀ r,K r→K' r):X K':=by
  obtain ⟨r,h1,h2⟩:=h K hx
  exact h2 _ (hk r h1)
theorem ao.mono {α β:Type} {X:(α→β→Prop)→Prop} (h:ao X) {K K':α→β→Prop} (hx:X K) (hk:∀ a b,K a b→K' a b):X K':=by
  obtain ⟨a,b,h1,h2⟩:=h K hx
  exact h2 _ (hk a b h1)
theorem Cx {op:BinOp} {x y:Value} {K:Value→Prop} (h:DV op x y K):sH op x y K:=by
  unfold DV at h
  unfold sH
  split at h <;> first
    | exact ak h.1 h.2
    | exact False.elim h
section
variable {C:Ctx} {A:dT} {pl:bR} {o:Oper}
theorem Cy {op:BinOp} {t:TypeId} {x y:AV} {k:AV→Prop} (h:DW C A o op t x y k):Ab C.P op t x y k:=by
  unfold DW at h
  split at h
  · rename_i a b
    show vH C.P op t a b k
    unfold vH
    split at h
    · rename_i hn
      rw [hn]
      dsimp only
      split at h
      · exact h
      · rename_i a b hne
        split
        · exact (hne _ _ rfl rfl).elim
        · exact Cx h
    · rename_i c hc
      rw [hc]
      exact h
  · rename_i as bs
    show (match rK as,rK bs with
    | some xs,some ys =>
      match li C.P op t xs ys with
      | some (.bool b)=>k (.v (.bool b))
      | _=>ae 226
    | _,_=>ae 227)
    split at h
    · rename_i xs ys h1 h2
      try rw [h1,h2]
      try dsimp only
      split at h
      · rw [h.1]
        exact h.2
      · exact False.elim h
    · exact False.elim h
  · exact False.elim h
theorem zw {t:TypeId} {x ix:AV} {k:AV→Prop} (h:xG C A o t x ix k):ol C.P t x ix k:=by
  unfold xG at h
  unfold ol
  refine av.mono a_ h (fun i h'=>?_)
  clear h
  split at h'
  · rename_i s hu
    rw [hu]
    dsimp only
    split at h'
    · rw [h'.1]
      dsimp only
      have h2:=h'.2.2
      rw [h'.2.1] at h2
      exact h2
    · exact False.elim h'
  · rename_i len e cs hu
    rw [hu]
    dsimp only
    have h:=h'
    split at h
    · rename_i inf hi
      rw [hi]
      exact ak h.1 h.2
    · exact False.elim h
  · exact False.elim h'
theorem D5 {vs:List AV} {k:AV→Prop} (h:Gx C A pl o vs k):pop C pl o vs k:=by
  unfold Gx at h
  split at h
  · exact h
  · split at h
    · rename_i ho
      unfold pop
      rw [ho]
      exact Cy h
    · rename_i ho
      unfold pop
      rw [ho]
      exact zw h
    · exact False.elim h
theorem nB {len cap:Nat} {lo hi mx:Option Int} {k:Nat→Nat→Nat→Prop} (h:wx len cap lo hi mx k):qi len cap lo hi mx k:=by
  unfold wx at h
  unfold qi
  split at h <;> first
    | exact h
    | exact ak h.1 h.2
    | exact False.elim h
theorem gZ {t:TypeId} {x:AV} {lo hi mx:Option Int} {S:St} {k:AV→Prop} (h:kI C t x lo hi mx S k):iI C.P t x lo hi mx S k:=by
  unfold kI at h
  rw [Bool.and_comm (iD mx) (iD hi)] at h
  unfold iI
  split at h
  · rename_i hu
    rw [hu]
    dsimp only
    split at h
    · exact nB h
    · exact False.elim h
  · rename_i e hu
    rw [hu]
    dsimp only
    split at h
    · rename_i i hi
      rw [hi]
      dsimp only
      obtain ⟨h0,h⟩:=ab h
      refine ak h0 ?_
      split at h
      · exact ak h.1 (nB h.2)
      · split at h
        · rename_i ho
          dsimp only
          rw [ho]
          obtain ⟨h1,h⟩:=ab h
          exact ak h1 (nB h)
        · exact False.elim h
      · split at h
        · rename_i ho
          dsimp only
          rw [ho]
          obtain ⟨h1,h⟩:=ab h
          exact ak h1 (nB h)
        · exact False.elim h
      · exact False.elim h
    · exact False.elim h
  · exact False.elim h
theorem rU {row:List AV} {t:TypeId} {x ix:AV} {S:St} {k:AV→Prop} (h:m9 C row t x ix S k):gF C.P t x ix S k:=by
  unfold m9 at h
  unfold gF
  refine av.mono a_ h (fun i h=>?_)
  split at h
  · rename_i e hu
    rw [hu]
    dsimp only
    split at h
    · rename_i inf hi
      rw [hi]
      dsimp only
      split at h
      · have h1:=h.1
        unfold FO at h1
        dsimp only
        rw [h1]
        exact h.2
      · split at h
        · rename_i ho
          dsimp only
          rw [ho]
          dsimp only
          have h1:=h.1
          unfold FO at h1
          rw [h1]
          exact h.2
        · rename_i ho
          dsimp only
          rw [ho]
          obtain ⟨h1,h2,h3⟩:=ab h
          refine ak ?_ h3
          rw [Bool.and_eq_true]
          exact ⟨h2,h1⟩
        · exact False.elim h
      · split at h
        · rename_i ho
          dsimp only
          rw [ho]
          dsimp only
          refine ak h.1 ?_
          rw [h.2.1]
          exact h.2.2
        · exact False.elim h
      · exact False.elim h
    · exact False.elim h
  · rename_i len e hu
    rw [hu]
    dsimp only
    split at h
    · rename_i inf hi
      rw [hi]
      exact ak h.1 h.2
    · exact False.elim h
  · exact False.elim h
theorem rz (hC:uv C) {fid:Nat} {as:List AV} {k:AV→Prop} (h:sj C A o fid as k):C.pcall fid as k:=by
  unfold sj at h
  split at h
  · exact av.mono (hC.det.pcall _ _) h.1 (fun _ e=>by rw [e]; exact h.2)
  · exact h
theorem AY {P:Program} {op:BinOp} {t:TypeId} {x y:AV} {S:St} {k:AV→Prop} (h:AT P op t x y S k):sM P op t x y S k:=by
  unfold AT at h
  split at h
  · rename_i id
    split at h
    · rename_i rows hob
      obtain ⟨h1,h⟩:=h
      have:sL S (.mf id)=true:=by
        unfold sL
        dsimp only
        rw [hob]
        cases rows with
        | nil=>cases h1
        | cons _ _=>rfl
      unfold sM
      rw [this]
      exact h
    · exact False.elim h
  · exact False.elim h
theorem l4 {size:Nat} {S:St} {x:AV} {k:Bool→List (List AV)→Prop} (h:qK size S x k):i_ size S x k:=by
  unfold qK at h
  unfold i_
  split at h <;> first
    | exact ak h.1 h.2
    | exact h
    | exact False.elim h
theorem zx {src dst:TypeId} {x:AV} {S:St} {s:ByteArray} {k:AV→Prop} (h:xH C.P src dst x S s k):fj C.P src dst x S k:=by
  unfold xH at h
  unfold fj
  split at h
  · rename_i hu hd
    rw [hu,hd]
    dsimp only
    split at h
    · rename_i he
      rw [he]
      dsimp only
      obtain ⟨h1,h⟩:=ab h
      refine ak h1 (ao.mono dM (l4 h) (fun fl rows h=>?_))
      rw [h.1]
      show k (.v (.string ⟨s.data.toList.toArray⟩))
      have:(⟨s.data.toList.toArray⟩:ByteArray)=s:=by cases s; simp
      rw [this]
      exact h.2
    · exact False.elim h
  · exact False.elim h
theorem D6 (hC:uv C) {vs:List AV} {M:St} {k:AV→Prop} (h:Gy C A o vs M k):nG C o vs M k:=by
  unfold Gy at h
  split at h
  · rename_i ho
    split at h
    · split at h
      · split at h
        · rename_i hob
          unfold nG
          rw [ho]
          dsimp only
          unfold C_
          dsimp only
          unfold u5
          dsimp only
          rw [hob]
          dsimp only
          rw [h.1]
          exact h.2
        · exact False.elim h
      · exact False.elim h
    · exact h
  · rename_i ho
    split at h
    · exact h
    · unfold nG
      rw [ho]
      split at h
      · exact gZ h
      · exact av.mono a_ h (fun _ h=>gZ h)
      · exact av.mono a_ h (fun _ h=>gZ h)
      · exact av.mono a_ h (fun _ h=>av.mono a_ h (fun _ h=>gZ h))
      · exact av.mono a_ h (fun _ h=>av.mono a_ h (fun _ h=>gZ h))
      · exact av.mono a_ h (fun _ h=>av.mono a_ h (fun _ h=>av.mono a_ h (fun _ h=>gZ h)))
      · exact False.elim h
  · rename_i ho
    split at h
    · unfold nG
      rw [ho]
      exact rU h
    · exact h
  · rename_i ho
    split at h
    · split at h
      · rename_i hu
        split at h
        · rename_i hob
          unfold nG
          rw [ho]
          dsimp only
          unfold np
          rw [hu]
          dsimp only
          rw [hob]
          exact h.1 _ h.2
        · exact False.elim h
      · exact False.elim h
    · exact h
  · rename_i ho
    split at h
    · exact h
    · unfold nG
      rw [ho]
      exact AY h
  · rename_i ho
    split at h
    · unfold nG
      rw [ho]
      exact zx h
    · exact h
  · rename_i c ho
    split at h
    · rename_i hcal
      split at h
      · unfold nG
        rw [ho]
        dsimp only
        rw [hcal]
        dsimp only
        obtain ⟨h1,h⟩:=ab h
        exact ak h1 (av.mono (dN _ _) h (fun bs hb=>rz hC hb))
      · exact False.elim h
    · exact h
  · exact h
theorem zy {S:St} {row:List AV} {a:AV} {cs:List AV} {K:St→Prop} (h:xI S row a cs K):kR S a cs K:=by
  unfold xI at h
  split at h
  · unfold kR
    split at h
    · rename_i ho
      dsimp only
      rw [ho]
      dsimp only
      rw [h.1]
      exact h.2
    · exact False.elim h
  · exact False.elim h
theorem zA {vs:List AV} {M:St} {k:AV→St→Prop} (h:Fa C A o vs M k):vL C o vs M k:=by
  unfold Fa at h
  split at h
  · exact h
  · split at h
    · rename_i ho
      split at h
      · unfold vL
        rw [ho]
        refine av.mono cj h (fun cs h=>?_)
        split at h
        · rename_i hi
          rw [hi]
          obtain ⟨h1,h⟩:=ab h
          exact ak h1 (zy h)
        · exact False.elim h
      · exact h
    · exact h
theorem xL {ts:List TypeId} {base x:AV} {S:St} {k:St→AV→Prop} (h:ui C.P ts base x S k):kA C.P ts base x S k:=by
  unfold ui at h
  unfold kA
  split at h
  · split at h
    · rename_i e hu
      dsimp only
      rw [hu]
      dsimp only
      split at h
      · rename_i i hi
        rw [hi]
        dsimp only
        obtain ⟨h1,h⟩:=ab h
        refine ak h1 ?_
        refine ao.mono dM (l4 h) (fun fl src h=>?_)
        refine ak h.1 ?_
        replace h:=h.2
        split at h
        · exact ak h.1 h.2
        · exact ak h.1 h.2
        · split at h
          · rename_i ho
            dsimp only
            rw [ho]
            obtain ⟨h1,h⟩:=ab h
            refine ak ?_ h.2
            simp only [Bool.and_eq_true] at h1 ⊢
            exact ⟨⟨h1.1,h.1⟩,h1.2⟩
          · exact False.elim h
        · split at h
          · rename_i ho
            dsimp only
            rw [ho]
            obtain ⟨h1,h2,h3,h⟩:=ab h
            refine ak h1 ?_
            rw [h2]
            exact ak h3 h
          · exact False.elim h
        · exact False.elim h
      · exact False.elim h
    · exact False.elim h
  · exact False.elim h
theorem vu {ts:List TypeId} {base x:AV} {k:AV→Prop} (h:qL C.P ts base x k):jT C.P ts base x k:=by
  unfold qL at h
  unfold jT
  split at h
  · split at h
    · rename_i e hu
      dsimp only
      rw [hu]
      dsimp only
      split at h
      · rename_i i hi
        rw [hi]
        dsimp only
        obtain ⟨h1,h⟩:=ab h
        refine ak h1 ?_
        refine ao.mono dM (l4 h) (fun fl src h=>?_)
        obtain ⟨h2,h3,h4,h⟩:=ab h
        refine ak ?_ h
        rw [h2,h3,h4]
        rfl
      · exact False.elim h
    · exact False.elim h
  · exact False.elim h
theorem D7 {vs:List AV} {k:AV→Prop} (h:Gz C o vs k):Gd C o vs k:=by
  unfold Gz at h
  unfold Gd
  split at h
  · rename_i c x y ho
    rw [ho]
    dsimp only
    split at h
    · rename_i hc
      rw [hc]
      exact vu h
    · exact False.elim h
  · exact False.elim h
theorem vw {ts:List TypeId} {base:AV} {n:Int} {S:St} {k:St→AV→Prop} (h:qM C.P ts base n S k):jU C.P ts base n S k:=by
  unfold qM at h
  unfold jU
  split at h
  · split at h
    · rename_i hu hv
      dsimp only
      rw [hu,hv]
      dsimp only
      split at h
      · rename_i hi
        rw [hi]
        exact ak h.1 h.2
      · exact False.elim h
    · exact False.elim h
  · exact False.elim h
theorem mm {t:TypeId} {l c:AV} {S:St} {k:St→AV→Prop} (h:kJ C.P t l c S k):ch C.P t l c S k:=by
  unfold kJ at h
  unfold ch
  split at h
  · rename_i hu
    rw [hu]
    dsimp only
    split at h
    · rename_i hi
      rw [hi]
      dsimp only
      exact av.mono a_ h (fun _ h=>av.mono a_ h (fun _ h=>ak h.1 h.2))
    · exact False.elim h
  · exact False.elim h
theorem AZ (hC:uv C) {f:AV} {args:List AV} {S:St} {k:St→AV→Prop} (h:AW C A o f args S k):vK C f args S k:=by
  unfold AW at h
  unfold vK
  split at h
  · dsimp only
    split at h
    · rename_i hp
      rw [hp]
      exact av.mono (dN _ _) h (fun bs hb=>rz hC hb)
    · rename_i hp
      rw [hp]
      obtain ⟨h1,h⟩:=ab h
      refine ak h1 ?_
      split at h
      · exact ao.mono (hC.det.scall _ _ _) h.1 (fun r o' ⟨e1,e2⟩=>by subst e1 e2; exact h.2)
      · exact h
  · exact False.elim h
theorem mn {R:List (AV×AV)} {t:TypeId} {m key x:AV} {S:St} {K:St→Prop} (h:kK C.P R t m key x S K):eB C.P t m key x S K:=by
  unfold kK at h
  unfold eB
  split at h
  · rename_i hu
    rw [hu]
    dsimp only
    split at h
    · split at h
      · rename_i fl es ho
        dsimp only
        rw [ho]
        dsimp only
        obtain ⟨h1,h2,h3⟩:=ab h
        refine ak h1 ?_
        have:=h2 (fun es'=>bk (S.o.set _ (.mapo (fl&&dB 4 x) es')) fun o=>K { t:=S.t,l:=S.l,o:=o,b:=S.b }) h3
        exact this
      · exact False.elim h
    · exact False.elim h
  · exact False.elim h
theorem A1 {ts:List TypeId} {x y:AV} {M:St} {k:AV→St→Prop} (h:AU C.P ts x y M k):qX C.P ts x y M k:=by
  unfold AU at h
  unfold qX
  split at h
  · split at h
    · rename_i e hu
      dsimp only
      rw [hu]
      dsimp only
      split at h
      · rename_i i hi
        rw [hi]
        dsimp only
        obtain ⟨h1,h⟩:=ab h
        refine ak h1 ?_
        refine ao.mono dM (l4 h) (fun fl src h=>?_)
        obtain ⟨h2,h⟩:=h
        obtain ⟨h3,h⟩:=ab h
        refine ak (by rw [h2,h3]; rfl) ?_
        split at h
        · split at h
          · rename_i ho
            dsimp only
            rw [ho]
            exact h
          · exact False.elim h
        · split at h
          · rename_i ho
            dsimp only
            rw [ho]
            obtain ⟨h1,h2,h⟩:=ab h
            exact ak (by rw [h1,h2]; rfl) h
          · exact False.elim h
        · exact False.elim h
      · exact False.elim h
    · exact False.elim h
  · exact False.elim h
theorem zB (hC:uv C) {S:St} {K:St→Prop} (h:Fb C A pl o S K):u6 C pl o S K:=by
  unfold Fb at h
  split at h
  · rename_i ho
    split at h
    · unfold u6
      rw [ho]
      refine av.mono cp h (fun m h=>?_)
      refine av.mono cp h (fun k h=>?_)
      refine av.mono cp h (fun x h=>?_)
      exact mn h
    · exact h
  · rename_i ho
    split at h
    · unfold u6
      rw [ho]
      refine av.mono cp h (fun m h=>?_)
      refine av.mono cp h (fun k h=>?_)
      refine av.mono cp h (fun x h=>?_)
      exact mn h
    · exact h
  · rename_i ho
    split at h
    · unfold u6
      rw [ho]
      refine av.mono cp h (fun l h=>?_)
      refine av.mono cp h (fun c h=>?_)
      exact mm h
    · exact h
  · rename_i c ho
    split at h
    · rename_i hcal
      split at h
      · unfold u6
        rw [ho]
        dsimp only
        rw [hcal]
        dsimp only
        refine av.mono a4 h (fun as h=>?_)
        split at h
        · exact vw h
        · rename_i x y hne
          split
          · rename_i e
            cases e
            exact (hne _ _ rfl).elim
          · rename_i e
            cases e
            exact xL h
          · rename_i h3
            exact (h3 _ _ rfl).elim
        · exact False.elim h
      · exact h
    · rename_i hcal
      unfold u6
      rw [ho]
      dsimp only
      rw [hcal]
      dsimp only
      refine av.mono a4 h (fun as h=>?_)
      split at h
      · exact A1 h
      · exact False.elim h
    · rename_i f hcal
      unfold u6
      rw [ho]
      dsimp only
      rw [hcal]
      dsimp only
      refine av.mono cp h (fun l h=>?_)
      refine av.mono a4 h (fun c h=>?_)
      exact AZ hC h
    · exact h
  · exact h
theorem ki {K:St→Prop} {S:St} (h:mt A o K S):K S:=by
  have h2:∀ {key:Nat} {S:St} {K:St→Prop},DX A key S K→K S:=by
    intro key S K h
    unfold DX at h
    split at h
    · exact h
    · split at h
      · rename_i ho
        obtain ⟨h1,h⟩:=h
        subst h1
        rw [ay] at h
        have e:∀ {α:Type} {l:List α} {i:Nat} {x:α},l[i]?=some x→l.set i x=l:=by
          intro α l i x hx
          refine List.ext_getElem? (fun m=>?_)
          rw [List.getElem?_set]
          split
          · rename_i e
            subst e
            rw [if_pos (List.getElem?_eq_some_iff.1 hx).1,hx]
          · rfl
        rw [e ho] at h
        exact h
      · exact False.elim h
  unfold mt at h
  unfold FP at h
  split at h
  · exact h2 h
  · split at h
    · exact h2 h
    · rename_i v hv
      obtain ⟨a,ha,e,h⟩:=co.1 h
      subst e
      rw [ed,m6 ha] at h
      exact h2 h
theorem wA {S:St} {K:St→Prop} (h:DY C A pl o S K):B0 C pl o S K:=av.mono a4 h (fun _ h=>D5 h)
theorem wB (hC:uv C) {S:St} {K:St→Prop} (h:DZ C A o S K):B1 C o S K:=av.mono a4 h (fun _ h=>D6 hC h)
theorem Cz {S:St} {K:St→Prop} (h:FQ C A o S K):B2 C o S K:=av.mono a4 h (fun _ h=>zA h)
theorem nZ {row:Option (List (List AV))} {M:St} {id i:Nat} {k:AV→St→Prop} (h:nx row M id i k):fa M id i k:=by
  unfold nx at h
  unfold fa
  split at h
  · rename_i hob
    rw [hob]
    dsimp only
    split at h
    · obtain ⟨h1,h⟩:=h
      rw [h1]
      exact h
    · obtain ⟨h1,h⟩:=h
      rw [h1]
      exact h
  · exact h.elim
theorem vx {P:Program} {a:vr} {t:TypeId} {same:Bool} {M:St} {id i:Nat} {k:AV→St→Prop} (h:qN P a t same M id i k):ik P t same M id i k:=by
  unfold qN at h
  unfold ik
  split at h
  · split at h
    · rename_i hob
      rw [hob]
      exact ak h.1 h.2
    · exact h.elim
  · exact nZ h
theorem uw {P:Program} {t:TypeId} {M:St} {id i:Nat} {v:AV} {K:St→Prop} (h:o5 P t M id i v K):fV P t M id i v K:=by
  unfold o5 at h
  unfold fV
  split at h
  · rename_i hi hob
    rw [hi,hob]
    obtain ⟨h1,h2,h3⟩:=ab h
    refine ak ?_ h3
    simp only [Bool.and_eq_true] at h1 h2 ⊢
    exact ⟨⟨⟨h1.1,h2.1⟩,h1.2⟩,h2.2⟩
  · exact h.elim
theorem vy {P:Program} {j:Nat} {a:vr} {t:TypeId} {l c:AV} {M:St} {k:AV→St→Prop} (h:qO P j a t l c M k):gp P j t l c M k:=by
  unfold qO at h
  unfold gp
  split at h
  · rename_i hu
    rw [hu]
    dsimp only
    split at h
    · rename_i hi he
      rw [hi,he]
      dsimp only
      split at h
      · rename_i hi2
        rw [hi2]
        dsimp only
        refine lO h (fun n h=>?_)
        refine lO h (fun m h=>?_)
        obtain ⟨h1,h⟩:=h
        obtain ⟨h2,h⟩:=ab h
        refine ak ?_ ?_
        · simp only [Bool.and_eq_true] at h1 h2 ⊢
          exact ⟨⟨h1,h2.1⟩,h2.2⟩
        · refine pI h (fun z h=>?_)
          split at h
          · obtain ⟨h3,h⟩:=h
            dsimp only
            rw [h3]
            exact h
          · exact h.elim
      · exact h.elim
    · exact h.elim
  · exact h.elim
theorem vz {P:Program} {a:vr} {t:TypeId} {m key:AV} {ok:Bool} {M:St} {k:AV→St→Prop} (h:qP P a t m key ok M k):il P t m key ok M k:=by
  unfold qP at h
  unfold il
  split at h
  · rename_i hu
    rw [hu]
    dsimp only
    split at h
    · dsimp only
      split at h
      · rename_i hob
        rw [hob]
        dsimp only
        split at h
        · obtain ⟨h1,h2⟩:=h
          exact h1 (fun r=>match r with
            | some i=>fa M _ i fun a M'=>mF ok a true fun r=>k r M'
            | none=>ig P _ ok fun r=>k r M) (nZ h2)
        · obtain ⟨h1,h2⟩:=h
          exact h1 (fun r=>match r with
            | some i=>fa M _ i fun a M'=>mF ok a true fun r=>k r M'
            | none=>ig P _ ok fun r=>k r M) h2
      · exact h.elim
    · exact h.elim
  · exact h.elim
theorem pW {P:Program} {a:vr} {t:TypeId} {m key x:AV} {M:St} {K:St→Prop} (h:pT P a t m key x M K):iY P t m key x M K:=by
  unfold pT at h
  unfold iY
  split at h
  · rename_i hu
    rw [hu]
    dsimp only
    split at h
    · rename_i id
      dsimp only
      split at h
      · rename_i ks sz cells hole hob
        rw [hob]
        dsimp only
        obtain ⟨h1,h2,h3⟩:=ab h
        refine ak h1 ?_
        have h4:=h2 (Hz M id sz cells hole x K) h3
        refine av.mono2 dr h4 (fun kv r h5=>?_)
        obtain ⟨h6,h7⟩:=ab h5
        refine ak h6 ?_
        cases r with
        | none=>exact h7
        | some i =>
          obtain ⟨h8,h9,h10⟩:=ab h7
          refine ak ?_ h10
          rw [Bool.and_eq_true]
          exact ⟨h8,h9⟩
      · exact h.elim
    · exact h.elim
  · exact h.elim
theorem rB {M:St} {x:AV} {X Y:Nat→Nat→Prop} (h:iJ M x X) (hk:∀ id i,X id i→Y id i):iJ M x Y:=by
  unfold iJ at h ⊢
  split at h
  · split at h
    · exact hk _ _ h
    · exact h.elim
  · exact h.elim
theorem wC {P:Program} {vs:List AV} {M:St} {k:AV→St→Prop} (h:Bz P A pl o vs M k):kp P pl o vs M k:=by
  unfold Bz at h
  split at h
  · exact h
  · split at h
    · rename_i ho
      unfold kp
      rw [ho]
      exact rB h (fun _ _ h=>vx h)
    · rename_i ho
      unfold kp
      rw [ho]
      exact rB h (fun _ _ h=>uw h)
    · rename_i ho
      unfold kp
      rw [ho]
      exact vy h
    · rename_i ho
      unfold kp
      rw [ho]
      exact vz h
    · rename_i ho
      unfold kp
      rw [ho]
      exact pW h
    · rename_i ho
      unfold kp
      rw [ho]
      exact pW h
    · exact h.elim
theorem oa {S:St} {id:Nat} {K:St→Prop} (h:ny A S id K):ij S id K:=by
  unfold ny at h
  split at h
  · exact h
  · unfold ij
    split at h
    · rename_i hob
      rw [hob]
      dsimp only
      split at h
      · rename_i hk
        rw [hk]
        obtain ⟨h1,h2,h3,h4⟩:=ab h
        refine ak ?_ ?_
        · rw [Bool.and_eq_true]
          exact ⟨h1,h2⟩
        · rw [h3]
          exact h4
      · exact h.elim
    · rename_i hob
      rw [hob]
      dsimp only
      obtain ⟨h2,h3,h4⟩:=h
      refine ak h2 ?_
      rw [h3]
      exact h4
    · exact h.elim
theorem pX:∀ {ids:List Nat} {S:St} {K:St→Prop},uj A ids S K→lG ids S K
  | [],_,_,h=>h
  | _::_,_,_,h=>av.mono lW (oa h) (fun _ h=>pX h)
theorem pY {S:St} {id:Nat} {K:St→Prop} (h:pU A S id K):jE S id K:=by
  unfold pU at h
  split at h
  · exact h
  · unfold jE
    split at h
    · rename_i hob
      rw [hob]
      dsimp only
      rw [h.1]
      exact h.2
    · exact h.elim
theorem oc:∀ {ids:List Nat} {S:St} {K:St→Prop},qQ A ids S K→jW ids S K
  | [],_,_,h=>h
  | _::_,_,_,h=>av.mono m3 (pY h) (fun _ h=>oc h)
theorem uz {id:Nat} {S:St} {K:St→Prop} (h:ul A pl id S K):jw pl id S K:=by
  unfold ul at h
  unfold jw
  split at h
  · rename_i hc
    rw [hc]
    exact h
  · rename_i hc
    rw [hc]
    dsimp only
    refine av.mono (ji _ _) (pX h) (fun S1 h=>?_)
    split at h
    · rename_i hc
      rw [hc]
      exact h
    · rename_i hc
      rw [hc]
      exact oc h
theorem A2 (hC:uv C) {vs:List AV} {M:St} {k:AV→St→Prop} (h:AX C A o vs M k):kC C o vs M k:=by
  unfold AX at h
  split at h
  · rename_i t X Y l c ho
    split at h
    · unfold kC
      rw [ho]
      exact mm h
    · exact h
  · rename_i c fid first cap as ho
    unfold kC
    rw [ho]
    dsimp only
    split at h
    · rename_i x hcal
      rw [hcal]
      obtain ⟨h1,h⟩:=ab h
      refine ak h1 ?_
      split at h
      · obtain ⟨h2,h3⟩:=h
        obtain ⟨r0,o0,⟨e1,e2⟩,h4⟩:=hC.det.scall _ _ _ _ h2
        subst e1 e2
        exact h4 _ h3
      · exact h
    · exact h.elim
  · rename_i hne hne2
    have h':=zA h
    unfold kC
    split
    · rename_i t X Y l c ho
      exact absurd rfl (hne t X Y l c ho)
    · rename_i c fid first cap as ho
      exact absurd rfl (hne2 c fid first cap as ho)
    · exact h'
theorem CB (hC:uv C) {vs:List AV} {M:St} {k:AV→St→Prop} (h:D1 C A pl o vs M k):lH C pl o vs M k:=by
  unfold D1 at h
  unfold lH
  split at h
  · rename_i hw
    rw [hw]
    exact wC h
  · rename_i hw
    rw [hw]
    exact A2 hC h
theorem A3 (hC:uv C) {S:St} {K:St→Prop} (h:D2 C A pl o S K):nM C pl o S K:=av.mono a4 h (fun _ h=>CB hC h)
theorem CC {S:St} {K:St→Prop} (h:FR C A pl o S K):wV C pl o S K:=av.mono a4 h (fun _ h=>wC h)
theorem CE {S:St} {K:St→Prop} (h:FS C o S K):B3 C o S K:=av.mono a4 h (fun _ h=>D7 h)
theorem D8 (hC:uv C) {S:St} {K:St→Prop} (h:GA C A pl o S K):wW C pl o S K:=by
  refine av.mono (yY hC.det) (K:=mt A o K) ?_ (fun _ h=>ki h)
  unfold GA at h
  unfold wW
  split at h
  · rename_i hc
    rw [hc]
    exact wA h
  · rename_i hc
    rw [hc]
    exact wB hC h
  · rename_i hc
    rw [hc]
    exact Cz h
  · rename_i h0 h1 h2
    have:=zB hC h
    split
    · exact absurd (by assumption) h0
    · exact absurd (by assumption) h1
    · exact absurd (by assumption) h2
    · exact this
theorem sk (hC:uv C) {S:St} {K:St→Prop} (h:FT C A pl o S K):Dk C pl o S K:=by
  unfold FT at h
  unfold Dk
  split at h
  · rename_i hw
    rw [hw]
    exact av.mono yW (CC h) (fun _ h=>ki h)
  · rename_i hw
    rw [hw]
    exact D8 hC h
theorem uA (hC:uv C) {S:St} {K:St→Prop} (h:zq C A pl o S K):u0 C pl o S K:=by
  unfold zq at h
  split at h
  · rename_i hc
    refine av.mono (gE hC.det) (K:=mt A o K) ?_ (fun _ h=>ki h)
    unfold u0
    rw [hc]
    exact wA h
  · rename_i hc
    refine av.mono (gE hC.det) (K:=mt A o K) ?_ (fun _ h=>ki h)
    unfold u0
    rw [hc]
    exact wB hC h
  · rename_i hc
    refine av.mono (gE hC.det) (K:=mt A o K) ?_ (fun _ h=>ki h)
    unfold u0
    rw [hc]
    exact A3 hC h
  · rename_i hc
    unfold u0
    rw [hc]
    exact h
  · rename_i hc
    refine av.mono (gE hC.det) (K:=mt A o K) ?_ (fun _ h=>ki h)
    unfold u0
    rw [hc]
    exact CE h
  · rename_i h0 h1 h2 h4 h5
    refine av.mono (gE hC.det) (K:=mt A o K) ?_ (fun _ h=>ki h)
    unfold u0
    split
    · exact absurd (by assumption) h0
    · exact absurd (by assumption) h1
    · exact absurd (by assumption) h2
    · exact absurd (by assumption) h4
    · exact absurd (by assumption) h5
    · split at h
      · exact False.elim h
      · rename_i hb
        rw [hb]
        exact zB hC h
theorem Fe (hC:uv C) {all:Array Oper} {S:St} {K:St→Prop} (h:IC C A pl all o S K):ag C pl all o S K:=by
  unfold IC at h
  unfold ag
  split at h
  · rename_i hg
    rw [hg]
    obtain ⟨h1,h⟩:=ab h
    exact ak h1 (uA hC h)
  · rename_i j want hg
    rw [hg]
    dsimp only
    split at h
    · exact False.elim h
    · rename_i d hd
      rw [hd]
      dsimp only
      refine ao.mono dH h (fun b S1 h=>?_)
      have key:∀ {S:St},bK (iK pl all o S) (zq C A pl o S K)→oq C pl all o S K:=by
        intro S h
        obtain ⟨h1,h⟩:=ab h
        exact ak h1 (uA hC h)
      unfold gsel at h ⊢
      split at h
      · exact key h
      · exact key h
      · exact h
theorem BD (hC:uv C) {ops:Array Oper} {i:Nat} {S:St} {K:St→Prop} (h:Hm C A pl ops i S K):vN C pl ops i S K:=by
  unfold Hm at h
  unfold vN
  split at h
  · exact False.elim h
  · rename_i o ho
    rw [ho]
    exact Fe hC h
theorem zC {S2 S1:St} {X:Prop} (h:S2=S1∧X):qY S2 S1 X:=by
  unfold qY
  split
  · exact h.2
  · exact h
theorem xM (hC:uv C) {ops:Array Oper} {ws:List Nat}:∀ {n a:Nat} {listed:Array Bool} {t:PT} {S:St} {K:St→Prop},jy pl ops ws n a listed=some t→oT C A pl ops t none S K→jb C pl ops ws n listed S K
  | 0,a,listed,t,S,K,hp,h=>by
    unfold jy at hp
    unfold jb
    split at hp
    · cases hp
      rename_i hr
      rw [hr]
      exact h
    · cases hp
  | n + 1,a,listed,t,S,K,hp,h=>by
    unfold jy at hp
    unfold jb
    split at hp
    · cases hp
      rename_i hr
      rw [hr]
      exact h
    · rename_i r rs hr
      rw [hr]
      dsimp only
      have step:∀ {k b:Nat} {u:PT} {S:St} {K:St→Prop},jy pl ops ws n b (listed.setIfInBounds k true)=some u→(Hm C A pl ops k S fun S'=>oT C A pl ops u none S' K)→vN C pl ops k S fun S'=>jb C pl ops ws n (listed.setIfInBounds k true) S' K :=
        fun hj h=>av.mono (fw hC.det) (BD hC h) (fun _ h=>xM hC hj h)
      have alts:∀ {b:Nat} {is:List Nat} {u:PT} {S S1:St} {K:St→Prop} {X:Prop},nX (fun i=>jy pl ops ws n b (listed.setIfInBounds i true)) is=some u→oT C A pl ops u (some (S1,X)) S K →
          Ae (fun i K'=>vN C pl ops i S fun S'=>jb C pl ops ws n (listed.setIfInBounds i true) S' K') is S1 X:=by
        intro b is
        induction is with
        | nil =>
          intro u S S1 K X hu h
          unfold nX at hu
          cases hu
          exact h
        | cons i is ih =>
          intro u S S1 K X hu h
          unfold nX at hu
          split at hu
          · rename_i v hv
            split at hu
            · rename_i w hw
              cases hu
              refine av.mono (av.bind (fw hC.det) (fun S'=>fe hC.det _ _ _)) (step hv h) (fun S2 h=>?_)
              exact zC ⟨h.1,ih hw h.2⟩
            · cases hu
          · cases hu
      split at hp
      · rename_i k hk
        rw [hk]
        dsimp only
        split at hp
        · cases hp
          rename_i u hj
          exact step hj h
        · cases hp
      · rename_i hk
        rw [hk]
        dsimp only
        split at hp
        · split at hp
          · cases hp
            rename_i u hj
            refine av.mono (av.bind (fw hC.det) (fun S'=>fe hC.det _ _ _)) (step hj h) (fun _ h=>?_)
            exact h
          · cases hp
        · split at hp
          · rename_i b _ _
            unfold nX at hp
            split at hp
            · rename_i v hv
              split at hp
              · rename_i w hw
                cases hp
                refine av.mono (av.bind (fw hC.det) (fun S'=>fe hC.det _ _ _)) (step hv h) (fun S1 h=>?_)
                exact alts hw h
              · cases hp
            · cases hp
          · cases hp
theorem D9 (hC:uv C) {ops:Array Oper} {ws:List Nat}:∀ {n:Nat} {listed:Array Bool} {t:PT} {S:St} {K:St→Prop},wz pl ops ws n listed=some t→oT C A pl ops t none S K→rL C pl ops ws n listed S K
  | 0,listed,t,S,K,hp,h=>xM hC (n:=0) hp h
  | n + 1,listed,t,S,K,hp,h=>by
    unfold wz at hp
    unfold rL
    split at hp
    · rename_i i hi
      rw [hi]
      dsimp only
      split at hp
      · cases hp
        rename_i u hj
        exact av.mono (fw hC.det) (BD hC h) (fun _ h=>D9 hC hj h)
      · cases hp
    · rename_i hi
      rw [hi]
      exact xM hC hp h
theorem D_ (hC:uv C) {ops:Array Oper} {t:PT} {S:St} {K:St→Prop} (hp:uo pl ops=some t) (h:oT C A pl ops t none S K):u7 C pl ops S K:=by
  unfold uo at hp
  unfold u7
  split at hp
  · cases hp
  · rename_i hn
    refine ak hn ?_
    split at hp
    · rename_i hc
      rw [hc]
      exact xM hC hp h
    · rename_i hc
      rw [hc]
      exact D9 hC hp h
theorem pZ:∀ {x y:PT},AS x y=true→x=y
  | .done,.done,_=>rfl
  | .go i t,.go j u,h=>by
    unfold AS at h
    rw [Bool.and_eq_true] at h
    rw [Nat.eq_of_beq_eq_true h.1,pZ h.2]
  | .alt i t r,.alt j u s,h=>by
    unfold AS at h
    rw [Bool.and_eq_true,Bool.and_eq_true] at h
    rw [Nat.eq_of_beq_eq_true h.1,pZ h.2.1,pZ h.2.2]
  | .done,.go _ _,h=>by cases h
  | .done,.alt _ _ _,h=>by cases h
  | .go _ _,.done,h=>by cases h
  | .go _ _,.alt _ _ _,h=>by cases h
  | .alt _ _ _,.done,h=>by cases h
  | .alt _ _ _,.go _ _,h=>by cases h
end
open Go.RowKit (Below)
def ei (P:Program) (c:Code) (S:St) (K:Ex→St→Prop):Prop :=
  ∃ e S',(∀ (r:Option Nat) (G:Gh) (E:Env) (a:Act) (w:World) (Q:Exit→Act→World→Prop),af G pn E S w→TR E S.t a→Dx G (fun e' S''=>e'=e∧S''=S') Q→c.wpIn (rd r) 0 P Q a w)∧K e S'
theorem ei.mono {P:Program} {c:Code} {S:St} {K K':Ex→St→Prop} (h:ei P c S K) (hk:∀ e S',K e S'→K' e S'):ei P c S K' :=
  let ⟨e,S',h1,h2⟩:=h
  ⟨e,S',h1,hk _ _ h2⟩
theorem zD (cfg:ot):uv (ir cfg):=⟨m8 cfg⟩
theorem rC {P:Program} {op:BinOp} {t e:TypeId} {rows:List (List AV)} {E:Env} {u:Value} (hop:GB op=true) (hu:P.underlying t=some (.slice e)) (hx:VR E (.sl rows) u) (w:World) (X Y:Operand) :
    ∃ b,(do eqGuard op t X Y u (.slice none 0 0); binOp op t u (.slice none 0 0):Sem Value).run P w=.ok (.bool b) w∧((b=wy op∧rows=[])∨b=!(wy op)):=by
  have h0:∃ b,(∀ d:Nat,(Op.equalIn (d + 1) t u (.slice none 0 0)).run P w=.ok b w)∧((b=true∧rows=[])∨b=false):=by
    cases hx with
    | sln=>exact ⟨true,fun d=>by unfold Op.equalIn; rw [Sem.run_bind,run_underlying hu]; rfl,.inl ⟨rfl,rfl⟩⟩
    | sle _ a cap=>exact ⟨false,fun d=>by unfold Op.equalIn; rw [Sem.run_bind,run_underlying hu]; rfl,.inr rfl⟩
    | sl us h1 h2 h3 h4 h5 h6 h7=>exact ⟨false,fun d=>by unfold Op.equalIn; rw [Sem.run_bind,run_underlying hu]; rfl,.inr rfl⟩
  obtain ⟨b,hb,hr⟩:=h0
  have hn:Dn u=true:=by cases hx <;> rfl
  have he:(Op.equal t u (.slice none 0 0)).run P w=.ok b w:=qp hb
  rw [iM hn]
  cases op with
  | eql =>
    refine ⟨b,?_,hr⟩
    have:binOp .eql t u (.slice none 0 0)=(do pure (.bool (← Op.equal t u (.slice none 0 0)))):=by cases hx <;> rfl
    simp [this,he]
  | neq =>
    refine ⟨!b,?_,?_⟩
    · have:binOp .neq t u (.slice none 0 0)=(do pure (.bool (!(← Op.equal t u (.slice none 0 0))))):=by cases hx <;> rfl
      simp [this,he]
    · rcases hr with ⟨rfl,hr⟩ | rfl
      · exact .inl ⟨rfl,hr⟩
      · exact .inr rfl
  | _=>cases hop
section
variable {G:Gh} {C:Ctx} {A:dT} {pl:bR}
theorem l5 (hO:uv C) (hC:eh C) {rr:Option Nat} {all:Array Oper} {Q:Exit→Act→World→Prop}:∀ {ops:List Oper} {E:Env} {S:St} {w:World} {a:Act} {K:St→Prop},af G pn E S w→TR E S.t a→xJ C A pl all ops S K →
    (∀ S' E' a' w',K S'→af G pn E' S' w'→TR E' S'.t a'→Q .normal a' w')→wpListIn (rd rr) 0 C.P all Q ops a w
  | [],E,S,w,a,K,hM,ht,h,hQ=>hQ _ _ _ _ h hM ht
  | o::rest,E,S,w,a,K,hM,ht,h,hQ=>by
    have step:∀ {S1:St},af G pn E S1 w→TR E S1.t a→Region.wanted o (yielded all a.tmps)=true→(FT C A pl o S1 fun S'=>xJ C A pl all rest S' K)→wpListIn (rd rr) 0 C.P all Q (o::rest) a w:=by
      intro S1 hM1 ht1 hw h
      unfold wpListIn
      rw [if_pos hw]
      refine v9 (Au (sk hO h)) (qz hC hM1 ht1 (sk hO h) _ _ (fun S' E' a' w' hk hS htr=>?_))
      exact l5 hO hC hS htr hk hQ
    unfold xJ at h
    split at h
    · rename_i hg
      have hw:Region.wanted o (yielded all a.tmps)=true:=by unfold Region.wanted; rw [hg]
      split at h
      · unfold wpListIn
        rw [if_pos hw]
        unfold FU at h
        split at h
        · rename_i op t x yt ho
          split at h
          · rename_i e hu
            obtain ⟨c,h,hc⟩:=dk h ht
            split at h
            · rename_i rows
              obtain ⟨hop,h1,h2⟩:=ab h
              obtain ⟨b,hrun,hbr⟩:=rC hop hu hc w x (.const (.slice none 0 0))
              have hex:(execOp a.eval o).run C.P w=.ok (.value (.bool b)) w:=by
                have:(execOp a.eval o)=(do pure (.value (← (do eqGuard op t x (.const (.slice none 0 0)) (a.eval x) (.slice none 0 0); binOp op t (a.eval x) (.slice none 0 0):Sem Value)))):=by
                  unfold execOp
                  rw [ho]
                  simp [Act.eval]
                rw [this,Sem.run_bind,hrun]
                rfl
              refine v9 (fun c hc=>by rw [ho] at hc; cases hc) (dG hex ?_)
              have h3:bJ o.dst (.v (.bool b)) S fun S'=>xJ C A pl all rest S' K:=by
                rcases hbr with ⟨rfl,hr⟩ | rfl
                · exact h1 hr
                · exact h2
              rw [aD] at h3
              exact l5 hO hC (hM.congr cE cF cN) (ht.put (.v _ _ rfl)) h3 hQ
            · exact False.elim h
          · exact False.elim h
        · exact False.elim h
      · exact step hM ht hw h
    · rename_i j want hg
      split at h
      · exact False.elim h
      · rename_i d hd
        obtain ⟨b,S1,h,hb,hM1,ht1⟩:=jG hM ht h
        rcases kG hg (lQ hd hb) h with ⟨hw,h⟩ | ⟨hw,h⟩
        · exact step hM1 ht1 hw h
        · rw [aD] at h
          unfold wpListIn
          rw [if_neg (by rw [hw]; exact fun h=>by cases h)]
          exact ⟨fun _ _=>trivial,l5 hO hC (hM1.congr cE cF cN) (ht1.put (pJ _)) h hQ⟩
end
theorem zE {A:Gw} {id:Nat} {S:St} {K:St→Prop} (h:Ct A id S K):∃ S',dV S S'∧K S':=by
  unfold Ct at h
  split at h
  · exact kL h
  · exact ⟨S,.refl S,h⟩
theorem zF {cfg:ot} (hmix:cfg.P.follows .mixedOrders=true) {A:Gw} {pl:bR}:∀ (c:Code) {S:St} {K:Ex→St→Prop},jq pl A.ord c=true→uq (ir cfg) (ei cfg.P) A pl c S K →
    ∀ (r:Option Nat) (G:Gh) (E:Env) (a:Act) (w:World) (Q:Exit→Act→World→Prop),af G pn E S w→TR E S.t a→Dx G K Q→c.wpIn (rd r) 0 cfg.P Q a w:=by
  have hC:=zD cfg
  intro c
  induction c with
  | skip=>exact fun _ h r G E a w Q hM ht hQ=>wpIn_skip (hQ .nrm _ E _ _ h hM ht)
  | region id ops draw =>
    intro S K hB h r G E a w Q hM ht hQ
    cases draw with
    | false =>
      refine wpIn_region_list (l5 hC (jO cfg) hM ht h (fun S' E' a' w' hk hS htr=>?_))
      obtain ⟨S3,E3,hk,hS,htr⟩:=kF hS htr (uz hk)
      obtain ⟨S2,hw,hk⟩:=zE hk
      obtain ⟨E2,hM2,ht2⟩:=hw G E3 a' w' hS htr
      exact hQ .nrm _ _ _ _ hk hM2 ht2
    | true =>
      refine lu hmix pl id ops S (fun e S'=>e=.nrm∧Ct A id S' (K .nrm)) ?_ r G E a w Q hM ht (fun e S' E' a' w' hk hS htr=>?_)
      · unfold jq at hB
        have h':(match pf A.ord id with
        | some is=>bK (qZ pl ops) (u9 (ir cfg).P (cw ops.toList) S fun S1=>oT (ir cfg) (Cs A id) pl ops is none S1 fun S'=>jX (cw ops.toList) S' (ul (Cs A id) pl id S' fun S''=>Ct A id S'' (K .nrm)))
        | none=>ae 440):=h
        split at hB
        · rename_i is js h1 h2
          rw [h1] at h'
          dsimp only at h'
          obtain ⟨h3,h'⟩:=ab h'
          refine ak h3 ?_
          refine av.mono tA h' (fun S1 h=>?_)
          rw [pZ hB] at h
          refine av.mono (tE hC.det) (D_ hC h2 h) (fun S' h=>?_)
          obtain ⟨h4,h5⟩:=lq h
          exact h5 _ (av.mono nv (uz h4) (fun S'' h=>⟨rfl,h⟩))
        · cases hB
      · obtain ⟨rfl,hk⟩:=hk
        obtain ⟨S2,hw,hk⟩:=zE hk
        obtain ⟨E2,hM2,ht2⟩:=hw G E' a' w' hS htr
        exact hQ .nrm _ _ _ _ hk hM2 ht2
  | seq x y ihx ihy =>
    intro S K hB h r G E a w Q hM ht hQ
    unfold jq at hB
    rw [Bool.and_eq_true] at hB
    refine wpIn_seq (ihx hB.1 h r G E a w _ hM ht (fun e S' E' a' w' hk hS htr=>?_))
    cases e with
    | nrm =>
      dsimp only at hk
      split at hk
      · obtain ⟨S2,h1,⟨e2,S3,h2,h3,h4⟩,h5⟩:=kL hk
        subst h3 h4
        obtain ⟨E2,hM2,ht2⟩:=((nz _ _).trans h1) G E' a' w' hS htr
        refine h2 r G E2 a' w' Q hM2 ht2 (fun e' S'' E'' a'' w'' he hS' ht'=>?_)
        obtain ⟨rfl,rfl⟩:=he
        exact hQ _ _ _ _ _ h5 hS' ht'
      · exact ihy hB.2 hk r G E' a' w' Q hS htr hQ
    | ex i=>exact hQ (.ex i) _ _ _ _ hk hS htr
    | ret=>exact hQ .ret _ _ _ _ hk hS htr
  | cond c x y ihx ihy =>
    intro S K hB h r G E a w Q hM ht hQ
    unfold jq at hB
    rw [Bool.and_eq_true] at hB
    obtain ⟨b,S1,h1,h2,h3,h4⟩:=mU hM ht h
    cases b with
    | true=>exact wpIn_cond_true h2 (ihx hB.1 h1 r G E a w Q h3 h4 hQ)
    | false=>exact wpIn_cond_false h2 (ihy hB.2 h1 r G E a w Q h3 h4 hQ)
  | block id c ih =>
    intro S K hB h r G E a w Q hM ht hQ
    refine wpIn_block (ih hB h r G E a w _ hM ht (fun e S' E' a' w' hk hS htr=>?_))
    cases e with
    | nrm=>exact hQ .nrm _ _ _ _ hk hS htr
    | ret=>exact hQ .ret _ _ _ _ hk hS htr
    | ex i =>
      show Exit.inBlock id Q (.exit i) a' w'
      unfold Exit.inBlock
      dsimp only at hk
      split at hk
      · rename_i hb
        have:=Nat.eq_of_beq_eq_true hb
        subst this
        simp only [if_pos]
        exact hQ .nrm _ _ _ _ hk hS htr
      · rename_i hb
        have hne:¬ i=id:=fun e=>by subst e; simp at hb
        simp only [if_neg hne]
        exact hQ (.ex i) _ _ _ _ hk hS htr
  | loop c ih =>
    intro S K hB h r G E a w Q hM ht hQ
    have h':(match pf A.lps (nY c) with
    | some (W,L,e,S1)=>DU L (wk W S) fun S2=>((ir cfg).loop pl c S2 fun e' S'=>e'=e∧S'=S1)∧K e S1
    | none=>(ir cfg).loop pl c S K):=h
    split at h'
    · obtain ⟨S2,h1,h2,h3⟩:=kL h'
      obtain ⟨E2,hM2,ht2⟩:=((nz _ _).trans h1) G E a w hM ht
      refine jP cfg pl c S2 _ h2 r G E2 a w Q hM2 ht2 (fun e' S'' E'' a'' w'' he hS' ht'=>?_)
      obtain ⟨rfl,rfl⟩:=he
      exact hQ _ _ _ _ _ h3 hS' ht'
    · exact jP cfg pl c S K h' r G E a w Q hM ht hQ
  | exit id=>exact fun _ h r G E a w Q hM ht hQ=>wpIn_exit (hQ (.ex id) _ E _ _ h hM ht)
  | ret=>exact fun _ h r G E a w Q hM ht hQ=>wpIn_ret (hQ .ret _ E _ _ h hM ht)
  | _=>exact fun _ h=>False.elim h
theorem ei.of {cfg:ot} (hmix:cfg.P.follows .mixedOrders=true) {pl:bR} {c:Code} {S S1:St} {e:Ex} {K:Ex→St→Prop} {A:Gw} {we:List (Nat×(Wk×Le))} (hB:jq pl A.ord c=true)
    (h:GD (ir cfg) (ei cfg.P) A pl we c S (fun e' S'=>e'=e∧S'=S1)) (hk:K e S1):ei cfg.P c S K:=by
  refine ⟨e,S1,fun r G E a w Q hM ht hQ=>?_,hk⟩
  refine zF hmix c hB h r G E a w Q hM ht (fun e' S' E' a' w' hk hS htr=>?_)
  dsimp only at hk
  split at hk
  · obtain ⟨S2,h1,rfl,rfl⟩:=kL hk
    obtain ⟨E2,hM2,ht2⟩:=((nz _ _).trans h1) G E' a' w' hS htr
    exact hQ _ _ _ _ _ ⟨rfl,rfl⟩ hM2 ht2
  · obtain ⟨rfl,rfl⟩:=hk
    exact hQ _ _ _ _ _ ⟨rfl,rfl⟩ hS htr
theorem iF.round {cfg:ot} {pl:bR} {c:Code} {S:St} {K:Ex→St→Prop}
    (h:ei cfg.P c S fun e S'=>match e with
      | .nrm=>iF cfg.P pl c S' K
      | .ex i=>K (.ex i) S'
      | .ret=>K .ret S'):iF cfg.P pl c S K:=by
  obtain ⟨e1,S1,h2,h1⟩:=h
  have run:∀ (e:Ex) (S3:St) (n:Nat),(∀ (r:Option Nat) (G:Gh) (E:Env) (a:Act) (w:World) (Q:Exit→Act→World→Prop),af G pn E S1 w→TR E S1.t a→Dx G (fun e' S''=>e'=e∧S''=S3) Q→Exit.then (Code.roundsIn (rd r) 0 cfg.P c Q n) Q (EY e1) a w) →
      ∀ (r:Option Nat) (G:Gh) (E:Env) (a:Act) (w:World) (Q:Exit→Act→World→Prop),af G pn E S w→TR E S.t a→Dx G (fun e' S''=>e'=e∧S''=S3) Q→Code.roundsIn (rd r) 0 cfg.P c Q (n + 1) a w:=by
    intro e S3 n hn r G E a w Q hM ht hQ
    refine h2 r G E a w _ hM ht (fun e' S' E' a' w' hk hS htr=>?_)
    obtain ⟨rfl,rfl⟩:=hk
    exact hn r G E' a' w' Q hS htr hQ
  cases e1 with
  | nrm =>
    obtain ⟨n,e,S',hl,hk⟩:=h1
    exact ⟨n + 1,e,S',run e S' n (fun r G E a w Q hM ht hQ=>hl r G E a w Q hM ht hQ),hk⟩
  | ex i=>exact ⟨1,.ex i,S1,run _ _ 0 (fun r G E a w Q hM ht hQ=>hQ _ _ _ _ _ ⟨rfl,rfl⟩ hM ht),h1⟩
  | ret=>exact ⟨1,.ret,S1,run _ _ 0 (fun r G E a w Q hM ht hQ=>hQ _ _ _ _ _ ⟨rfl,rfl⟩ hM ht),h1⟩
def rk {σ τ:Type} (Sf:σ→St) (out:τ→Ex×St) (r:σ⊕τ) (e:Ex) (S':St):Prop :=
  match r with
  | .inl s'=>e=.nrm∧S'=Sf s'
  | .inr t=>e≠.nrm∧e=(out t).1∧S'=(out t).2
theorem K9 {σ τ:Type} {Sf:σ→St} {out:τ→Ex×St} {s:σ}:rk Sf out (.inl s) .nrm (Sf s):=⟨rfl,rfl⟩
def pk {τ:Type} (out:τ→Ex×St) (t:τ) (e:Ex) (S':St):Prop:=e=(out t).1∧S'=(out t).2
theorem iF.iter {cfg:ot} {pl:bR} {c:Code} {σ τ:Type} {step:σ→Option (σ⊕τ)} (Sf:σ→St) (out:τ→Ex×St)
    (hs:∀ s r,step s=some r→ei cfg.P c (Sf s) (rk Sf out r)):∀ (n:Nat) (s:σ) (t:τ),A.iter step n s=some t→iF cfg.P pl c (Sf s) fun e S'=>e=(out t).1∧S'=(out t).2
  | 0,s,t,h=>by cases h
  | n + 1,s,t,h=>by
    unfold A.iter at h
    split at h
    · cases h
    · rename_i s' hs'
      refine iF.round ((hs s _ hs').mono fun e S' h1=>?_)
      obtain ⟨rfl,rfl⟩:=h1
      exact iF.iter Sf out hs n s' t h
    · rename_i t' ht'
      cases h
      refine iF.round ((hs s _ ht').mono fun e S' h1=>?_)
      obtain ⟨h0,h1,h2⟩:=h1
      cases e with
      | nrm=>exact absurd rfl h0
      | ex i=>exact ⟨h1,h2⟩
      | ret=>exact ⟨h1,h2⟩
theorem eO.le {P:Program} {f:Nat} {as as':List AV} {K:AV→Prop} (h:eO P f as' K) (hl:cM as as'):eO P f as K:=by
  obtain ⟨r,⟨h1,h2⟩,h3⟩:=h
  exact ⟨r,⟨h1,fun F w us hF hg hv=>h2 F w us hF hg (hl.vrs hv)⟩,h3⟩
theorem eO.to {P:Program} {f:Nat} {as:List AV} {r:AV} (h:eO P f as fun x=>cR x r):eO P f as fun x=>x=r:=by
  obtain ⟨x,⟨h1,h2⟩,h3⟩:=h
  refine ⟨r,⟨h1,fun F w us hF hg hv=>(h2 F w us hF hg hv).mono ?_⟩,rfl⟩
  rintro e w' ⟨v,F',h4,h5,h6⟩
  exact ⟨v,F',h4,h3 _ _ h5,h6⟩
def b8 (k:IntKind) (x:Int):AV:=.v (.int k x)
def HA (x:Bool):AV:=.v (.bool x)
def kq {α:Type} (f:α→List AV) (x:α):AV:=.agg (f x)
def ac (k:IntKind) (x:Int):List AV:=[.v (.int k x)]
def iu (x:Bool):List AV:=[.v (.bool x)]
def i4 {α:Type} (f:α→List AV) (l:List α):List AV:=[.sl (l.map f)]
def jz {α β:Type} (f:α→AV) (g:β→AV) (e:α×β):AV×AV:=(f e.1,g e.2)
theorem xN {k:IntKind} {a b:Int} (h:(a==b)=true):AV.v (.int k a)=AV.v (.int k b):=by rw [eq_of_beq h]
theorem kr {i:Nat}:Ex.ex i≠Ex.nrm:=fun h=>by cases h
theorem CF:Ex.ret≠Ex.nrm:=fun h=>by cases h
theorem Ff {α:Type} (f:α→List AV) (l:List α):AV.v (.int .i64 (((l.map f).length:Nat):Int))=AV.v (.int .i64 (l.length:Int)):=by rw [List.length_map]
theorem Ea {α:Type} (f:α→List AV) {l:List α} {i:Int} {x:α} (h:aH l i=some x):FO (l.map f) i=some (f x):=by
  unfold aH at h
  unfold FO
  split
  · rename_i h0
    rw [if_pos h0] at h
    rw [List.getElem?_map,h]
    rfl
  · rename_i h0
    rw [if_neg h0] at h
    cases h
theorem bh {α:Type} (f:α→List AV) {l:List α} {i:Int} {x:α} (h:aH l i=some x):(l.map f)[i.toNat]?=some (f x):=by
  unfold aH at h
  split at h
  · rw [List.getElem?_map,h]
    rfl
  · cases h
theorem Eb {α:Type} (f:α→List AV) (l:List α) {sz:Nat} (hf:∀ x,Nat.beq (f x).length sz=true):lD sz (l.map f)=true:=by
  cases l with
  | nil=>rfl
  | cons x l=>exact hf x
theorem A4 {α:Type} (f:α→List AV) (l:List α) (hf:∀ x,(f x).all kQ=true):eb (l.map f)=true:=by
  unfold eb
  rw [List.all_eq_true]
  intro r hr
  obtain ⟨x,_,rfl⟩:=List.mem_map.1 hr
  exact hf x
theorem nC {α:Type} (f:α→List AV) (l m:List α):l.map f++m.map f=(l++m).map f:=List.map_append.symm
theorem bj {α:Type} (f:α→List AV) (l:List α) (i:Nat) (x:α):(l.map f).set i (f x)=(l.set i x).map f:=(List.map_set).symm
theorem xO {α:Type} (f:α→List AV) (n:Nat) (x:α):List.replicate n (f x)=(List.replicate n x).map f:=List.map_replicate.symm
theorem Fg {α:Type} (f:α→List AV) (l:List α) (i off a b:Nat):AV.msl i off (a + (l.map f).length) (b - (l.map f).length)=AV.msl i off (a + l.length) (b - l.length):=by rw [List.length_map]
theorem Fh {α:Type} (f:α→List AV) (l m:List α) (a:Nat):(l.map f).take a++(m.map f++(l.map f).drop (a + (m.map f).length))=(l.take a++(m++l.drop (a + m.length))).map f:=by
  rw [List.length_map,List.map_append,List.map_append,List.map_take,List.map_drop]
theorem CG {α:Type} {f:α→List AV} {l:List α} {k:Nat} (h:Nat.ble l.length k=true):Nat.ble (l.map f).length k=true:=by rw [List.length_map]; exact h
theorem CH {α:Type} {f:α→List AV} {l:List α} {k:Nat} (h:Nat.ble k l.length=true):Nat.ble k (l.map f).length=true:=by rw [List.length_map]; exact h
theorem HB {α:Type} (f:α→List AV) (l:List α) (a b:Nat):AV.sl (((l.map f).drop a).take b)=AV.sl (((l.drop a).take b).map f):=by rw [List.map_take,List.map_drop]
theorem GE {α:Type} (f:α→List AV) (l:List α) (a b:Nat):cR (.sl (((l.map f).drop a).take b)) (.sl (((l.drop a).take b).map f)):=by rw [HB]; exact cR.refl _
theorem Fi {α:Type} (f:α→List AV) {l:List α} (h:l.map f=[]):cR .nilsl (.sl (l.map f)):=by rw [h]; exact cR.nil
theorem GF {α:Type} (f:α→List AV) (n:Nat) {z:List AV} {x:α} (h:cM z (f x)):g0 (List.replicate n z) ((List.replicate n x).map f):=by
  rw [List.map_replicate]
  refine ⟨by simp,fun i a b h1 h2=>?_⟩
  rw [List.getElem?_replicate] at h1 h2
  split at h1
  · cases h1
    rename_i hi
    rw [if_pos hi] at h2
    cases h2
    exact h
  · cases h1
theorem Fj (n i off a b:Nat) (z:List AV):AV.msl i off a ((List.replicate n z).length - b)=AV.msl i off a (n - b):=by rw [List.length_replicate]
theorem xP {α:Type} {f:α→List AV} {l:List α} {k m:Nat} (h:Nat.ble (l.length * k) m=true):Nat.ble ((l.map f).length * k) m=true:=by rw [List.length_map]; exact h
theorem lv {α:Type} {f:α→List AV} {l:List α} {k m n:Nat} (h:Nat.ble ((l.length + n) * k) m=true):Nat.ble (((l.map f).length + n) * k) m=true:=by rw [List.length_map]; exact h
theorem CI {α:Type} {f:α→List AV} {l l':List α} {k m:Nat} (h:Nat.ble ((l.length + l'.length) * k) m=true):Nat.ble (((l.map f).length + (l'.map f).length) * k) m=true:=by rw [List.length_map,List.length_map]; exact h
section
variable {α:Type} (f:α→List AV)
end
theorem l6 {α:Type} {P:Program} (c:Prop) [Decidable c] (x y:Sem α):aw P (if c then x else y)=if c then aw P x else aw P y:=by
  split <;> rfl
def GG (f:Nat→Option Bool):List Nat→Option Bool
  | []=>some true
  | i::is=>match f i with
    | some e=>match GG f is with
      | some s=>some (e&&s)
      | none=>none
    | none=>none
def BE (P:Program):Nat→TypeId→Value→Value→Option Bool
  | 0,_,_,_=>none
  | n + 1,t,x,y =>
    match P.underlying t,x,y with
    | some .bool,.bool a,.bool b=>some (a==b)
    | some (.int _),.int k a,.int k' b=>if k=k' then some (a==b) else none
    | some .string,.string a,.string b=>some (a.toList==b.toList)
    | some (.struct fs),.agg xs,.agg ys=>match P.stoodInHeld t with
      | true=>none
      | false => fs.toList.foldr (fun f (r : Option Bool × Bool) => match f.name == "_", aw P (part f.type xs f.offset), aw P (part f.type ys f.offset) with
          | false,some a,some b=>match BE P n f.type a b,r with
            | some e,(_,false)=>(some e,true)
            | some e,(some s,true)=>(some (e&&s),true)
            | _,_=>(none,true)
          | _,_,_=>(none,true)) (some true,false) |>.1
    | some (.array len e),.agg xs,.agg ys=>match aw P (sizeOf e) with
      | some m=>GG (fun i=>match aw P (part e xs (i * m)),aw P (part e ys (i * m)) with
        | some a,some b=>BE P n e a b
        | _,_=>none) (List.range' 0 len)
      | none=>none
    | _,_,_=>none
theorem fm {P:Program} {t:TypeId} {d:TypeDesc} (h:P.underlying t=some d):aw P (underlying t)=some d:=by
  unfold underlying
  simp [aO,program,aw,h]
  rfl
theorem CJ {P:Program} {t:TypeId} {fs:Array Field} {xs ys:Array Value} {d:Nat} (ht:P.underlying t=some (.struct fs)) (hp:P.stoodInHeld t=false) :
    aw P (Op.equalIn (d + 1) t (.agg xs) (.agg ys))=aw P (Op.eqFields d xs ys fs.toList):=by
  simp only [Op.equalIn,aO,fm ht,Option.bind_some]
  have hprog:aw P program=some P:=rfl
  simp only [aO,hprog,Option.bind_some,hp,Bool.false_eq_true,if_false]
  rw [← Array.forIn_toList]
  generalize fs.toList=l
  clear ht
  induction l with
  | nil=>rfl
  | cons f l ih =>
    simp only [List.forIn_cons,Op.eqFields,aO,l6]
    split
    · try simp only [aO]
      generalize aw P (part f.type xs f.offset)=r1
      cases r1 with
      | none=>rfl
      | some a =>
        simp only [Option.bind_some]
        generalize aw P (part f.type ys f.offset)=r2
        cases r2 with
        | none=>rfl
        | some b =>
          simp only [Option.bind_some]
          generalize aw P (Op.equalIn d f.type a b)=r3
          cases r3 with
          | none=>rfl
          | some r =>
            cases r
            · rfl
            · simp only [Option.bind_some]
              exact ih
    · exact ih
def sn (d:Nat) (e:TypeId) (m:Nat) (xs ys:Array Value):List Nat→Sem Bool
  | []=>pure true
  | i::is=>do
    if !(← Op.equalIn d e (← part e xs (i * m)) (← part e ys (i * m))) then return false
    sn d e m xs ys is
theorem Ec {P:Program} {t e:TypeId} {len m:Nat} {xs ys:Array Value} {d:Nat} (ht:P.underlying t=some (.array len e)) (hm:aw P (sizeOf e)=some m) :
    aw P (Op.equalIn (d + 1) t (.agg xs) (.agg ys))=aw P (sn d e m xs ys (List.range' 0 len)):=by
  simp only [Op.equalIn,aO,fm ht,Option.bind_some,hm]
  simp only [Std.Legacy.Range.forIn_eq_forIn_range',Std.Legacy.Range.size,Nat.sub_zero,Nat.add_one_sub_one,Nat.div_one]
  generalize List.range' 0 len=l
  clear ht
  induction l with
  | nil=>rfl
  | cons i l ih =>
    simp only [List.forIn_cons,sn,aO,l6]
    generalize aw P (part e xs (i * m))=r1
    cases r1 with
    | none=>rfl
    | some a =>
      simp only [Option.bind_some]
      generalize aw P (part e ys (i * m))=r2
      cases r2 with
      | none=>rfl
      | some b =>
        simp only [Option.bind_some]
        generalize aw P (Op.equalIn d e a b)=r3
        cases r3 with
        | none=>rfl
        | some r =>
          cases r
          · rfl
          · simp only [Option.bind_some]
            exact ih
theorem lw {P:Program}:∀ (n d:Nat) {t:TypeId} {x y:Value} {b:Bool},n≤d→BE P n t x y=some b→aw P (Op.equalIn d t x y)=some b
  | 0,_,_,_,_,_,_,h=>by cases h
  | n + 1,0,_,_,_,_,hd,_=>by omega
  | n + 1,d + 1,t,x,y,b,hd,h=>by
    unfold BE at h
    split at h
    · rename_i hu
      cases h
      simp only [Op.equalIn,aO,fm hu,Option.bind_some]
      rfl
    · rename_i hu
      split at h
      · rename_i hk
        cases h
        simp only [Op.equalIn,aO,fm hu,Option.bind_some]
        rw [if_pos hk]
        rfl
      · cases h
    · rename_i hu
      cases h
      simp only [Op.equalIn,aO,fm hu,Option.bind_some,← beq_toListBytes]
      rfl
    · rename_i fs xs ys hu
      split at h
      · cases h
      · rename_i hp
        rw [CJ hu hp]
        have key : ∀ (l : List Field) (r : Option Bool) (m : Bool), l.foldr (fun f (r : Option Bool × Bool) => match f.name == "_", aw P (part f.type xs f.offset), aw P (part f.type ys f.offset) with
          | false,some a,some b=>match BE P n f.type a b,r with
            | some e,(_,false)=>(some e,true)
            | some e,(some s,true)=>(some (e&&s),true)
            | _,_=>(none,true)
          | _,_,_=>(none,true)) (some true,false)=(r,m)→(m=false→l=[])∧∀ b,r=some b→aw P (Op.eqFields d xs ys l)=some b:=by
          intro l
          induction l with
          | nil =>
            intro r m h
            cases h
            exact ⟨fun _=>rfl,fun b hb=>by cases hb; rfl⟩
          | cons f l ih =>
            intro r m h
            rw [List.foldr_cons] at h
            generalize hq:(l.foldr _ (some true,false):Option Bool×Bool)=q at h
            obtain ⟨r',m'⟩:=q
            obtain ⟨ih1,ih2⟩:=ih r' m' hq
            split at h
            · rename_i a b hn ha hb
              have hn' : f.name ≠ "_" := by simpa using hn
              have step:∀ e,BE P n f.type a b=some e→aw P (Op.eqFields d xs ys (f::l))=match e with | true=>aw P (Op.eqFields d xs ys l) | false=>some false:=by
                intro e he
                simp only [Op.eqFields]
                rw [if_pos hn']
                simp only [aO,ha,hb,Option.bind_some,lw n d (by omega) he]
                cases e <;> rfl
              cases hv:BE P n f.type a b with
              | none =>
                rw [hv] at h
                cases h
                exact ⟨fun h=>(by cases h),fun b' hb'=>(by cases hb')⟩
              | some e =>
                rw [hv] at h
                cases m' with
                | false =>
                  cases h
                  refine ⟨fun h=>(by cases h),fun b' hb'=>?_⟩
                  cases hb'
                  rw [step e hv,ih1 rfl]
                  cases e <;> rfl
                | true =>
                  cases r' with
                  | none =>
                    cases h
                    exact ⟨fun h=>(by cases h),fun b' hb'=>(by cases hb')⟩
                  | some s =>
                    cases h
                    refine ⟨fun h=>(by cases h),fun b' hb'=>?_⟩
                    cases hb'
                    rw [step e hv,ih2 s rfl]
                    cases e <;> rfl
            · cases h
              exact ⟨fun h=>(by cases h),fun b' hb'=>(by cases hb')⟩
        generalize hq:(fs.toList.foldr _ (some true,false):Option Bool×Bool)=q at h
        obtain ⟨r,m⟩:=q
        exact (key _ r m hq).2 b h
    · rename_i len e xs ys hu
      split at h
      · rename_i m hm
        rw [Ec hu hm]
        generalize List.range' 0 len=l at h ⊢
        induction l generalizing b with
        | nil =>
          cases h
          rfl
        | cons i l ih =>
          unfold GG at h
          split at h
          · rename_i c hc
            split at hc
            · rename_i u v h1 h2
              split at h
              · rename_i s hs
                cases h
                simp only [sn,aO,h1,h2,Option.bind_some,lw n d (by omega) hc]
                cases c
                · rfl
                · exact ih _ hs
              · cases h
            · cases hc
          · cases h
      · cases h
    · cases h
theorem CK {P:Program} {t:TypeId} {xs ys:List Value} {b:Bool} (hg:P.eqGuardType P.depth t=false) (h:BE P 16 t (.agg xs.toArray) (.agg ys.toArray)=some b):li P .eql t xs ys=some (.bool b):=by
  unfold li
  have h1:aw P (eqGuard .eql t (.tmp 0) (.tmp 0) (.agg xs.toArray) (.agg ys.toArray))=some ():=by
    simp [eqGuard,aO,program,aw,hg]
    rfl
  have h2:aw P (binOp .eql t (.agg xs.toArray) (.agg ys.toArray))=some (.bool b):=by
    have:=lw (P:=P) 16 10000 (by omega) h
    simp only [binOp,Op.equal,Op.maxDepth]
    rw [aO,this]
    rfl
  rw [aO,h1]
  exact h2
theorem CL {P:Program} {t:TypeId} {xs ys:List Value} {b:Bool} (hg:P.eqGuardType P.depth t=false) (h:BE P 16 t (.agg xs.toArray) (.agg ys.toArray)=some b):li P .neq t xs ys=some (.bool (!b)):=by
  unfold li
  have h1:aw P (eqGuard .neq t (.tmp 0) (.tmp 0) (.agg xs.toArray) (.agg ys.toArray))=some ():=by
    simp [eqGuard,aO,program,aw,hg]
    rfl
  have h2:aw P (binOp .neq t (.agg xs.toArray) (.agg ys.toArray))=some (.bool (!b)):=by
    have:=lw (P:=P) 16 10000 (by omega) h
    simp only [binOp,Op.equal,Op.maxDepth]
    rw [aO,this]
    rfl
  rw [aO,h1]
  exact h2
structure zG (P:Program) (kt:TypeId) {κ:Type} (kf:κ→AV) (kv:κ→Value) (beq:κ→κ→Bool):Prop where
  tok:∀ k,sN (kf k)=some (kv k)
  eqv:∀ a b,BE P 16 kt (kv a) (kv b)=some (beq a b)
  chk:∀ e k,aw P (Instr.checkKey e 10000 kt (kv k))=some ()
  sam:∀ a b,beq a b=true→Instr.sameBits 10000 (kv b) (kv a)=true
def xQ:List Bool→Nat→Option Nat
  | [],_=>none
  | true::_,i=>some i
  | false::bs,i=>xQ bs (i + 1)
theorem uB {P:Program} {kt:TypeId} {x:Value}:∀ {es:List MapEntry} {bs:List Bool} {i:Nat},es.length=bs.length→(∀ (j:Nat) (e:MapEntry) (b:Bool),es[j]?=some e→bs[j]?=some b→BE P 16 kt x e.key=some b) →
    ∃ r,aw P (Instr.findAsking kt x es i)=some r∧r.map (·.1)=xQ bs i
  | [],[],i,_,_=>⟨none,rfl,rfl⟩
  | [],_::_,_,h,_=>by simp at h
  | _::_,[],_,h,_=>by simp at h
  | e::es,b::bs,i,hl,hv=>by
    have h0:=lw (P:=P) 16 10000 (by omega) (hv 0 e b rfl rfl)
    unfold Instr.findAsking
    rw [aO]
    have h1:aw P (Op.equal kt x e.key)=some b:=h0
    rw [h1,Option.bind_some,l6]
    cases b with
    | true=>exact ⟨some (i,e.val),rfl,rfl⟩
    | false=>exact uB (es:=es) (bs:=bs) (i:=i + 1) (by simpa using hl) (fun j e' b' h2 h3=>hv (j + 1) e' b' (by simpa using h2) (by simpa using h3))
theorem BF {P:Program} {kt:TypeId} {x:Value} {d:TypeDesc} (hd:P.underlying kt=some d):∀ {es:List MapEntry} {bs:List Bool} {i:Nat} {r:Option (Nat×Value)},es.length=bs.length→(∀ (j:Nat) (e:MapEntry) (b:Bool),es[j]?=some e→bs[j]?=some b→BE P 16 kt x e.key=some b) →
    Instr.findNow d x es i=some r→r.map (·.1)=xQ bs i
  | [],[],i,r,_,_,h=>by cases h; rfl
  | [],_::_,_,_,h,_,_=>by simp at h
  | _::_,[],_,_,h,_,_=>by simp at h
  | e::es,b::bs,i,r,hl,hv,h=>by
    have h0:=hv 0 e b rfl rfl
    have hs:∀ c,Instr.sameNow d x e.key=some c→c=b:=by
      intro c hc
      unfold BE at h0
      rw [hd] at h0
      generalize e.key=y at h0 hc
      unfold Instr.sameNow at hc
      split at hc
      · dsimp only at h0
        split at hc
        · rename_i hk
          rw [if_pos hk] at h0
          rw [hc] at h0
          exact Option.some.inj h0
        · cases hc
      · dsimp only at h0
        rw [beq_toListBytes] at hc
        rw [hc] at h0
        exact Option.some.inj h0
      · dsimp only at h0
        rw [hc] at h0
        exact Option.some.inj h0
      · cases hc
    unfold Instr.findNow at h
    split at h
    · rename_i hc
      cases h
      rw [← hs _ hc]
      rfl
    · rename_i hc
      rw [← hs _ hc]
      exact BF hd (es:=es) (bs:=bs) (i:=i + 1) (by simpa using hl) (fun j e' b' h2 h3=>hv (j + 1) e' b' (by simpa using h2) (by simpa using h3)) h
    · cases h
theorem Fl {P:Program} {kt:TypeId} {x:Value} {es:List MapEntry} {bs:List Bool} {d:TypeDesc} (hd:P.underlying kt=some d) (hl:es.length=bs.length) (hv:∀ (j:Nat) (e:MapEntry) (b:Bool),es[j]?=some e→bs[j]?=some b→BE P 16 kt x e.key=some b) :
    ∃ r,aw P (Instr.findKey kt x es)=some r∧r.map (·.1)=xQ bs 0:=by
  unfold Instr.findKey
  rw [aO,fm hd,Option.bind_some]
  split
  · rename_i r hr
    exact ⟨r,rfl,BF hd hl hv hr⟩
  · exact uB hl hv
theorem uC {κ β:Type} {kf:κ→AV} {kv:κ→Value} {vf:β→AV} (ht:∀ k,sN (kf k)=some (kv k)):∀ l:List (κ×β),keysOf (l.map (jz kf vf))=some (l.map fun e=>({ key:=kv e.1,val:=.bool false,born:=0 }:MapEntry))
  | []=>rfl
  | e::l=>by
    show (match sN (kf e.1),keysOf (l.map (jz kf vf)) with
      | some x,some xs=>some (({ key:=x,val:=.bool false,born:=0 }:MapEntry)::xs)
      | _,_=>none)=_
    rw [ht,uC ht l]
    rfl
theorem wD {P:Program} {kt:TypeId} {κ β:Type} {kf:κ→AV} {kv:κ→Value} {beq:κ→κ→Bool} {vf:β→AV} (hd:(P.underlying kt).isSome=true) (hk:zG P kt kf kv beq) (l:List (κ×β)) (k:κ) {K:Value→Option Nat→Prop}
    (h:K (kv k) (xQ (l.map fun e=>beq k e.1) 0)):gQ P kt (kf k) (l.map (jz kf vf)) K:=by
  obtain ⟨d,hd⟩:=Option.isSome_iff_exists.1 hd
  unfold gQ
  rw [hk.tok,uC hk.tok]
  dsimp only
  rw [hk.chk]
  obtain ⟨r,h1,h2⟩:=Fl (P:=P) (x:=kv k) (es:=l.map fun e=>({ key:=kv e.1,val:=.bool false,born:=0 }:MapEntry)) (bs:=l.map fun e=>beq k e.1) hd (by simp) (fun j e b h1 h2=>by
    rw [List.getElem?_map,Option.map_eq_some_iff] at h1 h2
    obtain ⟨x,h3,rfl⟩:=h1
    obtain ⟨y,h4,rfl⟩:=h2
    rw [h3] at h4
    cases h4
    exact hk.eqv _ _)
  rw [h1]
  dsimp only
  rw [h2]
  exact h
theorem p0 {κ β:Type} {beq:κ→κ→Bool} {k:κ}:∀ (l:List (κ×β)) (i:Nat),(xQ (l.map fun e=>beq k e.1) i=none∧b9 beq l k=none)∨∃ j e,xQ (l.map fun e=>beq k e.1) i=some (i + j)∧l[j]?=some e∧beq k e.1=true∧b9 beq l k=some e.2
  | [],i=>.inl ⟨rfl,rfl⟩
  | e::l,i=>by
    rw [List.map_cons]
    cases hb:beq k e.1 with
    | true=>exact .inr ⟨0,e,rfl,rfl,hb,by unfold b9; rw [if_pos hb]⟩
    | false =>
      have hg:b9 beq (e::l) k=b9 beq l k:=by
        show (if beq k e.1=true then some e.2 else b9 beq l k)=_
        rw [if_neg (by rw [hb]; exact Bool.false_ne_true)]
      rcases p0 (β:=β) (beq:=beq) (k:=k) l (i + 1) with ⟨h1,h2⟩ | ⟨j,e',h1,h2,h3,h4⟩
      · exact .inl ⟨h1,hg.trans h2⟩
      · exact .inr ⟨j + 1,e',by rw [show i + (j + 1)=i + 1 + j by omega]; exact h1,h2,h3,hg.trans h4⟩
def BG (P:Program) (kt e:TypeId) {κ β:Type} (kf:κ→AV) (beq:κ→κ→Bool) (vf:β→AV) (z:β) (l:List (κ×β)) (k:κ):Prop :=
  ∀ k':AV→Prop,k' (vf ((b9 beq l k).getD z))→gQ P kt (kf k) (l.map (jz kf vf)) fun _ r=>iX P e false (l.map (jz kf vf)) r k'
def BH (P:Program) (kt:TypeId) {κ β:Type} (kf:κ→AV) (beq:κ→κ→Bool) (vf:β→AV) (l:List (κ×β)) (k:κ) (v:β):Prop :=
  ∀ K':List (AV×AV)→Prop,K' ((hG beq l k v).map (jz kf vf))→gQ P kt (kf k) (l.map (jz kf vf)) fun kv' r=>bK (wU P kt kv') (
          match r with
          | some i=>bK (Instr.sameBits 10000 (((l.map (jz kf vf))[i]?.bind fun e=>sN e.1).getD (.bool false)) kv') (K' ((l.map (jz kf vf)).set i (kf k,vf v)))
          | none=>K' (l.map (jz kf vf)++[(kf k,vf v)]))
theorem Ed {P:Program} {kt e:TypeId} {κ β:Type} {kf:κ→AV} {kv:κ→Value} {beq:κ→κ→Bool} {vf:β→AV} (hd:(P.underlying kt).isSome=true) (hk:zG P kt kf kv beq) (z:β) (hz:∀ k',ig P e false k'=k' (vf z)) (l:List (κ×β)) (k:κ) :
    ∀ k':AV→Prop,k' (vf ((b9 beq l k).getD z))→gQ P kt (kf k) (l.map (jz kf vf)) fun _ r=>iX P e false (l.map (jz kf vf)) r k':=by
  intro k' h
  refine wD hd hk l k ?_
  rcases p0 (β:=β) (beq:=beq) (k:=k) l 0 with ⟨h1,h2⟩ | ⟨j,en,h1,h2,h3,h4⟩
  · rw [h1]
    show ig P e false k'
    rw [hz]
    rw [h2] at h
    exact h
  · rw [h1]
    show iX P e false _ (some (0 + j)) k'
    unfold iX
    dsimp only
    rw [Nat.zero_add,List.getElem?_map,h2]
    rw [h4] at h
    exact h
theorem wE {κ β:Type} {beq:κ→κ→Bool} {k:κ} {v:β}:∀ {l:List (κ×β)},b9 beq l k=none→hG beq l k v=l++[(k,v)]
  | [],_=>rfl
  | e::l,h=>by
    unfold b9 at h
    split at h
    · cases h
    · rename_i hb
      show (if beq k e.1=true then (k,v)::l else e::hG beq l k v)=_
      rw [if_neg hb,wE h]
      rfl
theorem wF {κ β:Type} {beq:κ→κ→Bool} {k:κ} {v:β}:∀ {l:List (κ×β)} {i j:Nat},xQ (l.map fun e=>beq k e.1) i=some (i + j)→hG beq l k v=l.set j (k,v)
  | [],_,_,h=>by cases h
  | e::l,i,j,h=>by
    rw [List.map_cons] at h
    show (if beq k e.1=true then (k,v)::l else e::hG beq l k v)=_
    cases hb:beq k e.1 with
    | true =>
      rw [hb] at h
      have:i=i + j:=Option.some.inj h
      have:j=0:=by omega
      subst this
      rw [if_pos rfl]
      rfl
    | false =>
      rw [hb] at h
      have h':xQ (l.map fun e=>beq k e.1) (i + 1)=some (i + j):=h
      rw [if_neg (by exact Bool.false_ne_true)]
      rcases p0 (β:=β) (beq:=beq) (k:=k) l (i + 1) with ⟨h1,_⟩ | ⟨j',e',h1,_⟩
      · rw [h1] at h'; cases h'
      · rw [h1] at h'
        have:i + 1 + j'=i + j:=Option.some.inj h'
        have:j=j' + 1:=by omega
        subst this
        rw [wF h1]
        rfl
theorem Ee {P:Program} {kt:TypeId} {κ β:Type} {kf:κ→AV} {kv:κ→Value} {beq:κ→κ→Bool} {vf:β→AV} (hd:(P.underlying kt).isSome=true) (hk:zG P kt kf kv beq) (l:List (κ×β)) (k:κ) (v:β) :
    ∀ K':List (AV×AV)→Prop,K' ((hG beq l k v).map (jz kf vf))→gQ P kt (kf k) (l.map (jz kf vf)) fun kv' r=>bK (wU P kt kv') (
          match r with
          | some i=>bK (Instr.sameBits 10000 (((l.map (jz kf vf))[i]?.bind fun e=>sN e.1).getD (.bool false)) kv') (K' ((l.map (jz kf vf)).set i (kf k,vf v)))
          | none=>K' (l.map (jz kf vf)++[(kf k,vf v)])):=by
  intro K' h
  refine wD hd hk l k ?_
  refine ak (by unfold wU; rw [hk.chk]) ?_
  rcases p0 (β:=β) (beq:=beq) (k:=k) l 0 with ⟨h1,h2⟩ | ⟨j,en,h1,h2,h3,h4⟩
  · rw [h1]
    rw [wE h2,List.map_append] at h
    exact h
  · rw [h1]
    rw [wF h1,List.map_set] at h
    rw [Nat.zero_add]
    refine ak ?_ h
    rw [List.getElem?_map,h2]
    show Instr.sameBits 10000 ((sN (kf en.1)).getD (.bool false)) (kv k)=true
    rw [hk.tok]
    exact hk.sam _ _ h3
section
variable {P:Program} {kt:TypeId} {κ:Type} {kf:κ→AV} {kv:κ→Value} {beq:κ→κ→Bool}
end
def ku (H:Type) (P:Program) (t:TypeId) {α:Type} (f:α→List AV) (wf:α→Prop):Prop:=∀ (n:Nat) (d:DataW H),dI P n t d=true→∃ x,cM (gI P n t d) (f x)∧wf x
def gJ (H:Type) (P:Program) (ts:List TypeId) {α:Type} (f:α→List AV) (wf:α→Prop):Prop:=∀ (n:Nat) (ds:List (DataW H)),ds.length=ts.length→((ts.zip ds).all fun x=>dI P n x.1 x.2)=true→∃ x,cM ((ts.zip ds).flatMap fun x=>gI P n x.1 x.2) (f x)∧wf x
section
variable {H:Type} {P:Program} {t:TypeId}
theorem ku.int {k:IntKind} (hu:P.underlying t=some (.int k)):ku H P t (ac k) (u4 k):=by
  intro n d h
  cases n with
  | zero=>cases h
  | succ n =>
    unfold dI at h
    rw [hu] at h
    cases d with
    | lit l =>
      cases l with
      | int k' m =>
        have h:(decide (k'=k)&&(Lit.int k m).wf)=true:=h
        rw [Bool.and_eq_true] at h
        obtain ⟨h1,h2⟩:=h
        have h1:=of_decide_eq_true h1
        subst h1
        have h2:(decide (k'.min≤m)&&decide (m≤k'.max))=true:=h2
        rw [Bool.and_eq_true] at h2
        refine ⟨m,?_,of_decide_eq_true h2.1,of_decide_eq_true h2.2⟩
        unfold gI
        rw [hu]
        exact cM.refl _
      | _=>cases h
    | _=>cases h
theorem ku.bool (hu:P.underlying t=some .bool):ku H P t iu (fun _=>True):=by
  intro n d h
  cases n with
  | zero=>cases h
  | succ n =>
    unfold dI at h
    rw [hu] at h
    cases d with
    | lit l =>
      cases l with
      | bool b =>
        refine ⟨b,?_,trivial⟩
        unfold gI
        rw [hu]
        exact cM.refl _
      | _=>cases h
    | _=>cases h
theorem ku.slice {e:TypeId} (hu:P.underlying t=some (.slice e)) {α:Type} {f:α→List AV} {wf:α→Prop} (he:ku H P e f wf):ku H P t (i4 f) (fun l=>l.length≤maxLen∧∀ x∈l,wf x):=by
  intro n d h
  cases n with
  | zero=>cases h
  | succ n =>
    unfold dI at h
    rw [hu] at h
    cases d with
    | nil =>
      refine ⟨[],?_,by simp [maxLen],fun x hx=>by cases hx⟩
      unfold gI
      rw [hu]
      exact cM.cons cR.nil cM.nil
    | slice xs sp =>
      have h:(decide (xs.length≤maxLen)&&xs.all (dI P n e))=true:=h
      rw [Bool.and_eq_true] at h
      obtain ⟨h1,h2⟩:=h
      have key:∀ xs:List (DataW H),xs.all (dI P n e)=true→∃ l:List α,g0 (xs.map (gI P n e)) (l.map f)∧l.length=xs.length∧∀ x∈l,wf x:=by
        intro xs
        induction xs with
        | nil=>exact fun _=>⟨[],g0.nil,rfl,fun x hx=>by cases hx⟩
        | cons x xs ih =>
          intro h
          rw [List.all_cons,Bool.and_eq_true] at h
          obtain ⟨y,hy1,hy2⟩:=he n x h.1
          obtain ⟨l,hl1,hl2,hl3⟩:=ih h.2
          refine ⟨y::l,g0.cons hy1 hl1,by simp [hl2],fun z hz=>?_⟩
          rcases List.mem_cons.1 hz with rfl | hz
          · exact hy2
          · exact hl3 z hz
      obtain ⟨l,hl1,hl2,hl3⟩:=key xs h2
      refine ⟨l,?_,by rw [hl2]; exact of_decide_eq_true h1,hl3⟩
      unfold gI
      rw [hu]
      exact cM.cons (cR.sl hl1) cM.nil
    | _=>cases h
theorem gJ.nil:gJ H P [] (fun _:Unit=>[]) (fun _=>True):=fun _ _ _ _=>⟨(),cM.nil,trivial⟩
theorem gJ.cons {ts:List TypeId} {α β:Type} {f:α→List AV} {wf:α→Prop} {g:β→List AV} {wg:β→Prop} (h:ku H P t f wf) (hs:gJ H P ts g wg):gJ H P (t::ts) (fun x:α×β=>f x.1++g x.2) (fun x=>wf x.1∧wg x.2):=by
  intro n ds hl ha
  cases ds with
  | nil=>simp at hl
  | cons d ds =>
    rw [List.zip_cons_cons,List.all_cons,Bool.and_eq_true] at ha
    obtain ⟨x,h1,h2⟩:=h n d ha.1
    obtain ⟨y,h3,h4⟩:=hs n ds (by simpa using hl) ha.2
    refine ⟨(x,y),?_,h2,h4⟩
    rw [List.zip_cons_cons,List.flatMap_cons]
    exact h1.app h3
theorem ku.struct {fs:Array Field} (hu:P.underlying t=some (.struct fs)) {α:Type} {g:α→List AV} {wg:α→Prop} (h:gJ H P (fs.toList.map (·.type)) g wg):ku H P t g wg:=by
  intro n d hd
  cases n with
  | zero=>cases hd
  | succ n =>
    unfold dI at hd
    rw [hu] at hd
    cases d with
    | agg ds =>
    have hd:(Nat.beq ds.length fs.size&&(fs.toList.zip ds).all fun x=>dI P n x.1.type x.2)=true:=hd
    rw [Bool.and_eq_true] at hd
    obtain ⟨h1,h2⟩:=hd
    have hlen:=Nat.eq_of_beq_eq_true h1
    obtain ⟨x,h3,h4⟩:=h n ds (by simpa using hlen) (by
      rw [List.zip_map_left,List.all_map]
      exact h2)
    refine ⟨x,?_,h4⟩
    unfold gI
    rw [hu]
    dsimp only
    rw [List.zip_map_left,List.flatMap_map] at h3
    exact h3
    | _=>cases hd
theorem ku.conv {α β:Type} {f:α→List AV} {wf:α→Prop} {g:β→List AV} {wg:β→Prop} (h:ku H P t f wf) (φ:α→β) (hf:∀ x,f x=g (φ x)) (hw:∀ x,wf x→wg (φ x)):ku H P t g wg:=fun n d hd=>by
  obtain ⟨x,h1,h2⟩:=h n d hd
  exact ⟨φ x,by rw [← hf]; exact h1,hw x h2⟩
theorem ku.argS {fs:Array Field} (hu:P.underlying t=some (.struct fs)) {α:Type} {f:α→List AV} {wf:α→Prop} (h:ku H P t f wf) {n:Nat} {d:DataW H} (hd:dI P n t d=true):∃ x,cR (nW P n t d) (.agg (f x))∧wf x:=by
  obtain ⟨x,h1,h2⟩:=h n d hd
  refine ⟨x,?_,h2⟩
  unfold nW
  rw [hu]
  exact cR.agg h1
theorem ku.arg1 (hs:kh P t=false) {α:Type} {f:α→List AV} {wf:α→Prop} {g:α→AV} (h:ku H P t f wf) (hg:∀ x,f x=[g x]) {n:Nat} {d:DataW H} (hd:dI P n t d=true):∃ x,cR (nW P n t d) (g x)∧wf x:=by
  obtain ⟨x,h1,h2⟩:=h n d hd
  refine ⟨x,?_,h2⟩
  rw [hg] at h1
  unfold kh at hs
  unfold nW
  split
  · rename_i fs hu
    rw [hu] at hs
    cases hs
  · generalize gI P n t d=r at h1
    cases r with
    | nil=>exact absurd h1.1 (by simp)
    | cons a r=>exact h1.2 0 a _ rfl rfl
end
end A
end Go.Proofs.Ytcckeabholabcaa
