/- The evaluator with answers; contracts out of it. Nothing is claimed here of the program. -/
import Derived.Test.YteafbimadlcljaaDoorK6
import Derived.Test.YteafbimadlcljaaDoorM0
import Derived.Laws.StructEq
namespace Go.Proofs.YteafbimadlcljaaDoor
namespace A
open Go
def pO {α:Type}:List (Nat×α)→Nat→Option α
  | [],_=>none
  | (d,x)::xs,e=>match Nat.beq d e with | true=>some x | false=>pO xs e
structure Wk where
  ts:List Nat
  ls:List Nat
  no:Nat
  pr:List (Nat×Nat)
  pl:List (Nat×Nat×Nat)
  fz:List Nat
def Dz (ts:List Nat):Nat→List AV→List AV
  | _,[]=>[]
  | i,x::xs=>(match dV ts i with | true=>x | false=>.bad)::Dz ts (i + 1) xs
def wQ:List Nat→St→St
  | [],S=>S
  | d::ds,S=>wQ ds (dQ d S)
def Cl:Nat→Nat→List Nat
  | _,0=>[]
  | i,n + 1=>i::Cl (i + 1) n
def Cm:List Nat→St→St
  | [],S=>S
  | i::is,S=>Cm is (de i S)
def wR:List Ob→Bool
  | []=>true
  | .dead::os=>wR os
  | _=>false
def ER (n:Nat) (S:St):St :=
  match wR (S.o.drop n)&&Nat.ble S.b n with
  | true=>{ t:=S.t,l:=S.l,o:=S.o.take n,b:=S.b }
  | false=>S
def ym:List (Nat×Nat)→St→St
  | [],S=>S
  | (d,sz)::ps,S=>match S.t[d]? with
    | some .nilsl=>ym ps { t:=S.t.set d (.mf S.o.length),l:=S.l,o:=S.o++[.arr true sz []],b:=S.b }
    | _=>ym ps S
def vL:List (Nat×Nat×Nat)→St→St
  | [],S=>S
  | (d,j,sz)::ps,S=>match aJ S.l d with
    | some row=>match row[j]? with
      | some .nilsl=>vL ps { t:=S.t,l:=o_ S.l d (row.set j (.mf S.o.length)),o:=S.o++[.arr true sz []],b:=S.b }
      | _=>vL ps S
    | none=>vL ps S
def ES (ids:List Nat) (d j:Nat) (b:AV) (S:St):St :=
  match aJ (dS ids S).l d with
  | some row=>{ t:=(dS ids S).t,l:=o_ (dS ids S).l d (row.set j b),o:=(dS ids S).o,b:=(dS ids S).b }
  | none=>dS ids S
def uN:List Nat→St→St
  | [],S=>S
  | d::ds,S=>match Nat.ble 10000 d with
    | true=>match aJ S.l ((d - 10000) / 100) with
      | some row=>match row[d % 100]? with
        | some a=>match yL S.o 6 a with
          | some b=>uN ds (ES (cO S.o 6 a) ((d - 10000) / 100) (d % 100) b S)
          | none=>uN ds S
        | none=>uN ds S
      | none=>uN ds S
    | false=>match S.t[d]? with
      | some a=>match yL S.o 6 a with
        | some b=>uN ds { t:=(dS (cO S.o 6 a) S).t.set d b,l:=(dS (cO S.o 6 a) S).l,o:=(dS (cO S.o 6 a) S).o,b:=(dS (cO S.o 6 a) S).b }
        | none=>uN ds S
      | none=>uN ds S
def Gx (W:Wk) (S:St):St :=
  vL W.pl (ym W.pr (ER W.no (Cm (Cl W.no (S.o.length - W.no)) (wQ W.ls { t:=Dz W.ts 0 S.t,l:=S.l,o:=S.o,b:=S.b }))))
def wk (W:Wk) (S:St):St:=Gx W (uN W.fz S)
def iT (a b:AV):Prop:=∀ E u,VR E a u→VR E b u
def lM (r r':List AV):Prop:=r.length=r'.length∧∀ (i:Nat) (a b:AV),r[i]?=some a→r'[i]?=some b→iT a b
def g7 (r r':List (List AV)):Prop:=r.length=r'.length∧∀ (i:Nat) (a b:List AV),r[i]?=some a→r'[i]?=some b→lM a b
structure Le where
  ts:List (Nat×AV)
  ls:List (Nat×List AV)
  os:List (Nat×List (List AV))
def ET:List (Nat×AV)→St→(St→Prop)→Prop
  | [],S,K=>K S
  | (d,v)::xs,S,K=>nE S.t d fun a=>iT a v∧qc S.t d v fun t=>ET xs { t:=t,l:=S.l,o:=S.o,b:=S.b } K
def DC:List (Nat×List AV)→St→(St→Prop)→Prop
  | [],S,K=>K S
  | (d,r)::xs,S,K=>match aJ S.l d with
    | some row=>lM row r∧lW (o_ S.l d r) fun l=>DC xs { t:=S.t,l:=l,o:=S.o,b:=S.b } K
    | none=>ah 450
def DD:List (Nat×List (List AV))→St→(St→Prop)→Prop
  | [],S,K=>K S
  | (i,R)::xs,S,K=>match S.o[i]? with
    | some (.arr fl sz rows)=>g7 rows R∧bc (S.o.set i (.arr fl sz R)) fun o=>DD xs { t:=S.t,l:=S.l,o:=o,b:=S.b } K
    | _=>ah 451
def Cn (L:Le) (S:St) (K:St→Prop):Prop:=ET L.ts S fun S=>DC L.ls S fun S=>DD L.os S K
structure uO where
  at_:Option Nat
  row:Option (List (List AV))
  ks:List AV
  cs:List (Option (List (List AV)))
structure dh where
  dem:List Nat
  chk:List Nat
  row:List (Nat×List AV)
  val:List (Nat×AV)
  call:List (Nat×AV)
  sto:List (Nat×(AV×List Ob))
  obr:List (Nat×(Nat×List (List AV)))
  mpr:List (Nat×List (AV×AV))
  own:List (Nat×uO)
inductive PT where
  | done
  | go (i:Nat) (t:PT)
  | alt (i:Nat) (t r:PT)
def jq:List Nat→PT
  | []=>.done
  | i::is=>.go i (jq is)
def zC:PT→PT→Bool
  | .done,.done=>true
  | .go i t,.go j u=>Nat.beq i j&&zC t u
  | .alt i t r,.alt j u s=>Nat.beq i j&&(zC t u&&zC r s)
  | _,_=>false
structure EU where
  ord:List (Nat×PT)
  reg:List (Nat×dh)
  wr:List (Nat×Le)
  lps:List (Nat×(Wk×Le×Ex×St))
  cut:List (Nat×(Wk×Le×Ex×St))
def Bm (A:EU) (id:Nat):dh :=
  match pO A.reg id with
  | some R=>R
  | none=>⟨[],[],[],[],[],[],[],[],[]⟩
def keyOf (o:Oper):Nat :=
  match o.dst with
  | some d=>d
  | none=>match o.op with
    | .store _ (.tmp t) _=>t + 1000000
    | .mapUpdate _ (.tmp t) _ _=>t + 1000000
    | .insert _ (.tmp t) _ _=>t + 1000000
    | _=>0
def Bn (rows:List (List AV)) (i:Int):Option (List AV):=if 0≤i then rows[i.toNat]? else none
def Co (op:BinOp) (x y:Value) (K:Value→Prop):Prop :=
  match op,x,y with
  | .quo,.int k a,.int k' b=>(decide (k=k')&&!(b==0))=true∧K (.int k (k.wrap (a.tdiv b)))
  | .rem,.int k a,.int k' b=>(decide (k=k')&&!(b==0))=true∧K (.int k (a.tmod b))
  | .shl,.int k a,.int _ b=>decide (0≤b)=true∧K (.int k (k.wrap (a * 2 ^ (min b.toNat k.bits))))
  | .shr,.int k a,.int _ b=>decide (0≤b)=true∧K (.int k (a.fdiv (2 ^ (min b.toNat k.bits))))
  | .add,.string a,.string b=>decide (((a.size + b.size:Nat):Int)≤9223372036854775807)=true∧K (.string (a++b))
  | _,_,_=>ah 20
def Cp (C:Ctx) (A:dh) (o:Oper) (op:BinOp) (t:TypeId) (x y:AV) (k:AV→Prop):Prop :=
  match x,y with
  | .v a,.v b=>match Dn op a b with
    | none=>match a,b with
      | .bool x,.bool y=>xo C.P op t x y k
      | a,b=>Co op a b fun c=>k (.v c)
    | some c=>k (.v c)
  | .agg as,.agg bs=>match rx as,rx bs with
    | some xs,some ys=>match pO A.val (keyOf o) with
      | some (.v (.bool b))=>co C.P op t xs ys=some (.bool b)∧k (.v (.bool b))
      | _=>ah 400
    | _,_=>ah 401
  | _,_=>ah 402
def wS (C:Ctx) (A:dh) (o:Oper) (t:TypeId) (x ix:AV) (k:AV→Prop):Prop :=
  intOf ix fun i =>
  match C.P.underlying t,x with
  | some .string,.v (.string s)=>match pO A.val (keyOf o) with
    | some (.v (.int .u8 n))=>(if 0≤i then s[i.toNat]? else none)=some (UInt8.ofNat n.toNat)∧(n=((UInt8.ofNat n.toNat).toNat:Int)∧k (.v (.int .u8 n)))
    | _=>ah 403
  | some (.array len e),.agg cs=>match C.P.info? e with
    | some inf=>(decide (0≤i)&&decide (i<len))=true∧gu C.P e cs (i.toNat * inf.size) k
    | none=>ah 404
  | _,_=>ah 405
def EV (C:Ctx) (A:dh) (pl:bA) (o:Oper) (vs:List AV) (k:AV→Prop):Prop :=
  match dV A.chk (keyOf o) with
  | false=>pop C pl o vs k
  | true=>match o.op,vs with
    | .binOp op t _ _ _,[a,b]=>Cp C A o op t a b k
    | .index t _ _,[a,i]=>wS C A o t a i k
    | _,_=>ah 406
def vM (len cap:Nat) (lo hi mx:Option Int) (k:Nat→Nat→Nat→Prop):Prop :=
  match lo,hi,mx with
  | none,none,none=>k 0 len cap
  | some l,none,none=>(decide (0≤l)&&decide (l≤len))=true∧k l.toNat len cap
  | none,some h,none=>(decide (0≤h)&&decide (h≤cap))=true∧k 0 h.toNat cap
  | some l,some h,none=>(decide (0≤l)&&decide (l≤h)&&decide (h≤cap))=true∧k l.toNat h.toNat cap
  | none,some h,some m=>(decide (0≤h)&&decide (h≤m)&&decide (m≤cap))=true∧k 0 h.toNat m.toNat
  | some l,some h,some m=>(decide (0≤l)&&decide (l≤h)&&decide (h≤m)&&decide (m≤cap))=true∧k l.toNat h.toNat m.toNat
  | _,_,_=>ah 63
def jP (C:Ctx) (t:TypeId) (x:AV) (lo hi mx:Option Int) (S:St) (k:AV→Prop):Prop :=
  match C.P.underlying t with
  | some .string =>
    match x,mx with
    | .v (.string s),none=>vM s.size s.size lo hi none fun l h _=>k (.v (.string (s.extract l h)))
    | _,_=>ah 64
  | some (.slice e) =>
    match C.P.info? e with
    | some i=>bw (Nat.blt 0 i.size) (
      match x with
      | .sl rows=>fE i.size rows=true∧vM rows.length rows.length lo hi mx fun l h _ =>
        match lo,hi,gO mx&&gO hi with
        | _,_,true=>k .esl
        | none,none,_=>k (.sl rows)
        | _,none,_=>k (.sl (rows.drop l))
        | none,_,_=>k (.sl (rows.take h))
        | _,_,_=>k (.sl ((rows.drop l).take (h - l)))
      | .mf id=>match S.o[id]? with
        | some (.arr _ sz rows)=>bw (Nat.beq sz i.size) (vM rows.length rows.length lo hi mx fun l h m =>
          match lo,hi,gO mx&&gO hi with
          | _,_,true=>k .esl
          | none,none,_=>k (.mf id)
          | _,none,_=>k (.msl id l (rows.length - l) 0)
          | _,_,_=>k (.msl id l (h - l) (m - h)))
        | _=>ah 65
      | .msl id off len ext=>match S.o[id]? with
        | some (.arr _ sz _)=>bw (Nat.beq sz i.size) (vM len (len + ext) lo hi mx fun l h m =>
          match gO mx&&gO hi with
          | true=>k .esl
          | false=>k (.msl id (l + off) (h - l) (m - h)))
        | _=>ah 66
      | _=>ah 67)
    | none=>ah 68
  | _=>ah 69
def mz (C:Ctx) (row:List AV) (t:TypeId) (x ix:AV) (S:St) (k:AV→Prop):Prop :=
  intOf ix fun i =>
  match C.P.underlying t with
  | some (.slice e) =>
    match C.P.info? e with
    | some inf =>
      match x with
      | .sl rows=>Bn rows i=some row∧bw (Nat.beq row.length inf.size&&Nat.blt 0 inf.size) (k (.fptr row 0))
      | .mf id=>match S.o[id]? with
        | some (.arr _ _ rows)=>Bn rows i=some row∧bw (Nat.beq row.length inf.size&&Nat.blt 0 inf.size) (k (.ptr (.O id) i.toNat 0))
        | some (.own none _ cells _)=>bw (Nat.beq inf.size 1) ((decide (0≤i)&&Nat.blt i.toNat cells.length)=true∧k (.ptr (.O id) i.toNat 0))
        | _=>ah 72
      | .msl id off len _=>match S.o[id]? with
        | some (.arr _ _ rows)=>(decide (0≤i)&&decide (i<len))=true∧(rows[i.toNat + off]?=some row∧bw (Nat.beq row.length inf.size&&Nat.blt 0 inf.size) (k (.ptr (.O id) (i.toNat + off) 0)))
        | _=>ah 74
      | _=>ah 75
    | none=>ah 76
  | some (.array len e) =>
    match C.P.info? e with
    | some inf=>(decide (0≤i)&&decide (i<len))=true∧(
      match x with
      | .ptr key a j=>k (.ptr key a (i.toNat * inf.size + j))
      | .fptr row j=>k (.fptr row (i.toNat * inf.size + j))
      | _=>ah 77)
    | none=>ah 78
  | _=>ah 79
def rT (C:Ctx) (A:dh) (o:Oper) (fid:Nat) (as:List AV) (k:AV→Prop):Prop :=
  match pO A.call (keyOf o) with
  | some r=>(C.pcall fid as fun x=>x=r)∧k r
  | none=>C.pcall fid as k
def zD (P:Program) (op:BinOp) (t:TypeId) (x y:AV) (S:St) (k:AV→Prop):Prop :=
  match x,y with
  | .mf id,.nilsl=>match S.o[id]? with
    | some (.arr _ _ rows)=>gN rows=true∧(match P.underlying t,op with
      | some (.slice _),.eql=>k (.v (.bool false))
      | some (.slice _),.neq=>k (.v (.bool true))
      | _,_=>ah 265)
    | _=>ah 472
  | _,_=>ah 473
def EW (C:Ctx) (A:dh) (o:Oper) (vs:List AV) (M:St) (k:AV→Prop):Prop :=
  match o.op,vs with
  | .load t _,[p]=>match pO A.row (keyOf o) with
    | some row=>match p with
      | .ptr (.O id) i j=>match M.o[id]? with
        | some (.arr _ _ rows)=>rows[i]?=some row∧gu C.P t row j k
        | _=>ah 410
      | _=>ah 411
    | none=>nG C o vs M k
  | .slice t _ lo hi mx,a::rest=>match dV A.chk (keyOf o) with
    | false=>nG C o vs M k
    | true=>match lo,hi,mx,rest with
      | none,none,none,[]=>jP C t a none none none M k
      | some _,none,none,[x]=>intOf x fun x=>jP C t a (some x) none none M k
      | none,some _,none,[y]=>intOf y fun y=>jP C t a none (some y) none M k
      | some _,some _,none,[x,y]=>intOf x fun x=>intOf y fun y=>jP C t a (some x) (some y) none M k
      | none,some _,some _,[y,z]=>intOf y fun y=>intOf z fun z=>jP C t a none (some y) (some z) M k
      | some _,some _,some _,[x,y,z]=>intOf x fun x=>intOf y fun y=>intOf z fun z=>jP C t a (some x) (some y) (some z) M k
      | _,_,_,_=>ah 202
  | .indexAddr t _ _,[a,i]=>match pO A.row (keyOf o) with
    | some row=>mz C row t a i M k
    | none=>nG C o vs M k
  | .lookup t _ _ ok,[m,key]=>match pO A.call (keyOf o) with
    | some a=>match C.P.underlying t,m with
      | some (.map kt e),.mp id=>match M.o[id]? with
        | some (.mapo _ es)=>(∀ k':AV→Prop,k' a→fY C.P kt key es fun _ r=>hU C.P e ok es r k')∧k a
        | _=>ah 412
      | _,_=>ah 413
    | none=>nG C o vs M k
  | .binOp op t _ _ _,[a,b]=>match dV A.chk (keyOf o) with
    | false=>nG C o vs M k
    | true=>zD C.P op t a b M k
  | .call c,vs=>match c.callee with
    | .value _=>match vs with
      | .fn fid first cap::as=>bw (C.pure fid) (gP M.o (first++as++cap) fun bs=>rT C A o fid bs fun r=>bw (sc 4 r||((first++as++cap).flatMap (cO M.o 6)).isEmpty) (k r))
      | _=>ah 205
    | _=>nG C o vs M k
  | _,_=>nG C o vs M k
def wT (S:St) (row:List AV) (a:AV) (cs:List AV) (K:St→Prop):Prop :=
  match a with
  | .ptr (.O id) i j =>
    match S.o[id]? with
    | some (.arr fl sz rows)=>rows[i]?=some row∧bw (Nat.ble (j + cs.length) row.length&&cs.all (rL 4)) (gp (splice row j cs) fun row'=>bc (S.o.set id (.arr (fl&&cs.all (cN 4)) sz (rows.set i row'))) fun o=>K { t:=S.t,l:=S.l,o:=o,b:=S.b })
    | _=>ah 18
  | _=>ah 19
def DF (C:Ctx) (A:dh) (o:Oper) (vs:List AV) (M:St) (k:AV→St→Prop):Prop :=
  match pO A.row (keyOf o) with
  | none=>u0 C o vs M k
  | some row=>match o.op,vs with
    | .store t _ _,[p,y]=>match p with
      | .ptr (.O _) _ _=>kQ y fun cs=>match C.P.info? t with
        | some i=>bw (Nat.beq cs.length i.size) (wT M row p cs fun M'=>k .bad M')
        | none=>ah 208
      | _=>u0 C o vs M k
    | _,_=>u0 C o vs M k
def tw (size:Nat) (S:St) (x:AV) (k:Bool→List (List AV)→Prop):Prop :=
  match x with
  | .nilsl | .esl=>k true []
  | .sl rows=>fE size rows=true∧k true rows
  | .mf id=>match S.o[id]? with | some (.arr fl sz rows)=>bw (Nat.beq sz size) (k fl rows) | _=>ah 45
  | .msl id off len _=>match S.o[id]? with | some (.arr fl sz rows)=>bw (Nat.beq sz size) (k fl ((rows.drop off).take len)) | _=>ah 46
  | .v (.string s)=>bw (Nat.beq size 1) (k true (s.data.toList.map fun b=>[.v (.int .u8 b.toNat)]))
  | _=>ah 47
def tz (P:Program) (ts:List TypeId) (base x:AV) (S:St) (k:St→AV→Prop):Prop :=
  match ts with
  | [t0,t1] =>
    match P.underlying t0 with
    | some (.slice e) =>
      match P.info? e with
      | some i=>bw (Nat.blt 0 i.size&&Nat.blt 0 i.bytes&&D8 i&&(match P.underlying t1 with | some (.slice _) | some .string=>true | _=>false)) (tw i.size S x fun fl src=>bu src=true∧(
          match base with
          | .nilsl | .esl=>Nat.ble (src.length * i.bytes) 140737488355328=true∧(bc (S.o++[.arr fl i.size src]) fun o=>k { t:=S.t,l:=S.l,o:=o,b:=S.b } (.mf S.o.length))
          | .mf id=>match S.o[id]? with
            | some (.arr fl' sz rows)=>bw (Nat.beq sz i.size&&(fl||!fl')) (Nat.ble ((rows.length + src.length) * i.bytes) 140737488355328=true∧na S id (.arr (fl'&&fl) sz (rows++src)) fun S' id'=>k S' (.mf id'))
            | _=>ah 48
          | .msl id off len ext=>match S.o[id]? with
            | some (.arr fl' sz rows)=>bw (Nat.beq sz i.size&&(fl||!fl')) (Nat.ble src.length ext=true∧(Nat.ble (off + len + ext) rows.length=true ∧
                bc (S.o.set id (.arr (fl'&&fl) sz (rows.take (off + len)++(src++rows.drop (off + len + src.length))))) fun o=>k { t:=S.t,l:=S.l,o:=o,b:=S.b } (.msl id off (len + src.length) (ext - src.length))))
            | _=>ah 49
          | _=>ah 50))
      | none=>ah 51
    | _=>ah 52
  | _=>ah 53
def qE (P:Program) (ts:List TypeId) (base x:AV) (k:AV→Prop):Prop :=
  match ts with
  | [t0,t1] =>
    match P.underlying t0 with
    | some (.slice e) =>
      match P.info? e with
      | some i=>bw (Nat.blt 0 i.size&&Nat.blt 0 i.bytes&&D8 i&&(match P.underlying t1 with | some (.slice _) | some .string=>true | _=>false)) (tw i.size Gk x fun fl src=>bw fl (bu src=true∧(Nat.ble (src.length * i.bytes) 140737488355328=true∧(
          match base with
          | .nilsl | .esl=>k (.sl src)
          | _=>ah 254))))
      | none=>ah 255
    | _=>ah 256
  | _=>ah 257
def EX (C:Ctx) (o:Oper) (vs:List AV) (k:AV→Prop):Prop :=
  match o.op,vs with
  | .call c,[x,y]=>match c.callee with
    | .builtin .append=>qE C.P c.argTypes.toList x y k
    | _=>ah 258
  | _,_=>ah 259
def qF (P:Program) (ts:List TypeId) (base:AV) (n:Int) (S:St) (k:St→AV→Prop):Prop :=
  match ts with
  | [t0,t1] =>
    match P.underlying t0,P.underlying t1 with
    | some (.slice e),some (.int _) =>
      match P.info? e with
      | some i=>(Nat.blt 0 i.size&&Nat.blt 0 i.bytes&&decide (0<n)&&decide (n * i.bytes≤140737488355328)&&decide (n≤140737488355328))=true∧(cr P e fun z=>bw (z.all (cN 2)) (
          match base with
          | .nilsl | .esl=>bc (S.o++[.arr true i.size (List.replicate n.toNat z)]) fun o=>k { t:=S.t,l:=S.l,o:=o,b:=S.b } (.mf S.o.length)
          | _=>ah 250))
      | none=>ah 251
    | _,_=>ah 252
  | _=>ah 253
def jQ (P:Program) (t:TypeId) (l c:AV) (S:St) (k:St→AV→Prop):Prop :=
  match P.underlying t with
  | some (.slice e) =>
    match P.info? e with
    | some i=>intOf l fun l=>intOf c fun c=>(decide (0≤l)&&decide (l≤c)&&decide (i.bytes * c≤140737488355328)&&decide (c≤140737488355328)&&Nat.blt 0 i.size)=true ∧
        (cr P e fun z=>bw (z.all (cN 2)) (bc (S.o++[.arr true i.size (List.replicate l.toNat z)]) fun o=>k { t:=S.t,l:=S.l,o:=o,b:=S.b } (.mf S.o.length)))
    | none=>ah 61
  | _=>ah 62
def zE (P:Program) (ts:List TypeId) (x y:AV) (M:St) (k:AV→St→Prop):Prop :=
  match ts with
  | t::_ =>
    match P.underlying t with
    | some (.slice e) =>
      match P.info? e with
      | some i=>bw (Nat.blt 0 i.size) (tw i.size M y fun fl src=>bu src=true∧bw (!(FM y)) (
          match x with
          | .mf id=>match M.o[id]? with
            | some (.arr fl' sz rows)=>bw (Nat.beq sz i.size) (bc (M.o.set id (.arr (fl'&&fl) sz (src.take rows.length++rows.drop src.length))) fun o=>k (.v (.int .i64 ((min src.length rows.length:Nat):Int))) { t:=M.t,l:=M.l,o:=o,b:=M.b })
            | _=>ah 243
          | .msl id off len _=>match M.o[id]? with
            | some (.arr fl' sz rows)=>bw (Nat.beq sz i.size) (Nat.ble (off + len) rows.length=true∧(bc (M.o.set id (.arr (fl'&&fl) sz (rows.take off++(src.take len++rows.drop (off + min src.length len))))) fun o=>k (.v (.int .i64 ((min src.length len:Nat):Int))) { t:=M.t,l:=M.l,o:=o,b:=M.b }))
            | _=>ah 244
          | _=>ah 245))
      | none=>ah 246
    | _=>ah 247
  | []=>ah 248
def zF (C:Ctx) (A:dh) (o:Oper) (f:AV) (args:List AV) (S:St) (k:St→AV→Prop):Prop :=
  match f with
  | .fn fid first cap =>
    match C.pure fid with
    | true=>gP S.o (first++args++cap) fun as=>rT C A o fid as fun r =>
        match sc 4 r with
        | true=>k S r
        | false=>fb ((first++args++cap).flatMap (cO S.o 6)) S fun S'=>k S' r
    | false=>bw ((first++args++cap).all (rL 4)) (match pO A.sto (keyOf o) with
      | some (r,o')=>(C.scall fid (first++args++cap) S.o fun r' o''=>r'=r∧o''=o')∧iD (bL S.o o' 0) S.t S.l fun t l=>k { t:=t,l:=l,o:=o',b:=S.b } r
      | none=>C.scall fid (first++args++cap) S.o fun r o'=>iD (bL S.o o' 0) S.t S.l fun t l=>k { t:=t,l:=l,o:=o',b:=S.b } r)
  | _=>ah 97
def jR (P:Program) (R:List (AV×AV)) (t:TypeId) (m key x:AV) (S:St) (K:St→Prop):Prop :=
  match P.underlying t with
  | some (.map kt _) =>
    match m with
    | .mp id=>match S.o[id]? with
      | some (.mapo fl es)=>bw (rL 4 x) ((∀ K':List (AV×AV)→Prop,K' R→fY P kt key es fun kv r=>bw (v8 P kt kv) (
          match r with
          | some i=>bw (Instr.sameBits 10000 ((es[i]?.bind fun e=>uo e.1).getD (.bool false)) kv) (K' (es.set i (key,x)))
          | none=>K' (es++[(key,x)])))∧bc (S.o.set id (.mapo (fl&&cN 4 x) R)) fun o=>K { t:=S.t,l:=S.l,o:=o,b:=S.b })
      | _=>ah 106
    | _=>ah 107
  | _=>ah 108
def DG (C:Ctx) (A:dh) (pl:bA) (o:Oper) (S:St) (K:St→Prop):Prop :=
  match o.op with
  | .mapUpdate t m key x=>match pO A.mpr (keyOf o) with
    | some R=>cy S m fun m=>cy S key fun key=>cy S x fun x=>jR C.P R t m key x S fun S'=>br o.dst .bad S' K
    | none=>uq C pl o S K
  | .insert t m key x=>match pO A.mpr (keyOf o) with
    | some R=>cy S m fun m=>cy S key fun key=>cy S x fun x=>jR C.P R t m key x S fun S'=>br o.dst .bad S' K
    | none=>uq C pl o S K
  | .makeSlice t l c=>match dV A.chk (keyOf o) with
    | true=>cy S l fun l=>cy S c fun c=>jQ C.P t l c S fun S' a=>br o.dst a S' K
    | false=>uq C pl o S K
  | .call c=>match c.callee with
    | .builtin .append=>match dV A.chk (keyOf o) with
      | true=>cY S c.args.toList fun as=>match as with
        | [x,.v (.int _ n)]=>qF C.P c.argTypes.toList x n S fun S' r=>br o.dst r S' K
        | [x,y]=>tz C.P c.argTypes.toList x y S fun S' r=>br o.dst r S' K
        | _=>ah 210
      | false=>uq C pl o S K
    | .builtin .copy=>cY S c.args.toList fun as=>match as with
        | [x,y]=>zE C.P c.argTypes.toList x y S fun r S'=>br o.dst r S' K
        | _=>ah 249
    | .value f=>cy S f fun fv=>cY S c.args.toList fun as=>zF C A o fv as S fun S' r=>br o.dst r S' K
    | _=>uq C pl o S K
  | _=>uq C pl o S K
def Eb (A:dh) (dst:Option Tmp) (S:St) (K:St→Prop):Prop :=
  match dst with
  | none=>K S
  | some d=>match pO A.val d with
    | none=>K S
    | some v=>nE S.t d fun a=>a=v∧qc S.t d v fun t=>K { t:=t,l:=S.l,o:=S.o,b:=S.b }
def Cq (A:dh) (key:Nat) (S:St) (K:St→Prop):Prop :=
  match pO A.obr key with
  | none=>K S
  | some (id,R)=>match S.o[id]? with
    | some (.arr fl sz rows)=>rows=R∧bc (S.o.set id (.arr fl sz R)) fun o=>K { t:=S.t,l:=S.l,o:=o,b:=S.b }
    | _=>ah 430
def Cr (C:Ctx) (A:dh) (pl:bA) (o:Oper) (S:St) (K:St→Prop):Prop :=
  cY S o.op.operands.toList fun vs=>EV C A pl o vs fun r=>br o.dst r S K
def Ct (C:Ctx) (A:dh) (o:Oper) (S:St) (K:St→Prop):Prop :=
  cY S o.op.operands.toList fun vs=>EW C A o vs (cC S) fun r=>br o.dst r S K
def Ec (C:Ctx) (A:dh) (o:Oper) (S:St) (K:St→Prop):Prop :=
  cY S o.op.operands.toList fun vs=>DF C A o vs (cC S) fun r M=>br o.dst r (ey S M) K
def mT (row:Option (List (List AV))) (M:St) (id i:Nat) (k:AV→St→Prop):Prop :=
  match M.o[id]? with
  | some (.own ks sz cells none)=>match row with
    | none=>cells[i]?=some none∧k .nilsl M
    | some rows=>cells[i]?=some (some rows)∧bc (M.o.set id (.own ks sz cells (some (i,.mf M.o.length)))++[.arr true sz rows]) fun o=>k (.mf M.o.length) { t:=M.t,l:=M.l,o:=o,b:=M.b }
  | _=>ah 323
def qG (P:Program) (a:uO) (t:TypeId) (same:Bool) (M:St) (id i:Nat) (k:AV→St→Prop):Prop :=
  match same with
  | true=>match M.o[id]? with
    | some (.own none _ cells (some (j,a)))=>(Nat.beq i j&&Nat.blt j cells.length)=true∧gu P t [a] 0 fun r=>k r M
    | _=>ah 324
  | false=>mT a.row M id i fun a M'=>gu P t [a] 0 fun r=>k r M'
def ol (P:Program) (t:TypeId) (M:St) (id i:Nat) (v:AV) (K:St→Prop):Prop :=
  match P.info? t,M.o[id]? with
  | some inf,some (.own none sz cells hole)=>bw (qg v&&Nat.beq inf.size 1) ((Nat.blt i cells.length&&gy hole i)=true∧(bc (M.o.set id (.own none sz cells (some (i,v)))) fun o=>K { t:=M.t,l:=M.l,o:=o,b:=M.b }))
  | _,_=>ah 325
def qH (P:Program) (j:Nat) (a:uO) (t:TypeId) (l c:AV) (M:St) (k:AV→St→Prop):Prop :=
  match P.underlying t with
  | some (.slice e) =>
    match P.info? e,P.underlying e with
    | some i,some (.slice e2)=>match P.info? e2 with
      | some i2=>intOf l fun l=>intOf c fun c=>(decide (0≤l)&&decide (l≤c)&&decide (i.bytes * c≤140737488355328)&&decide (c≤140737488355328)&&Nat.blt 0 i.size)=true∧bw (Nat.beq i.size 1&&Nat.blt 0 i2.size)
          (cr P e fun z=>match z with
            | [.nilsl]=>List.replicate l.toNat none=a.cs∧nH j M.o M.b (.own none i2.size a.cs none) fun o=>k (.mf j) { t:=M.t,l:=M.l,o:=o,b:=M.b }
            | _=>ah 325)
      | none=>ah 326
    | _,_=>ah 61
  | _=>ah 62
def qI (P:Program) (a:uO) (t:TypeId) (m key:AV) (ok:Bool) (M:St) (k:AV→St→Prop):Prop :=
  match P.underlying t with
  | some (.map kt e)=>match m with
    | .mp id=>match M.o[id]? with
      | some (.own (some ks) _ _ none)=>match a.at_ with
        | some i=>(∀ K':Option Nat→Prop,K' (some i)→fY P kt key (jI ks) fun _ r=>K' r)∧mT a.row M id i fun a M'=>lZ ok a true fun r=>k r M'
        | none=>(∀ K':Option Nat→Prop,K' none→fY P kt key (jI ks) fun _ r=>K' r)∧gv P e ok fun r=>k r M
      | _=>ah 333
    | _=>ah 334
  | _=>ah 335
def FR (M:St) (id sz:Nat) (cells:List (Option (List (List AV)))) (hole:Option (Nat×AV)) (x:AV) (K:St→Prop) (r:Option Nat) (ks:List AV):Prop :=
  match r with
  | some i=>gy hole i=true∧(bc (M.o.set id (.own (some ks) sz cells (some (i,x)))) fun o=>K { t:=M.t,l:=M.l,o:=o,b:=M.b })
  | none=>match hole with
    | none=>bc (M.o.set id (.own (some ks) sz (cells++[none]) (some (cells.length,x)))) fun o=>K { t:=M.t,l:=M.l,o:=o,b:=M.b }
    | some _=>ah 339
def pQ (P:Program) (a:uO) (t:TypeId) (m key x:AV) (M:St) (K:St→Prop):Prop :=
  match P.underlying t with
  | some (.map kt _)=>match m with
    | .mp id=>match M.o[id]? with
      | some (.own (some ks) sz cells hole)=>bw (qg x) ((∀ K':Option Nat→List AV→Prop,K' a.at_ a.ks→fY P kt key (jI ks) fun kv r=>bw (v8 P kt kv) (match r with
          | some i=>bw (Instr.sameBits 10000 ((ks[i]?.bind uo).getD (.bool false)) kv) (K' (some i) (ks.set i key))
          | none=>K' none (ks++[key])))∧FR M id sz cells hole x K a.at_ a.ks)
      | _=>ah 340
    | _=>ah 341
  | _=>ah 342
def Ab (P:Program) (A:dh) (pl:bA) (o:Oper) (vs:List AV) (M:St) (k:AV→St→Prop):Prop :=
  match pO A.own (keyOf o) with
  | none=>jD P pl o vs M k
  | some a=>match o.op,vs with
    | .load t _,[p]=>gV M p fun id i=>qG P a t (zW pl o) M id i k
    | .store t _ _,[p,v]=>gV M p fun id i=>ol P t M id i v fun M'=>k .bad M'
    | .makeSlice t _ _,[l,c]=>qH P (zX pl.ix o.dst M.o.length) a t l c M k
    | .lookup t _ _ ok,[m,key]=>qI P a t m key ok M k
    | .mapUpdate t _ _ _,[m,key,x]=>pQ P a t m key x M fun M'=>k .bad M'
    | .insert t _ _ _,[m,key,x]=>pQ P a t m key x M fun M'=>k .bad M'
    | _,_=>ah 343
def mU (A:dh) (S:St) (id:Nat) (K:St→Prop):Prop :=
  match pO A.own (id + 2000000) with
  | none=>gw S id K
  | some a=>match S.o[id]? with
    | some (.own ks sz cells (some (j,.mf k)))=>match S.o[k]? with
      | some (.arr true sz' rows)=>bw (Nat.beq sz' sz) (Nat.blt j cells.length=true∧(cells.set j (some rows)=a.cs∧fb [k] S fun S1=>bc (S1.o.set id (.own ks sz a.cs none)) fun o=>K { t:=S1.t,l:=S1.l,o:=o,b:=S1.b }))
      | _=>ah 320
    | some (.own ks sz cells (some (j,.nilsl)))=>Nat.blt j cells.length=true∧(cells.set j none=a.cs∧(bc (S.o.set id (.own ks sz a.cs none)) fun o=>K { t:=S.t,l:=S.l,o:=o,b:=S.b }))
    | _=>ah 321
def tA (A:dh):List Nat→St→(St→Prop)→Prop
  | [],S,K=>K S
  | id::ids,S,K=>mU A S id fun S'=>tA A ids S' K
def pR (A:dh) (S:St) (id:Nat) (K:St→Prop):Prop :=
  match pO A.mpr (id + 2000000) with
  | none=>iQ S id K
  | some R=>match S.o[id]? with
    | some (.own (some ks) _ cells none)=>l3 ks cells=R∧(bc (S.o.set id (.mapo true R)) fun o=>K { t:=S.t,l:=S.l,o:=o,b:=S.b })
    | _=>ah 344
def qJ (A:dh):List Nat→St→(St→Prop)→Prop
  | [],S,K=>K S
  | id::ids,S,K=>pR A S id fun S'=>qJ A ids S' K
def tE (A:dh) (pl:bA) (id:Nat) (S:St) (K:St→Prop):Prop :=
  match dV pl.cl id with
  | false=>K S
  | true=>tA A (yP S.o.length) S fun S1=>match dV pl.fr id with
    | false=>K S1
    | true=>qJ A (yP S1.o.length) S1 K
def zG (C:Ctx) (A:dh) (o:Oper) (vs:List AV) (M:St) (k:AV→St→Prop):Prop :=
  match o.op,vs with
  | .makeSlice t _ _,[l,c]=>match dV A.chk (keyOf o) with
    | true=>jQ C.P t l c M fun M' r=>k r M'
    | false=>jJ C o vs M k
  | .call c,.fn fid first cap::as=>match c.callee with
    | .value _=>bw (!(C.pure fid)&&(first++as++cap).all (rL 4)) (match pO A.sto (keyOf o) with
      | some (r,o')=>(C.scall fid (first++as++cap) M.o fun r' o''=>r'=r∧o''=o')∧bw (bL M.o o' 0).isEmpty (k r { t:=M.t,l:=M.l,o:=o',b:=M.b })
      | none=>C.scall fid (first++as++cap) M.o fun r o'=>bw (bL M.o o' 0).isEmpty (k r { t:=M.t,l:=M.l,o:=o',b:=M.b }))
    | _=>ah 310
  | _,_=>DF C A o vs M k
def Cu (C:Ctx) (A:dh) (pl:bA) (o:Oper) (vs:List AV) (M:St) (k:AV→St→Prop):Prop :=
  match eT pl o with
  | true=>Ab C.P A pl o vs M k
  | false=>zG C A o vs M k
def Ed (C:Ctx) (A:dh) (pl:bA) (o:Oper) (S:St) (K:St→Prop):Prop :=
  cY S o.op.operands.toList fun vs=>Ab C.P A pl o vs (cC S) fun r M=>br o.dst r (ey S M) K
def Cv (C:Ctx) (A:dh) (pl:bA) (o:Oper) (S:St) (K:St→Prop):Prop :=
  cY S o.op.operands.toList fun vs=>Cu C A pl o vs (cC S) fun r M=>br o.dst r (ey S M) K
def Ee (C:Ctx) (o:Oper) (S:St) (K:St→Prop):Prop :=
  cY S o.op.operands.toList fun vs=>EX C o vs fun r=>br o.dst r S K
def lN (A:dh) (o:Oper) (K:St→Prop) (S:St):Prop:=Eb A o.dst S fun S'=>Cq A (keyOf o) S' K
def EY (C:Ctx) (A:dh) (pl:bA) (o:Oper) (S:St) (K:St→Prop):Prop :=
  match BV o with
  | 0=>Cr C A pl o S (lN A o K)
  | 1=>Ct C A o S (lN A o K)
  | 2=>Ec C A o S (lN A o K)
  | _=>DG C A pl o S (lN A o K)
def Ef (C:Ctx) (A:dh) (pl:bA) (o:Oper) (S:St) (K:St→Prop):Prop :=
  match eT pl o with
  | true=>Ed C A pl o S (lN A o K)
  | false=>EY C A pl o S K
def yn (C:Ctx) (A:dh) (pl:bA) (o:Oper) (S:St) (K:St→Prop):Prop :=
  match eG pl o with
  | 0=>Cr C A pl o S (lN A o K)
  | 1=>Ct C A o S (lN A o K)
  | 2=>Cv C A pl o S (lN A o K)
  | 4=>match o.dst with
    | some d=>br o.dst (.ptr (.L d) 0 0) S K
    | none=>ah 217
  | 5=>Ee C o S (lN A o K)
  | _=>match xr pl o with
    | true=>ah 219
    | false=>DG C A pl o S (lN A o K)
def EZ (op:BinOp):Bool :=
  match op with
  | .eql | .neq=>true
  | _=>false
def vN (op:BinOp):Bool :=
  match op with
  | .eql=>true
  | _=>false
def Eg (P:Program) (o:Oper) (S:St) (K:St→Prop):Prop :=
  match o.op with
  | .binOp op t x (.const (.slice none 0 0)) _=>match P.underlying t with
    | some (.slice _)=>cy S x fun a=>match a with
      | .sl rows=>bw (EZ op) ((rows=[]→br o.dst (.v (.bool (vN op))) S K)∧br o.dst (.v (.bool (!(vN op)))) S K)
      | _=>ah 460
    | _=>ah 461
  | _=>ah 462
def wU (C:Ctx) (A:dh) (pl:bA) (all:Array Oper):List Oper→St→(St→Prop)→Prop
  | [],S,K=>K S
  | o::rest,S,K =>
    match o.guard with
    | none=>match dV A.dem (keyOf o) with
      | true=>Eg C.P o S fun S'=>wU C A pl all rest S' K
      | false=>Ef C A pl o S fun S'=>wU C A pl all rest S' K
    | some (j,want) =>
      match pf all j with
      | none=>ah 218
      | some d=>fe d S fun b S1=>gsel b want (Ef C A pl o S1 fun S'=>wU C A pl all rest S' K) (br o.dst (.tup []) S1 fun S'=>wU C A pl all rest S' K)
def Gy (C:Ctx) (A:dh) (pl:bA) (all:Array Oper) (o:Oper) (S:St) (K:St→Prop):Prop :=
  match o.guard with
  | none=>bw (gW pl all o S) (yn C A pl o S K)
  | some (j,want) =>
    match pf all j with
    | none=>ah 218
    | some d=>fe d S fun b S1=>gsel b want (bw (gW pl all o S1) (yn C A pl o S1 K)) (br o.dst (.tup []) S1 K)
def FG (C:Ctx) (A:dh) (pl:bA) (aj:Array Oper) (i:Nat) (S:St) (K:St→Prop):Prop :=
  match aj[i]? with
  | none=>ah 303
  | some o=>Gy C A pl aj o S K
def oT (C:Ctx) (A:dh) (pl:bA) (aj:Array Oper):PT→Option (St×Prop)→St→(St→Prop)→Prop
  | .done,m,S,K=>match m with
    | none=>K S
    | some (_,X)=>X
  | .go i t,m,S,K=>match m with
    | none=>FG C A pl aj i S fun S'=>oT C A pl aj t none S' K
    | some (_,_)=>ah 305
  | .alt i t r,m,S,K=>match m with
    | none=>FG C A pl aj i S fun S'=>oT C A pl aj t none S' fun S1=>oT C A pl aj r (some (S1,K S1)) S K
    | some (S1,X)=>FG C A pl aj i S fun S'=>oT C A pl aj t none S' fun S2=>S2=S1∧oT C A pl aj r (some (S1,X)) S K
def nt (f:Nat→Option PT):List Nat→Option PT
  | []=>some .done
  | i::is=>match f i with
    | some t=>match nt f is with
      | some r=>some (.alt i t r)
      | none=>none
    | none=>none
def G7:List Nat→Bool
  | [_,_] | [_,_,_] | [_,_,_,_]=>true
  | _=>false
def iN (pl:bA) (aj:Array Oper) (ws:List Nat):Nat→Nat→Array Bool→Option PT
  | 0,_,listed=>match Region.ready .any aj listed with
    | []=>some .done
    | _::_=>none
  | n + 1,a,listed =>
    match Region.ready .any aj listed with
    | []=>some .done
    | r::rs=>match l5 pl aj ws listed (r::rs) with
      | some k=>match iN pl aj ws n a (listed.setIfInBounds k true) with | some t=>some (.go k t) | none=>none
      | none=>match rs with
        | []=>match iN pl aj ws n a (listed.setIfInBounds r true) with | some t=>some (.go r t) | none=>none
        | _::_=>match G7 (r::rs),a with
          | true,a + 1=>nt (fun i=>iN pl aj ws n a (listed.setIfInBounds i true)) (r::rs)
          | _,_=>none
def vO (pl:bA) (aj:Array Oper) (ws:List Nat):Nat→Array Bool→Option PT
  | 0,listed=>iN pl aj ws 0 6 listed
  | n + 1,listed=>match l6 aj listed (Region.ready .any aj listed) with
    | some i=>match vO pl aj ws n (listed.setIfInBounds i true) with | some t=>some (.go i t) | none=>none
    | none=>iN pl aj ws (n + 1) 6 listed
def tH (pl:bA) (aj:Array Oper):Option PT :=
  match Gl aj with
  | false=>none
  | true=>match pl.cl with
    | []=>iN pl aj (bM aj.toList []) aj.size 3 (Array.replicate aj.size false)
    | _::_=>vO pl aj (bM aj.toList []) aj.size (Array.replicate aj.size false)
def jr (pl:bA) (ord:List (Nat×PT)):Code→Bool
  | .region id aj true=>match pO ord id,tH pl aj with
    | some is,some js=>zC is js
    | _,_=>false
  | .seq a b=>jr pl ord a&&jr pl ord b
  | .cond _ a b=>jr pl ord a&&jr pl ord b
  | .block _ c=>jr pl ord c
  | .loop c=>jr pl ord c
  | _=>true
def nu:Code→Nat
  | .region id _ _=>id
  | .seq a _=>nu a
  | .cond _ a _=>nu a
  | .block _ c=>nu c
  | .loop c=>nu c
  | _=>0
def Bo (A:EU) (id:Nat) (S:St) (K:St→Prop):Prop :=
  match pO A.wr id with
  | some L=>Cn L S K
  | none=>K S
def DI:Type:=Code→St→(Ex→St→Prop)→Prop
def tJ (C:Ctx) (cd:DI) (A:EU) (pl:bA):Code→St→(Ex→St→Prop)→Prop
  | .skip,S,K=>K .nrm S
  | .region id aj draw,S,K =>
    match draw with
    | false=>wU C (Bm A id) pl aj aj.toList S fun S'=>tE (Bm A id) pl id S' fun S''=>Bo A id S'' (K .nrm)
    | true=>match pO A.ord id with
      | some is=>bw (qT pl aj) (uu C.P (ca aj.toList) S fun S1=>oT C (Bm A id) pl aj is none S1 fun S'=>jb (ca aj.toList) S' (tE (Bm A id) pl id S' fun S''=>Bo A id S'' (K .nrm)))
      | none=>ah 440
  | .seq a b,S,K=>tJ C cd A pl a S fun e S'=>match e with
    | .nrm=>match pO A.cut (nu b) with
      | some (W,L,e1,S1)=>Cn L (wk W S') fun S2=>cd b S2 (fun e' S3=>e'=e1∧S3=S1)∧K e1 S1
      | none=>tJ C cd A pl b S' K
    | .ex i=>K (.ex i) S'
    | .ret=>K .ret S'
  | .cond c x y,S,K=>lV c S fun b S'=>match b with
    | true=>tJ C cd A pl x S' K
    | false=>tJ C cd A pl y S' K
  | .block id c,S,K=>tJ C cd A pl c S fun e S'=>match e with
    | .ex i=>match Nat.beq i id with | true=>K .nrm S' | false=>K (.ex i) S'
    | .nrm=>K .nrm S'
    | .ret=>K .ret S'
  | .loop c,S,K=>match pO A.lps (nu c) with
    | some (W,L,e,S1)=>Cn L (wk W S) fun S2=>(C.loop pl c S2 fun e' S'=>e'=e∧S'=S1)∧K e S1
    | none=>C.loop pl c S K
  | .exit id,S,K=>K (.ex id) S
  | .ret,S,K=>K .ret S
  | _,_,_=>ah 119
def sub:Code→List Nat→Code
  | c,[]=>c
  | .seq a _,0::p=>sub a p
  | .seq _ b,_::p=>sub b p
  | .cond _ a _,0::p=>sub a p
  | .cond _ _ b,_::p=>sub b p
  | .block _ c,_::p=>sub c p
  | .loop c,_::p=>sub c p
  | c,_=>c
def dw (P:Program) (f:Nat):Code :=
  match P.funcs[f]? with
  | some fn=>fn.body.getD .skip
  | none=>.skip
def dk (S S':St):Prop:=∀ (G:Gh) (E:Env) (a:Act) (w:World),ai G pn E S w→TR E S.t a→∃ E',ai G pn E' S' w∧TR E' S'.t a
def E0:Ex→Nat
  | .nrm=>0
  | .ret=>1
  | .ex i=>i + 2
def E4 (C:Ctx) (cd:DI) (A:EU) (pl:bA) (we:List (Nat×(Wk×Le))) (c:Code) (S:St) (K:Ex→St→Prop):Prop :=
  tJ C cd A pl c S fun e S'=>match pO we (E0 e) with
    | some (W,L)=>Cn L (wk W S') (K e)
    | none=>K e S'
def GM:List (Nat×AV)→Nat→Nat→List AV
  | _,_,0=>[]
  | xs,i,n + 1=>(match pO xs i with | some a=>a | none=>.bad)::GM xs (i + 1) n
def gd (n:Nat) (ts:List (Nat×AV)) (l:List (Nat×List AV)) (o:List Ob) (b:Nat):St:={ t:=GM ts 0 n,l:=l,o:=o,b:=b }
theorem dk.refl (S:St):dk S S:=fun _ E _ _ h k=>⟨E,h,k⟩
theorem dk.trans {S S' S'':St} (h:dk S S') (k:dk S' S''):dk S S'':=fun G E a w hM ht=>by
  obtain ⟨E1,h1,h2⟩:=h G E a w hM ht
  exact k G E1 a w h1 h2
theorem iT.refl (a:AV):iT a a:=fun _ _ h=>h
theorem iT.ofEq {a b:AV} (h:a=b):iT a b:=by rw [h]; exact .refl _
theorem iT.trans {a b c:AV} (h:iT a b) (k:iT b c):iT a c:=fun _ _ hv=>k _ _ (h _ _ hv)
theorem iT.bad (a:AV):iT a .bad:=fun _ _ _=>.bad _ _
theorem iT.nil:iT .nilsl (.sl []):=fun E u h=>by cases h; exact .sln E
theorem iT.esl:iT .esl (.sl []):=fun E u h=>by
  cases h with
  | esln=>exact .sln E
  | esl _ a=>exact .sle E a 0
theorem lM.refl (r:List AV):lM r r:=⟨rfl,fun _ _ _ h k=>by rw [h] at k; cases k; exact .refl _⟩
theorem lM.nil:lM [] []:=.refl _
theorem lM.cons {a b:AV} {r r':List AV} (h:iT a b) (k:lM r r'):lM (a::r) (b::r') :=
  ⟨by simp [k.1],fun i x y h1 h2=>by
    cases i with
    | zero=>simp at h1 h2; subst h1 h2; exact h
    | succ i=>exact k.2 i x y (by simpa using h1) (by simpa using h2)⟩
theorem lM.vrs {r r':List AV} {E:Env} {us:List Value} (h:lM r r') (hv:bU E r us):bU E r' us :=
  ⟨by rw [← h.1]; exact hv.1,fun m c u h1 h2=>by
    have hm:m<r.length:=by rw [h.1]; exact (List.getElem?_eq_some_iff.1 h1).1
    exact h.2 m _ c (List.getElem?_eq_getElem hm) h1 _ _ (hv.2 m _ u (List.getElem?_eq_getElem hm) h2)⟩
theorem iT.agg {r r':List AV} (h:lM r r'):iT (.agg r) (.agg r'):=fun E u hv=>by
  obtain ⟨us,rfl,h1⟩:=hv.aggI
  exact bU.aggV (h.vrs h1)
theorem iT.tup {r r':List AV} (h:lM r r'):iT (.tup r) (.tup r'):=fun E u hv=>by
  obtain ⟨us,rfl,h1⟩:=hv.tupI
  have:=h.vrs h1
  exact .tup us (by simpa using this.1) (fun m c u h1 h2=>this.2 m c u h1 (by simpa using h2))
theorem iT.fptr {r r':List AV} {j:Nat} (h:lM r r'):iT (.fptr r j) (.fptr r' j):=fun E u hv=>by
  cases hv with
  | fptr j us h1 h2 h3 h4 =>
    have:=h.vrs (E:=E.fz) (us:=us) ⟨h1.symm,h2⟩
    exact .fptr j us this.1.symm this.2 h3 h4
theorem g7.refl (r:List (List AV)):g7 r r:=⟨rfl,fun _ _ _ h k=>by rw [h] at k; cases k; exact .refl _⟩
theorem g7.nil:g7 [] []:=.refl _
theorem g7.cons {a b:List AV} {r r':List (List AV)} (h:lM a b) (k:g7 r r'):g7 (a::r) (b::r') :=
  ⟨by simp [k.1],fun i x y h1 h2=>by
    cases i with
    | zero=>simp at h1 h2; subst h1 h2; exact h
    | succ i=>exact k.2 i x y (by simpa using h1) (by simpa using h2)⟩
theorem g7.app {a b r r':List (List AV)} (h:g7 a b) (k:g7 r r'):g7 (a++r) (b++r'):=by
  induction a generalizing b with
  | nil =>
    have:b=[]:=List.eq_nil_of_length_eq_zero h.1.symm
    subst this
    exact k
  | cons x a ih =>
    cases b with
    | nil=>exact absurd h.1 (by simp)
    | cons y b=>exact .cons (h.2 0 x y rfl rfl) (ih ⟨by simpa using h.1,fun i p q h1 h2=>h.2 (i + 1) p q (by simpa using h1) (by simpa using h2)⟩)
theorem lM.app {a b r r':List AV} (h:lM a b) (k:lM r r'):lM (a++r) (b++r'):=by
  induction a generalizing b with
  | nil =>
    have:b=[]:=List.eq_nil_of_length_eq_zero h.1.symm
    subst this
    exact k
  | cons x a ih =>
    cases b with
    | nil=>exact absurd h.1 (by simp)
    | cons y b=>exact .cons (h.2 0 x y rfl rfl) (ih ⟨by simpa using h.1,fun i p q h1 h2=>h.2 (i + 1) p q (by simpa using h1) (by simpa using h2)⟩)
theorem g7.flat {r r':List (List AV)} (h:g7 r r'):lM r.flatten r'.flatten:=by
  induction r generalizing r' with
  | nil =>
    have:r'=[]:=List.eq_nil_of_length_eq_zero h.1.symm
    subst this
    exact .refl _
  | cons x a ih =>
    cases r' with
    | nil=>exact absurd h.1 (by simp)
    | cons y b =>
      have h1:=h.2 0 x y rfl rfl
      have h2:=ih (r':=b) ⟨by simpa using h.1,fun i p q h1 h2=>h.2 (i + 1) p q (by simpa using h1) (by simpa using h2)⟩
      rw [List.flatten_cons,List.flatten_cons]
      have app:∀ {a b r r':List AV},lM a b→lM r r'→lM (a++r) (b++r'):=by
        intro a b r r' h k
        induction a generalizing b with
        | nil =>
          have:b=[]:=List.eq_nil_of_length_eq_zero h.1.symm
          subst this
          exact k
        | cons x a ih =>
          cases b with
          | nil=>exact absurd h.1 (by simp)
          | cons y b=>exact .cons (h.2 0 x y rfl rfl) (ih ⟨by simpa using h.1,fun i p q h1 h2=>h.2 (i + 1) p q (by simpa using h1) (by simpa using h2)⟩)
      exact app h1 h2
theorem g7.lens {r r':List (List AV)} {sz:Nat} (h:g7 r r') (hl:∀ x∈r,x.length=sz):∀ x∈r',x.length=sz:=by
  intro x hx
  obtain ⟨i,hi⟩:=List.getElem?_of_mem hx
  have hlt:i<r.length:=by rw [h.1]; exact (List.getElem?_eq_some_iff.1 hi).1
  rw [← (h.2 i _ x (List.getElem?_eq_getElem hlt) hi).1]
  exact hl _ (List.getElem_mem hlt)
theorem iT.sl {r r':List (List AV)} (h:g7 r r'):iT (.sl r) (.sl r'):=fun E u hv=>by
  cases hv with
  | sln =>
    have:r'=[]:=List.eq_nil_of_length_eq_zero h.1.symm
    subst this
    exact .sln E
  | sle _ a cap =>
    have:r'=[]:=List.eq_nil_of_length_eq_zero h.1.symm
    subst this
    exact .sle E a cap
  | sl us h1 h2 h3 h4 h5 h6 h7 =>
    have hf:=h.flat
    have:=hf.vrs (E:=E.fz) (us:=us) ⟨h3.symm,h4⟩
    rw [h.1]
    exact .sl us h1 (h.lens h2) this.1.symm this.2 h5 h6 (by rw [← h.1]; exact h7)
theorem Ac {ts:List Nat}:∀ {t:List AV} {i j:Nat} {c:AV},(Dz ts i t)[j]?=some c→c=.bad∨t[j]?=some c
  | [],_,_,_,h=>by simp [Dz] at h
  | x::xs,i,0,c,h=>by
    simp only [Dz,List.getElem?_cons_zero,Option.some.injEq] at h
    split at h
    · exact .inr (by rw [← h]; rfl)
    · exact .inl h.symm
  | x::xs,i,j + 1,c,h=>by
    simp only [Dz,List.getElem?_cons_succ] at h
    rw [List.getElem?_cons_succ]
    exact Ac h
theorem Ad {ts:List Nat}:∀ {t:List AV} {i:Nat},(Dz ts i t).length=t.length
  | [],_=>rfl
  | x::xs,i=>by simp [Dz,Ad]
theorem Cw (ts:List Nat) (S:St):dk S { t:=Dz ts 0 S.t,l:=S.l,o:=S.o,b:=S.b }:=fun _ E _ _ hM ht =>
  ⟨E,hM.congr rfl rfl rfl,by rw [Ad]; exact ht.len,fun n c u h1 h2=>by
    rcases Ac h1 with h | h
    · rw [h]; exact .bad _ _
    · exact ht.val n c u h h2,ht.df,ht.gt⟩
theorem wV (d:Nat) (S:St):dk S (dQ d S):=fun G E a w hM ht=>by
  obtain ⟨E1,h1,h2,_⟩:=nO hM ht d rfl
  exact ⟨E1,h1,h2⟩
theorem pS:∀ (ds:List Nat) (S:St),dk S (wQ ds S)
  | [],S=>.refl S
  | d::ds,S=>(wV d S).trans (pS ds _)
theorem Bp (i:Nat) (S:St):dk S (de i S):=fun _ _ _ _ hM ht =>
  let ⟨h1,h2⟩:=q7 hM ht i
  ⟨_,h1,h2⟩
theorem tK:∀ (ds:List Nat) (S:St),dk S (Cm ds S)
  | [],S=>.refl S
  | d::ds,S=>(Bp d S).trans (tK ds _)
theorem mC:∀ {os:List Ob} {i:Nat} {x:Ob},wR os=true→os[i]?=some x→x=.dead
  | [],i,x,_,h=>by simp at h
  | .dead::os,0,x,_,h=>by simp at h; exact h.symm
  | .dead::os,i + 1,x,h,h1=>mC (os:=os) (i:=i) h (by simpa using h1)
  | .arr _ _ _::os,_,_,h,_=>by cases h
  | .mapo _ _::os,_,_,h,_=>by cases h
  | .own _ _ _ _::os,_,_,h,_=>by cases h
theorem Bq (n:Nat) (S:St):dk S (ER n S):=fun _ E _ _ hM ht=>by
  unfold ER
  split
  · rename_i h
    rw [Bool.and_eq_true] at h
    have hb:=Nat.le_of_ble_eq_true h.2
    have hbl:=hM.bl
    refine ⟨E,⟨hM.hp,hM.os,hM.tape,hM.output,hM.size,hM.keep,hM.F0,hM.Flt,hM.Fnew,hM.own,hM.inj,hM.loc,fun id=>?_,fun id hid=>?_,?_,hM.szs,hM.pk,fun id=>?_⟩,ht⟩
    · have h0:=hM.obj id
      show eD E (S.o.take n)[id]? _
      rw [List.getElem?_take]
      split
      · exact h0
      · rename_i hn
        cases hx:S.o[id]? with
        | none=>rw [hx] at h0; exact h0
        | some x =>
          have:x=.dead:=mC h.1 (i:=id - n) (by rw [List.getElem?_drop]; rw [show n + (id - n)=id by omega]; exact hx)
          rw [hx,this] at h0
          revert h0
          cases E.mu (.O id) with
          | none=>exact fun _=>trivial
          | some _=>exact fun h=>h.elim
    · show (S.o.take n)[id]?=some .dead∨_
      have hid':id<S.b:=hid
      rw [List.getElem?_take,if_pos (by omega)]
      exact hM.old id hid
    · show S.b≤(S.o.take n).length
      rw [List.length_take]
      omega
    · have h0:=hM.ow id
      show dv E id (S.o.take n)[id]?
      rw [List.getElem?_take]
      split
      · exact h0
      · rename_i hn
        cases hx:S.o[id]? with
        | none=>rw [hx] at h0; exact h0
        | some x =>
          have:x=.dead:=mC h.1 (i:=id - n) (by rw [List.getElem?_drop]; rw [show n + (id - n)=id by omega]; exact hx)
          rw [hx,this] at h0
          exact h0
  · exact ⟨E,hM,ht⟩
theorem tO {G:Gh} {E:Env} {S:St} {w:World} (hM:ai G pn E S w):E.mu (.O S.o.length)=none:=by
  have:=hM.obj S.o.length
  rw [List.getElem?_eq_none (Nat.le_refl _)] at this
  revert this
  cases E.mu (.O S.o.length) with
  | none=>exact fun _=>rfl
  | some _=>exact fun h=>h.elim
theorem yo {G:Gh} {E:Env} {S:St} {w:World} (hM:ai G pn E S w) (sz:Nat) (t:List AV):ai G pn ⟨E.F,aD E.mu (.O S.o.length) .virt,E.h⟩ { t:=t,l:=S.l,o:=S.o++[.arr true sz []],b:=S.b } w:=by
  have hbl:=hM.bl
  refine hM.addkey' (key:=.O S.o.length) (mv:=.virt) (fun _ _=>rfl) (fun _ h=>by cases h) (tO hM) (fun _ _ _ _ h=>by cases h) (fun _ _=>rfl) (fun id hid=>?_) rfl ?_ (fun id h=>?_) (fun _ h=>by cases h) (fun id h=>?_) ?_
  · show (S.o++[_])[id]?=_
    by_cases h:id<S.o.length
    · rw [List.getElem?_append_left h]
    · have hne:id≠S.o.length:=fun e=>hid (by rw [e])
      rw [List.getElem?_eq_none (by simp; omega),List.getElem?_eq_none (by omega)]
  · show S.b≤(S.o++[_]).length
    simp
    omega
  · cases h
    exact hbl
  · cases h
    show eD _ (S.o++[_])[S.o.length]? _
    rw [List.getElem?_append_right (Nat.le_refl _),Nat.sub_self]
    rfl
  · exact hM.ow_push rfl rfl
theorem om:∀ (ps:List (Nat×Nat)) (S:St),dk S (ym ps S)
  | [],S=>.refl S
  | (d,sz)::ps,S=>by
    unfold ym
    split
    · rename_i hd
      refine dk.trans ?_ (om ps _)
      intro G E a w hM ht
      refine ⟨_,yo hM sz _,?_⟩
      have hle:LE E ⟨E.F,aD E.mu (.O S.o.length) .virt,E.h⟩:=iu (tO hM)
      refine ⟨by simpa using ht.len,fun n c u h1 h2=>?_,ht.df,ht.gt.mono hle⟩
      have h1':(S.t.set d (.mf S.o.length))[n]?=some c:=h1
      rw [List.getElem?_set] at h1'
      split at h1'
      · rename_i e
        subst e
        split at h1'
        · cases h1'
          have hv:=ht.val d _ u hd h2
          cases hv
          exact .mfn (by show aD _ _ _ _=_; unfold aD; rw [if_pos rfl])
        · cases h1'
      · exact (ht.val n c u h1' h2).mono hle
    · exact om ps S
theorem ln:∀ (ps:List (Nat×Nat×Nat)) (S:St),dk S (vL ps S)
  | [],S=>.refl S
  | (d,j,sz)::ps,S=>by
    unfold vL
    split
    · rename_i row hd
      split
      · rename_i hj
        refine dk.trans ?_ (ln ps _)
        intro G E a w hM ht
        have hle:LE E ⟨E.F,aD E.mu (.O S.o.length) .virt,E.h⟩:=iu (tO hM)
        refine ⟨_,?_,ht.mono hle⟩
        have h0:=yo hM sz S.t
        refine ⟨h0.hp,h0.os,h0.tape,h0.output,h0.size,h0.keep,h0.F0,h0.Flt,h0.Fnew,h0.own,h0.inj,fun e=>?_,h0.obj,h0.old,h0.bl,h0.szs,(fun _ _ h=>by cases h),h0.ow⟩
        have h1:=h0.loc e
        show fH pn _ (aJ (o_ S.l d (row.set j (.mf S.o.length))) e) e
        rw [g3 hd]
        split
        · rename_i e'
          subst e'
          have h1':fH pn ⟨E.F,aD E.mu (.O S.o.length) .virt,E.h⟩ (aJ S.l d) d:=h1
          rw [hd] at h1'
          rcases h1' with ⟨b,h2,h3,h4,us,ty,h5,h6,h7⟩ | ⟨_,h2,_⟩
          · refine .inl ⟨b,by simpa using h2,by simpa using h3,by simp,us,ty,h5,by simpa using h6,fun m c hc=>?_⟩
            have hf:[row.set j (.mf S.o.length)].flatten=row.set j (.mf S.o.length):=by simp
            have hf0:[row].flatten=row:=by simp
            rw [hf,List.getElem?_set] at hc
            split at hc
            · rename_i e'
              subst e'
              split at hc
              · cases hc
                obtain ⟨u,hu,hv⟩:=h7 j .nilsl (by rw [hf0]; exact hj)
                refine ⟨u,hu,?_⟩
                cases hv
                exact .mfn (by show aD _ _ _ _=_; unfold aD; rw [if_pos rfl])
              · cases hc
            · exact h7 m c (by rw [hf0]; exact hc)
          · cases h2
        · exact h1
      · exact ln ps S
    · exact ln ps S
theorem Ae {G:Gh} {E:Env} {S:St} {w:World} {a:Act} (hM:ai G pn E S w) (ht:TR E S.t a) (ids:List Nat):LE (E.fd ids) ⟨FD E ids,g6 ids E.mu,E.h⟩∧ai G pn ⟨FD E ids,g6 ids E.mu,E.h⟩ (dS ids S) w∧TR ⟨FD E ids,g6 ids E.mu,E.h⟩ (dS ids S).t a:=by
  obtain ⟨hS1,ht1⟩:=jY (ids:=ids) hM ht
  obtain ⟨hle2,hS2⟩:=hS1.freeze (F':=FD E ids) (fun b h=>.inl h) (fun b h=>by
    rcases h with h | ⟨id,hid,o',s,n,hm⟩
    · exact .inl h
    · obtain ⟨h1,h2,h3⟩:=hM.own _ _ _ _ _ hm
      refine .inr ⟨h2,h3,fun k o'' s' n' h'=>?_⟩
      obtain ⟨h4,h5⟩:=f5 h'
      exact h5 id hid (hM.inj _ _ _ _ _ _ _ _ _ h4 hm))
  exact ⟨⟨fun _ h=>h,fun _ _ _ h=>(by cases h),fun _ _=>rfl,fun _ _ _ _ _ _ h=>(by cases h)⟩,hS2,ht1.mono hle2⟩
theorem Br {S:St} {d j:Nat} {row:List AV} {x y:AV} (hr:aJ S.l d=some row) (hj:row[j]?=some x) (hy:yL S.o 6 x=some y):dk S (ES (cO S.o 6 x) d j y S):=by
  intro G E a w hM ht
  obtain ⟨hle,hS2,ht2⟩:=Ae hM ht (cO S.o 6 x)
  unfold ES
  split
  · rename_i row' hr'
    refine ⟨_,⟨hS2.hp,hS2.os,hS2.tape,hS2.output,hS2.size,hS2.keep,hS2.F0,hS2.Flt,hS2.Fnew,hS2.own,hS2.inj,fun e=>?_,hS2.obj,hS2.old,hS2.bl,hS2.szs,(fun _ _ h=>by cases h),hS2.ow⟩,ht2⟩
    show fH pn _ (aJ (o_ (dS (cO S.o 6 x) S).l d (row'.set j y)) e) e
    rw [g3 hr']
    split
    · rename_i e'
      subst e'
      have l1:=hM.loc d
      have l2:=hS2.loc d
      rw [hr] at l1
      rw [hr'] at l2
      rcases l1 with ⟨b,h2,h3,h4,us,ty,h5,h6,h7⟩ | ⟨_,h2,_⟩
      · rcases l2 with ⟨b',k2,k3,k4,us',ty',k5,k6,k7⟩ | ⟨_,k2,_⟩
        · have k2':=(f5 k2).1
          rw [h2] at k2'
          injection k2' with k2'
          injection k2' with e1 _ _ _
          subst e1
          have k5':E.h[b]?=_:=k5
          rw [h5] at k5'
          cases k5'
          refine .inl ⟨b,by simpa using k2,by simpa using k3,by simp,us,ty,k5,by simpa using k6,fun m c hc=>?_⟩
          have hf:[row'.set j y].flatten=row'.set j y:=by simp
          have hf0:[row'].flatten=row':=by simp
          rw [hf,List.getElem?_set] at hc
          split at hc
          · rename_i e'
            subst e'
            split at hc
            · cases hc
              have hf1:[row].flatten=row:=by simp
              obtain ⟨u,hu,hv⟩:=h7 j x (by rw [hf1]; exact hj)
              exact ⟨u,hu,(fh hM 6 hy hv (ids:=cO S.o 6 x) (fun _ h=>h)).mono hle⟩
            · cases hc
          · exact k7 m c (by rw [hf0]; exact hc)
        · cases k2
      · cases h2
    · exact hS2.loc e
  · exact ⟨_,hS2,ht2⟩
theorem f8:∀ (ds:List Nat) (S:St),dk S (uN ds S)
  | [],S=>.refl S
  | d::ds,S=>by
    unfold uN
    split
    · split
      · rename_i row hr
        split
        · rename_i x hx
          split
          · rename_i y hy
            exact (Br hr hx hy).trans (f8 ds _)
          · exact f8 ds S
        · exact f8 ds S
      · exact f8 ds S
    · split
      · rename_i x hx
        split
        · rename_i y hy
          refine dk.trans ?_ (f8 ds _)
          intro G E a w hM ht
          obtain ⟨hle,hS2,ht2⟩:=Ae hM ht (cO S.o 6 x)
          refine ⟨_,hS2.congr rfl rfl rfl,by simpa using ht2.len,fun n c u h1 h2=>?_,ht2.df,ht2.gt⟩
          have h1':((dS (cO S.o 6 x) S).t.set d y)[n]?=some c:=h1
          rw [List.getElem?_set] at h1'
          split at h1'
          · rename_i e
            subst e
            split at h1'
            · cases h1'
              exact (fh hM 6 hy (ht.val d _ u hx h2) (ids:=cO S.o 6 x) (fun _ h=>h)).mono hle
            · cases h1'
          · exact ht2.val n c u h1' h2
        · exact f8 ds S
      · exact f8 ds S
theorem Cx (W:Wk) (S:St):dk S (Gx W S):=by
  unfold Gx
  exact (Cw W.ts S).trans ((pS W.ls _).trans ((tK _ _).trans ((Bq _ _).trans ((om _ _).trans (ln _ _)))))
theorem mV (W:Wk) (S:St):dk S (wk W S):=(f8 W.fz S).trans (Cx W _)
theorem yp:∀ {xs:List (Nat×AV)} {S:St} {K:St→Prop},ET xs S K→∃ S',dk S S'∧K S'
  | [],S,K,h=>⟨S,.refl S,h⟩
  | (d,v)::xs,S,K,h=>by
    obtain ⟨a,ha,hl,h⟩:=bW.1 h
    rw [dI] at h
    obtain ⟨S',h1,h2⟩:=yp h
    refine ⟨S',dk.trans ?_ h1,h2⟩
    intro G E act w hM ht
    refine ⟨E,hM.congr rfl rfl rfl,by simpa using ht.len,fun n c u h1 h2=>?_,ht.df,ht.gt⟩
    have h1':(S.t.set d v)[n]?=some c:=h1
    rw [List.getElem?_set] at h1'
    split at h1'
    · rename_i e
      subst e
      split at h1'
      · cases h1'
        exact hl _ _ (ht.val d _ u ha h2)
      · cases h1'
    · exact ht.val n c u h1' h2
theorem yq:∀ {xs:List (Nat×List AV)} {S:St} {K:St→Prop},DC xs S K→∃ S',dk S S'∧K S'
  | [],S,K,h=>⟨S,.refl S,h⟩
  | (d,r)::xs,S,K,h=>by
    unfold DC at h
    split at h
    · rename_i row hd
      obtain ⟨hl,h⟩:=h
      rw [gA] at h
      obtain ⟨S',h1,h2⟩:=yq h
      refine ⟨S',dk.trans ?_ h1,h2⟩
      intro G E act w hM ht
      refine ⟨E,?_,ht⟩
      refine ⟨hM.hp,hM.os,hM.tape,hM.output,hM.size,hM.keep,hM.F0,hM.Flt,hM.Fnew,hM.own,hM.inj,fun e=>?_,hM.obj,hM.old,hM.bl,hM.szs,(fun _ _ h=>by cases h),hM.ow⟩
      have h1:=hM.loc e
      show fH pn _ (aJ (o_ S.l d r) e) e
      rw [g3 hd]
      split
      · rename_i e'
        subst e'
        rw [hd] at h1
        rcases h1 with ⟨b,h2,h3,h4,us,ty,h5,h6,h7⟩ | ⟨_,h2,_⟩
        · refine .inl ⟨b,by rw [← hl.1]; exact h2,by rw [← hl.1]; exact h3,by simp,us,ty,h5,by rw [← hl.1]; exact h6,fun m c hc=>?_⟩
          have hf:[r].flatten=r:=by simp
          have hf0:[row].flatten=row:=by simp
          rw [hf] at hc
          have hm:m<row.length:=by rw [hl.1]; exact (List.getElem?_eq_some_iff.1 hc).1
          obtain ⟨u,hu,hv⟩:=h7 m _ (by rw [hf0]; exact List.getElem?_eq_getElem hm)
          exact ⟨u,hu,hl.2 m _ c (List.getElem?_eq_getElem hm) hc _ _ hv⟩
        · cases h2
      · exact h1
    · exact False.elim h
theorem yr:∀ {xs:List (Nat×List (List AV))} {S:St} {K:St→Prop},DD xs S K→∃ S',dk S S'∧K S'
  | [],S,K,h=>⟨S,.refl S,h⟩
  | (i,R)::xs,S,K,h=>by
    unfold DD at h
    split at h
    · rename_i fl sz rows hi
      obtain ⟨hl,h⟩:=h
      rw [az] at h
      obtain ⟨S',h1,h2⟩:=yr h
      refine ⟨S',dk.trans ?_ h1,h2⟩
      intro G E act w hM ht
      refine ⟨E,?_,ht⟩
      refine ⟨hM.hp,hM.os,hM.tape,hM.output,hM.size,hM.keep,hM.F0,hM.Flt,hM.Fnew,hM.own,hM.inj,hM.loc,fun id=>?_,fun id hid=>?_,by show S.b≤(S.o.set _ _).length; rw [List.length_set]; exact hM.bl,hM.szs,hM.pk,fun id=>?_⟩
      · have h1:=hM.obj id
        show eD E (S.o.set i _)[id]? _
        rw [List.getElem?_set]
        split
        · rename_i e
          subst e
          rw [if_pos (List.getElem?_eq_some_iff.1 hi).1]
          rw [hi] at h1
          revert h1
          cases E.mu (.O i) with
          | none=>exact fun h=>h
          | some mv =>
            cases mv with
            | virt =>
              intro h
              have h:rows=[]:=h
              subst h
              exact List.eq_nil_of_length_eq_zero hl.1.symm
            | blk b o s n =>
              rintro ⟨⟨h1,h2⟩,h3,h4,us,ty,h5,h6,h7⟩
              refine ⟨⟨h1,by rw [← hl.1]; exact h2⟩,h3,hl.lens h4,us,ty,h5,by rw [← hl.1]; exact h6,fun m c hc=>?_⟩
              have hf:=hl.flat
              have hm:m<rows.flatten.length:=by rw [hf.1]; exact (List.getElem?_eq_some_iff.1 hc).1
              obtain ⟨u,hu,hv⟩:=h7 m _ (List.getElem?_eq_getElem hm)
              exact ⟨u,hu,hf.2 m _ c (List.getElem?_eq_getElem hm) hc _ _ hv⟩
        · exact h1
      · have h1:=hM.old id hid
        show (S.o.set i _)[id]?=some .dead∨_
        rw [List.getElem?_set]
        split
        · rename_i e
          subst e
          rcases h1 with h1 | h1
          · rw [hi] at h1; cases h1
          · exact .inr h1
        · exact h1
      · have h1:=hM.ow id
        show dv E id (S.o.set i _)[id]?
        rw [List.getElem?_set]
        split
        · rename_i e
          subst e
          rw [if_pos (List.getElem?_eq_some_iff.1 hi).1]
          rw [hi] at h1
          exact h1
        · exact h1
    · exact False.elim h
theorem jS {L:Le} {S:St} {K:St→Prop} (h:Cn L S K):∃ S',dk S S'∧K S':=by
  obtain ⟨S1,h1,h⟩:=yp h
  obtain ⟨S2,h2,h⟩:=yq h
  obtain ⟨S3,h3,h⟩:=yr h
  exact ⟨S3,h1.trans (h2.trans h3),h⟩
structure tQ (C:Ctx):Prop where
  det:fk C
theorem av.mono2 {α β:Type} {X:(α→β→Prop)→Prop} (h:ar X) {K K':α→β→Prop} (hx:X K) (hk:∀ r s,K r s→K' r s):X K':=by
  obtain ⟨r,s,h1,h2⟩:=h _ hx
  exact h2 _ (hk r s h1)
theorem av.mono {α:Type} {X:(α→Prop)→Prop} (h:av X) {K K':α→Prop} (hx:X K) (hk:∀ r,K r→K' r):X K':=by
  obtain ⟨r,h1,h2⟩:=h K hx
  exact h2 _ (hk r h1)
theorem ar.mono {α β:Type} {X:(α→β→Prop)→Prop} (h:ar X) {K K':α→β→Prop} (hx:X K) (hk:∀ a b,K a b→K' a b):X K':=by
  obtain ⟨a,b,h1,h2⟩:=h K hx
  exact h2 _ (hk a b h1)
theorem Bs {op:BinOp} {x y:Value} {K:Value→Prop} (h:Co op x y K):sd op x y K:=by
  unfold Co at h
  unfold sd
  split at h <;> first
    | exact ap h.1 h.2
    | exact False.elim h
section
variable {C:Ctx} {A:dh} {pl:bA} {o:Oper}
theorem Bt {op:BinOp} {t:TypeId} {x y:AV} {k:AV→Prop} (h:Cp C A o op t x y k):yO C.P op t x y k:=by
  unfold Cp at h
  split at h
  · rename_i a b
    show uX C.P op t a b k
    unfold uX
    split at h
    · rename_i hn
      rw [hn]
      dsimp only
      split at h
      · exact h
      · rename_i a b hne
        split
        · exact (hne _ _ rfl rfl).elim
        · exact Bs h
    · rename_i c hc
      rw [hc]
      exact h
  · rename_i as bs
    show (match rx as,rx bs with
    | some xs,some ys =>
      match co C.P op t xs ys with
      | some (.bool b)=>k (.v (.bool b))
      | _=>ah 226
    | _,_=>ah 227)
    split at h
    · rename_i xs ys h1 h2
      try rw [h1,h2]
      try dsimp only
      split at h
      · rw [h.1]
        exact h.2
      · exact False.elim h
    · exact False.elim h
  · exact False.elim h
theorem yu {t:TypeId} {x ix:AV} {k:AV→Prop} (h:wS C A o t x ix k):nF C.P t x ix k:=by
  unfold wS at h
  unfold nF
  refine av.mono aY h (fun i h'=>?_)
  clear h
  split at h'
  · rename_i s hu
    rw [hu]
    dsimp only
    split at h'
    · rw [h'.1]
      dsimp only
      have h2:=h'.2.2
      rw [h'.2.1] at h2
      exact h2
    · exact False.elim h'
  · rename_i len e cs hu
    rw [hu]
    dsimp only
    have h:=h'
    split at h
    · rename_i inf hi
      rw [hi]
      exact ap h.1 h.2
    · exact False.elim h
  · exact False.elim h'
theorem Cy {vs:List AV} {k:AV→Prop} (h:EV C A pl o vs k):pop C pl o vs k:=by
  unfold EV at h
  split at h
  · exact h
  · split at h
    · rename_i ho
      unfold pop
      rw [ho]
      exact Bt h
    · rename_i ho
      unfold pop
      rw [ho]
      exact yu h
    · exact False.elim h
theorem mX {len cap:Nat} {lo hi mx:Option Int} {k:Nat→Nat→Nat→Prop} (h:vM len cap lo hi mx k):qe len cap lo hi mx k:=by
  unfold vM at h
  unfold qe
  split at h <;> first
    | exact h
    | exact ap h.1 h.2
    | exact False.elim h
theorem f9 {t:TypeId} {x:AV} {lo hi mx:Option Int} {S:St} {k:AV→Prop} (h:jP C t x lo hi mx S k):gT C.P t x lo hi mx S k:=by
  unfold jP at h
  rw [Bool.and_comm (gO mx) (gO hi)] at h
  unfold gT
  split at h
  · rename_i hu
    rw [hu]
    dsimp only
    split at h
    · exact mX h
    · exact False.elim h
  · rename_i e hu
    rw [hu]
    dsimp only
    split at h
    · rename_i i hi
      rw [hi]
      dsimp only
      obtain ⟨h0,h⟩:=ad h
      refine ap h0 ?_
      split at h
      · exact ap h.1 (mX h.2)
      · split at h
        · rename_i ho
          dsimp only
          rw [ho]
          obtain ⟨h1,h⟩:=ad h
          exact ap h1 (mX h)
        · exact False.elim h
      · split at h
        · rename_i ho
          dsimp only
          rw [ho]
          obtain ⟨h1,h⟩:=ad h
          exact ap h1 (mX h)
        · exact False.elim h
      · exact False.elim h
    · exact False.elim h
  · exact False.elim h
theorem rI {row:List AV} {t:TypeId} {x ix:AV} {S:St} {k:AV→Prop} (h:mz C row t x ix S k):fS C.P t x ix S k:=by
  unfold mz at h
  unfold fS
  refine av.mono aY h (fun i h=>?_)
  split at h
  · rename_i e hu
    rw [hu]
    dsimp only
    split at h
    · rename_i inf hi
      rw [hi]
      dsimp only
      split at h
      · have h1:=h.1
        unfold Bn at h1
        dsimp only
        rw [h1]
        exact h.2
      · split at h
        · rename_i ho
          dsimp only
          rw [ho]
          dsimp only
          have h1:=h.1
          unfold Bn at h1
          rw [h1]
          exact h.2
        · rename_i ho
          dsimp only
          rw [ho]
          obtain ⟨h1,h2,h3⟩:=ad h
          refine ap ?_ h3
          rw [Bool.and_eq_true]
          exact ⟨h2,h1⟩
        · exact False.elim h
      · split at h
        · rename_i ho
          dsimp only
          rw [ho]
          dsimp only
          refine ap h.1 ?_
          rw [h.2.1]
          exact h.2.2
        · exact False.elim h
      · exact False.elim h
    · exact False.elim h
  · rename_i len e hu
    rw [hu]
    dsimp only
    split at h
    · rename_i inf hi
      rw [hi]
      exact ap h.1 h.2
    · exact False.elim h
  · exact False.elim h
theorem rj (hC:tQ C) {fid:Nat} {as:List AV} {k:AV→Prop} (h:rT C A o fid as k):C.pcall fid as k:=by
  unfold rT at h
  split at h
  · exact av.mono (hC.det.pcall _ _) h.1 (fun _ e=>by rw [e]; exact h.2)
  · exact h
theorem zH {P:Program} {op:BinOp} {t:TypeId} {x y:AV} {S:St} {k:AV→Prop} (h:zD P op t x y S k):sj P op t x y S k:=by
  unfold zD at h
  split at h
  · rename_i id
    split at h
    · rename_i rows hob
      obtain ⟨h1,h⟩:=h
      have:si S (.mf id)=true:=by
        unfold si
        dsimp only
        rw [hob]
        cases rows with
        | nil=>cases h1
        | cons _ _=>rfl
      unfold sj
      rw [this]
      exact h
    · exact False.elim h
  · exact False.elim h
theorem Cz (hC:tQ C) {vs:List AV} {M:St} {k:AV→Prop} (h:EW C A o vs M k):nG C o vs M k:=by
  unfold EW at h
  split at h
  · rename_i ho
    split at h
    · split at h
      · split at h
        · rename_i hob
          unfold nG
          rw [ho]
          dsimp only
          unfold BO
          dsimp only
          unfold ul
          dsimp only
          rw [hob]
          dsimp only
          rw [h.1]
          exact h.2
        · exact False.elim h
      · exact False.elim h
    · exact h
  · rename_i ho
    split at h
    · exact h
    · unfold nG
      rw [ho]
      split at h
      · exact f9 h
      · exact av.mono aY h (fun _ h=>f9 h)
      · exact av.mono aY h (fun _ h=>f9 h)
      · exact av.mono aY h (fun _ h=>av.mono aY h (fun _ h=>f9 h))
      · exact av.mono aY h (fun _ h=>av.mono aY h (fun _ h=>f9 h))
      · exact av.mono aY h (fun _ h=>av.mono aY h (fun _ h=>av.mono aY h (fun _ h=>f9 h)))
      · exact False.elim h
  · rename_i ho
    split at h
    · unfold nG
      rw [ho]
      exact rI h
    · exact h
  · rename_i ho
    split at h
    · split at h
      · rename_i hu
        split at h
        · rename_i hob
          unfold nG
          rw [ho]
          dsimp only
          unfold mM
          rw [hu]
          dsimp only
          rw [hob]
          exact h.1 _ h.2
        · exact False.elim h
      · exact False.elim h
    · exact h
  · rename_i ho
    split at h
    · exact h
    · unfold nG
      rw [ho]
      exact zH h
  · rename_i c ho
    split at h
    · rename_i hcal
      split at h
      · unfold nG
        rw [ho]
        dsimp only
        rw [hcal]
        dsimp only
        obtain ⟨h1,h⟩:=ad h
        exact ap h1 (av.mono (cZ _ _) h (fun bs hb=>rj hC hb))
      · exact False.elim h
    · exact h
  · exact h
theorem yv {S:St} {row:List AV} {a:AV} {cs:List AV} {K:St→Prop} (h:wT S row a cs K):jW S a cs K:=by
  unfold wT at h
  split at h
  · unfold jW
    split at h
    · rename_i ho
      dsimp only
      rw [ho]
      dsimp only
      rw [h.1]
      exact h.2
    · exact False.elim h
  · exact False.elim h
theorem yw {vs:List AV} {M:St} {k:AV→St→Prop} (h:DF C A o vs M k):u0 C o vs M k:=by
  unfold DF at h
  split at h
  · exact h
  · split at h
    · rename_i ho
      split at h
      · unfold u0
        rw [ho]
        refine av.mono bR h (fun cs h=>?_)
        split at h
        · rename_i hi
          rw [hi]
          obtain ⟨h1,h⟩:=ad h
          exact ap h1 (yv h)
        · exact False.elim h
      · exact h
    · exact h
theorem oq {size:Nat} {S:St} {x:AV} {k:Bool→List (List AV)→Prop} (h:tw size S x k):iK size S x k:=by
  unfold tw at h
  unfold iK
  split at h <;> first
    | exact ap h.1 h.2
    | exact h
    | exact False.elim h
theorem wW {ts:List TypeId} {base x:AV} {S:St} {k:St→AV→Prop} (h:tz C.P ts base x S k):jH C.P ts base x S k:=by
  unfold tz at h
  unfold jH
  split at h
  · split at h
    · rename_i e hu
      dsimp only
      rw [hu]
      dsimp only
      split at h
      · rename_i i hi
        rw [hi]
        dsimp only
        obtain ⟨h1,h⟩:=ad h
        refine ap h1 ?_
        refine ar.mono dz (oq h) (fun fl src h=>?_)
        refine ap h.1 ?_
        replace h:=h.2
        split at h
        · exact ap h.1 h.2
        · exact ap h.1 h.2
        · split at h
          · rename_i ho
            dsimp only
            rw [ho]
            obtain ⟨h1,h⟩:=ad h
            refine ap ?_ h.2
            simp only [Bool.and_eq_true] at h1 ⊢
            exact ⟨⟨h1.1,h.1⟩,h1.2⟩
          · exact False.elim h
        · split at h
          · rename_i ho
            dsimp only
            rw [ho]
            obtain ⟨h1,h2,h3,h⟩:=ad h
            refine ap h1 ?_
            rw [h2]
            exact ap h3 h
          · exact False.elim h
        · exact False.elim h
      · exact False.elim h
    · exact False.elim h
  · exact False.elim h
theorem uP {ts:List TypeId} {base x:AV} {k:AV→Prop} (h:qE C.P ts base x k):i8 C.P ts base x k:=by
  unfold qE at h
  unfold i8
  split at h
  · split at h
    · rename_i e hu
      dsimp only
      rw [hu]
      dsimp only
      split at h
      · rename_i i hi
        rw [hi]
        dsimp only
        obtain ⟨h1,h⟩:=ad h
        refine ap h1 ?_
        refine ar.mono dz (oq h) (fun fl src h=>?_)
        obtain ⟨h2,h3,h4,h⟩:=ad h
        refine ap ?_ h
        rw [h2,h3,h4]
        rfl
      · exact False.elim h
    · exact False.elim h
  · exact False.elim h
theorem CB {vs:List AV} {k:AV→Prop} (h:EX C o vs k):ED C o vs k:=by
  unfold EX at h
  unfold ED
  split at h
  · rename_i c x y ho
    rw [ho]
    dsimp only
    split at h
    · rename_i hc
      rw [hc]
      exact uP h
    · exact False.elim h
  · exact False.elim h
theorem uQ {ts:List TypeId} {base:AV} {n:Int} {S:St} {k:St→AV→Prop} (h:qF C.P ts base n S k):i9 C.P ts base n S k:=by
  unfold qF at h
  unfold i9
  split at h
  · split at h
    · rename_i hu hv
      dsimp only
      rw [hu,hv]
      dsimp only
      split at h
      · rename_i hi
        rw [hi]
        exact ap h.1 h.2
      · exact False.elim h
    · exact False.elim h
  · exact False.elim h
theorem lE {t:TypeId} {l c:AV} {S:St} {k:St→AV→Prop} (h:jQ C.P t l c S k):bP C.P t l c S k:=by
  unfold jQ at h
  unfold bP
  split at h
  · rename_i hu
    rw [hu]
    dsimp only
    split at h
    · rename_i hi
      rw [hi]
      dsimp only
      exact av.mono aY h (fun _ h=>av.mono aY h (fun _ h=>ap h.1 h.2))
    · exact False.elim h
  · exact False.elim h
theorem zI (hC:tQ C) {f:AV} {args:List AV} {S:St} {k:St→AV→Prop} (h:zF C A o f args S k):uZ C f args S k:=by
  unfold zF at h
  unfold uZ
  split at h
  · dsimp only
    split at h
    · rename_i hp
      rw [hp]
      exact av.mono (cZ _ _) h (fun bs hb=>rj hC hb)
    · rename_i hp
      rw [hp]
      obtain ⟨h1,h⟩:=ad h
      refine ap h1 ?_
      split at h
      · exact ar.mono (hC.det.scall _ _ _) h.1 (fun r o' ⟨e1,e2⟩=>by subst e1 e2; exact h.2)
      · exact h
  · exact False.elim h
theorem lF {R:List (AV×AV)} {t:TypeId} {m key x:AV} {S:St} {K:St→Prop} (h:jR C.P R t m key x S K):dW C.P t m key x S K:=by
  unfold jR at h
  unfold dW
  split at h
  · rename_i hu
    rw [hu]
    dsimp only
    split at h
    · split at h
      · rename_i fl es ho
        dsimp only
        rw [ho]
        dsimp only
        obtain ⟨h1,h2,h3⟩:=ad h
        refine ap h1 ?_
        have:=h2 (fun es'=>bc (S.o.set _ (.mapo (fl&&cN 4 x) es')) fun o=>K { t:=S.t,l:=S.l,o:=o,b:=S.b }) h3
        exact this
      · exact False.elim h
    · exact False.elim h
  · exact False.elim h
theorem zJ {ts:List TypeId} {x y:AV} {M:St} {k:AV→St→Prop} (h:zE C.P ts x y M k):qR C.P ts x y M k:=by
  unfold zE at h
  unfold qR
  split at h
  · split at h
    · rename_i e hu
      dsimp only
      rw [hu]
      dsimp only
      split at h
      · rename_i i hi
        rw [hi]
        dsimp only
        obtain ⟨h1,h⟩:=ad h
        refine ap h1 ?_
        refine ar.mono dz (oq h) (fun fl src h=>?_)
        obtain ⟨h2,h⟩:=h
        obtain ⟨h3,h⟩:=ad h
        refine ap (by rw [h2,h3]; rfl) ?_
        split at h
        · split at h
          · rename_i ho
            dsimp only
            rw [ho]
            exact h
          · exact False.elim h
        · split at h
          · rename_i ho
            dsimp only
            rw [ho]
            obtain ⟨h1,h2,h⟩:=ad h
            exact ap (by rw [h1,h2]; rfl) h
          · exact False.elim h
        · exact False.elim h
      · exact False.elim h
    · exact False.elim h
  · exact False.elim h
theorem yx (hC:tQ C) {S:St} {K:St→Prop} (h:DG C A pl o S K):uq C pl o S K:=by
  unfold DG at h
  split at h
  · rename_i ho
    split at h
    · unfold uq
      rw [ho]
      refine av.mono bX h (fun m h=>?_)
      refine av.mono bX h (fun k h=>?_)
      refine av.mono bX h (fun x h=>?_)
      exact lF h
    · exact h
  · rename_i ho
    split at h
    · unfold uq
      rw [ho]
      refine av.mono bX h (fun m h=>?_)
      refine av.mono bX h (fun k h=>?_)
      refine av.mono bX h (fun x h=>?_)
      exact lF h
    · exact h
  · rename_i ho
    split at h
    · unfold uq
      rw [ho]
      refine av.mono bX h (fun l h=>?_)
      refine av.mono bX h (fun c h=>?_)
      exact lE h
    · exact h
  · rename_i c ho
    split at h
    · rename_i hcal
      split at h
      · unfold uq
        rw [ho]
        dsimp only
        rw [hcal]
        dsimp only
        refine av.mono aX h (fun as h=>?_)
        split at h
        · exact uQ h
        · rename_i x y hne
          split
          · rename_i e
            cases e
            exact (hne _ _ rfl).elim
          · rename_i e
            cases e
            exact wW h
          · rename_i h3
            exact (h3 _ _ rfl).elim
        · exact False.elim h
      · exact h
    · rename_i hcal
      unfold uq
      rw [ho]
      dsimp only
      rw [hcal]
      dsimp only
      refine av.mono aX h (fun as h=>?_)
      split at h
      · exact zJ h
      · exact False.elim h
    · rename_i f hcal
      unfold uq
      rw [ho]
      dsimp only
      rw [hcal]
      dsimp only
      refine av.mono bX h (fun l h=>?_)
      refine av.mono aX h (fun c h=>?_)
      exact zI hC h
    · exact h
  · exact h
theorem jt {K:St→Prop} {S:St} (h:lN A o K S):K S:=by
  have h2:∀ {key:Nat} {S:St} {K:St→Prop},Cq A key S K→K S:=by
    intro key S K h
    unfold Cq at h
    split at h
    · exact h
    · split at h
      · rename_i ho
        obtain ⟨h1,h⟩:=h
        subst h1
        rw [az] at h
        have e:∀ {α:Type} {l:List α} {i:Nat} {x:α},l[i]?=some x→l.set i x=l:=by
          intro α l i x hx
          refine List.ext_getElem? (fun m=>?_)
          rw [List.getElem?_set]
          split
          · rename_i e
            subst e
            rw [if_pos (List.getElem?_eq_some_iff.1 hx).1,hx]
          · rfl
        rw [e ho] at h
        exact h
      · exact False.elim h
  unfold lN at h
  unfold Eb at h
  split at h
  · exact h2 h
  · split at h
    · exact h2 h
    · rename_i v hv
      obtain ⟨a,ha,e,h⟩:=bW.1 h
      subst e
      rw [dI,fL ha] at h
      exact h2 h
theorem vP {S:St} {K:St→Prop} (h:Cr C A pl o S K):AP C pl o S K:=av.mono aX h (fun _ h=>Cy h)
theorem vQ (hC:tQ C) {S:St} {K:St→Prop} (h:Ct C A o S K):AQ C o S K:=av.mono aX h (fun _ h=>Cz hC h)
theorem Bu {S:St} {K:St→Prop} (h:Ec C A o S K):AR C o S K:=av.mono aX h (fun _ h=>yw h)
theorem nv {row:Option (List (List AV))} {M:St} {id i:Nat} {k:AV→St→Prop} (h:mT row M id i k):ez M id i k:=by
  unfold mT at h
  unfold ez
  split at h
  · rename_i hob
    rw [hob]
    dsimp only
    split at h
    · obtain ⟨h1,h⟩:=h
      rw [h1]
      exact h
    · obtain ⟨h1,h⟩:=h
      rw [h1]
      exact h
  · exact h.elim
theorem uR {P:Program} {a:uO} {t:TypeId} {same:Bool} {M:St} {id i:Nat} {k:AV→St→Prop} (h:qG P a t same M id i k):gx P t same M id i k:=by
  unfold qG at h
  unfold gx
  split at h
  · split at h
    · rename_i hob
      rw [hob]
      exact ap h.1 h.2
    · exact h.elim
  · exact nv h
theorem tU {P:Program} {t:TypeId} {M:St} {id i:Nat} {v:AV} {K:St→Prop} (h:ol P t M id i v K):fc P t M id i v K:=by
  unfold ol at h
  unfold fc
  split at h
  · rename_i hi hob
    rw [hi,hob]
    obtain ⟨h1,h2,h3⟩:=ad h
    refine ap ?_ h3
    simp only [Bool.and_eq_true] at h1 h2 ⊢
    exact ⟨⟨⟨h1.1,h2.1⟩,h1.2⟩,h2.2⟩
  · exact h.elim
theorem uS {P:Program} {j:Nat} {a:uO} {t:TypeId} {l c:AV} {M:St} {k:AV→St→Prop} (h:qH P j a t l c M k):fF P j t l c M k:=by
  unfold qH at h
  unfold fF
  split at h
  · rename_i hu
    rw [hu]
    dsimp only
    split at h
    · rename_i hi he
      rw [hi,he]
      dsimp only
      split at h
      · rename_i hi2
        rw [hi2]
        dsimp only
        refine k8 h (fun n h=>?_)
        refine k8 h (fun m h=>?_)
        obtain ⟨h1,h⟩:=h
        obtain ⟨h2,h⟩:=ad h
        refine ap ?_ ?_
        · simp only [Bool.and_eq_true] at h1 h2 ⊢
          exact ⟨⟨h1,h2.1⟩,h2.2⟩
        · refine pD h (fun z h=>?_)
          split at h
          · obtain ⟨h3,h⟩:=h
            dsimp only
            rw [h3]
            exact h
          · exact h.elim
      · exact h.elim
    · exact h.elim
  · exact h.elim
theorem uT {P:Program} {a:uO} {t:TypeId} {m key:AV} {ok:Bool} {M:St} {k:AV→St→Prop} (h:qI P a t m key ok M k):gz P t m key ok M k:=by
  unfold qI at h
  unfold gz
  split at h
  · rename_i hu
    rw [hu]
    dsimp only
    split at h
    · dsimp only
      split at h
      · rename_i hob
        rw [hob]
        dsimp only
        split at h
        · obtain ⟨h1,h2⟩:=h
          exact h1 (fun r=>match r with
            | some i=>ez M _ i fun a M'=>lZ ok a true fun r=>k r M'
            | none=>gv P _ ok fun r=>k r M) (nv h2)
        · obtain ⟨h1,h2⟩:=h
          exact h1 (fun r=>match r with
            | some i=>ez M _ i fun a M'=>lZ ok a true fun r=>k r M'
            | none=>gv P _ ok fun r=>k r M) h2
      · exact h.elim
    · exact h.elim
  · exact h.elim
theorem pT {P:Program} {a:uO} {t:TypeId} {m key x:AV} {M:St} {K:St→Prop} (h:pQ P a t m key x M K):hZ P t m key x M K:=by
  unfold pQ at h
  unfold hZ
  split at h
  · rename_i hu
    rw [hu]
    dsimp only
    split at h
    · rename_i id
      dsimp only
      split at h
      · rename_i ks sz cells hole hob
        rw [hob]
        dsimp only
        obtain ⟨h1,h2,h3⟩:=ad h
        refine ap h1 ?_
        have h4:=h2 (FR M id sz cells hole x K) h3
        refine av.mono2 cJ h4 (fun kv r h5=>?_)
        obtain ⟨h6,h7⟩:=ad h5
        refine ap h6 ?_
        cases r with
        | none=>exact h7
        | some i =>
          obtain ⟨h8,h9,h10⟩:=ad h7
          refine ap ?_ h10
          rw [Bool.and_eq_true]
          exact ⟨h8,h9⟩
      · exact h.elim
    · exact h.elim
  · exact h.elim
theorem rl {M:St} {x:AV} {X Y:Nat→Nat→Prop} (h:gV M x X) (hk:∀ id i,X id i→Y id i):gV M x Y:=by
  unfold gV at h ⊢
  split at h
  · split at h
    · exact hk _ _ h
    · exact h.elim
  · exact h.elim
theorem vR {P:Program} {vs:List AV} {M:St} {k:AV→St→Prop} (h:Ab P A pl o vs M k):jD P pl o vs M k:=by
  unfold Ab at h
  split at h
  · exact h
  · split at h
    · rename_i ho
      unfold jD
      rw [ho]
      exact rl h (fun _ _ h=>uR h)
    · rename_i ho
      unfold jD
      rw [ho]
      exact rl h (fun _ _ h=>tU h)
    · rename_i ho
      unfold jD
      rw [ho]
      exact uS h
    · rename_i ho
      unfold jD
      rw [ho]
      exact uT h
    · rename_i ho
      unfold jD
      rw [ho]
      exact pT h
    · rename_i ho
      unfold jD
      rw [ho]
      exact pT h
    · exact h.elim
theorem ny {S:St} {id:Nat} {K:St→Prop} (h:mU A S id K):gw S id K:=by
  unfold mU at h
  split at h
  · exact h
  · unfold gw
    split at h
    · rename_i hob
      rw [hob]
      dsimp only
      split at h
      · rename_i hk
        rw [hk]
        obtain ⟨h1,h2,h3,h4⟩:=ad h
        refine ap ?_ ?_
        · rw [Bool.and_eq_true]
          exact ⟨h1,h2⟩
        · rw [h3]
          exact h4
      · exact h.elim
    · rename_i hob
      rw [hob]
      dsimp only
      obtain ⟨h2,h3,h4⟩:=h
      refine ap h2 ?_
      rw [h3]
      exact h4
    · exact h.elim
theorem pU:∀ {ids:List Nat} {S:St} {K:St→Prop},tA A ids S K→kS ids S K
  | [],_,_,h=>h
  | _::_,_,_,h=>av.mono li (ny h) (fun _ h=>pU h)
theorem pV {S:St} {id:Nat} {K:St→Prop} (h:pR A S id K):iQ S id K:=by
  unfold pR at h
  split at h
  · exact h
  · unfold iQ
    split at h
    · rename_i hob
      rw [hob]
      dsimp only
      rw [h.1]
      exact h.2
    · exact h.elim
theorem nz:∀ {ids:List Nat} {S:St} {K:St→Prop},qJ A ids S K→ja ids S K
  | [],_,_,h=>h
  | _::_,_,_,h=>av.mono mo (pV h) (fun _ h=>nz h)
theorem tV {id:Nat} {S:St} {K:St→Prop} (h:tE A pl id S K):iL pl id S K:=by
  unfold tE at h
  unfold iL
  split at h
  · rename_i hc
    rw [hc]
    exact h
  · rename_i hc
    rw [hc]
    dsimp only
    refine av.mono (iy _ _) (pU h) (fun S1 h=>?_)
    split at h
    · rename_i hc
      rw [hc]
      exact h
    · rename_i hc
      rw [hc]
      exact nz h
theorem zK (hC:tQ C) {vs:List AV} {M:St} {k:AV→St→Prop} (h:zG C A o vs M k):jJ C o vs M k:=by
  unfold zG at h
  split at h
  · rename_i t X Y l c ho
    split at h
    · unfold jJ
      rw [ho]
      exact lE h
    · exact h
  · rename_i c fid first cap as ho
    unfold jJ
    rw [ho]
    dsimp only
    split at h
    · rename_i x hcal
      rw [hcal]
      obtain ⟨h1,h⟩:=ad h
      refine ap h1 ?_
      split at h
      · obtain ⟨h2,h3⟩:=h
        obtain ⟨r0,o0,⟨e1,e2⟩,h4⟩:=hC.det.scall _ _ _ _ h2
        subst e1 e2
        exact h4 _ h3
      · exact h
    · exact h.elim
  · rename_i hne hne2
    have h':=yw h
    unfold jJ
    split
    · rename_i t X Y l c ho
      exact absurd rfl (hne t X Y l c ho)
    · rename_i c fid first cap as ho
      exact absurd rfl (hne2 c fid first cap as ho)
    · exact h'
theorem Bv (hC:tQ C) {vs:List AV} {M:St} {k:AV→St→Prop} (h:Cu C A pl o vs M k):kT C pl o vs M k:=by
  unfold Cu at h
  unfold kT
  split at h
  · rename_i hw
    rw [hw]
    exact vR h
  · rename_i hw
    rw [hw]
    exact zK hC h
theorem zL (hC:tQ C) {S:St} {K:St→Prop} (h:Cv C A pl o S K):nd C pl o S K:=av.mono aX h (fun _ h=>Bv hC h)
theorem Bw {S:St} {K:St→Prop} (h:Ed C A pl o S K):v9 C pl o S K:=av.mono aX h (fun _ h=>vR h)
theorem By {S:St} {K:St→Prop} (h:Ee C o S K):AS C o S K:=av.mono aX h (fun _ h=>CB h)
theorem CC (hC:tQ C) {S:St} {K:St→Prop} (h:EY C A pl o S K):v_ C pl o S K:=by
  refine av.mono (x6 hC.det) (K:=lN A o K) ?_ (fun _ h=>jt h)
  unfold EY at h
  unfold v_
  split at h
  · rename_i hc
    rw [hc]
    exact vP h
  · rename_i hc
    rw [hc]
    exact vQ hC h
  · rename_i hc
    rw [hc]
    exact Bu h
  · rename_i h0 h1 h2
    have:=yx hC h
    split
    · exact absurd (by assumption) h0
    · exact absurd (by assumption) h1
    · exact absurd (by assumption) h2
    · exact this
theorem rU (hC:tQ C) {S:St} {K:St→Prop} (h:Ef C A pl o S K):BW C pl o S K:=by
  unfold Ef at h
  unfold BW
  split at h
  · rename_i hw
    rw [hw]
    exact av.mono xY (Bw h) (fun _ h=>jt h)
  · rename_i hw
    rw [hw]
    exact CC hC h
theorem tY (hC:tQ C) {S:St} {K:St→Prop} (h:yn C A pl o S K):uj C pl o S K:=by
  unfold yn at h
  split at h
  · rename_i hc
    refine av.mono (fO hC.det) (K:=lN A o K) ?_ (fun _ h=>jt h)
    unfold uj
    rw [hc]
    exact vP h
  · rename_i hc
    refine av.mono (fO hC.det) (K:=lN A o K) ?_ (fun _ h=>jt h)
    unfold uj
    rw [hc]
    exact vQ hC h
  · rename_i hc
    refine av.mono (fO hC.det) (K:=lN A o K) ?_ (fun _ h=>jt h)
    unfold uj
    rw [hc]
    exact zL hC h
  · rename_i hc
    unfold uj
    rw [hc]
    exact h
  · rename_i hc
    refine av.mono (fO hC.det) (K:=lN A o K) ?_ (fun _ h=>jt h)
    unfold uj
    rw [hc]
    exact By h
  · rename_i h0 h1 h2 h4 h5
    refine av.mono (fO hC.det) (K:=lN A o K) ?_ (fun _ h=>jt h)
    unfold uj
    split
    · exact absurd (by assumption) h0
    · exact absurd (by assumption) h1
    · exact absurd (by assumption) h2
    · exact absurd (by assumption) h4
    · exact absurd (by assumption) h5
    · split at h
      · exact False.elim h
      · rename_i hb
        rw [hb]
        exact yx hC h
theorem DJ (hC:tQ C) {all:Array Oper} {S:St} {K:St→Prop} (h:Gy C A pl all o S K):ag C pl all o S K:=by
  unfold Gy at h
  unfold ag
  split at h
  · rename_i hg
    rw [hg]
    obtain ⟨h1,h⟩:=ad h
    exact ap h1 (tY hC h)
  · rename_i j want hg
    rw [hg]
    dsimp only
    split at h
    · exact False.elim h
    · rename_i d hd
      rw [hd]
      dsimp only
      refine ar.mono cU h (fun b S1 h=>?_)
      have key:∀ {S:St},bw (gW pl all o S) (yn C A pl o S K)→nI C pl all o S K:=by
        intro S h
        obtain ⟨h1,h⟩:=ad h
        exact ap h1 (tY hC h)
      unfold gsel at h ⊢
      split at h
      · exact key h
      · exact key h
      · exact h
theorem Af (hC:tQ C) {aj:Array Oper} {i:Nat} {S:St} {K:St→Prop} (h:FG C A pl aj i S K):u5 C pl aj i S K:=by
  unfold FG at h
  unfold u5
  split at h
  · exact False.elim h
  · rename_i o ho
    rw [ho]
    exact DJ hC h
theorem yy {S2 S1:St} {X:Prop} (h:S2=S1∧X):qS S2 S1 X:=by
  unfold qS
  split
  · exact h.2
  · exact h
theorem wX (hC:tQ C) {aj:Array Oper} {ws:List Nat}:∀ {n a:Nat} {listed:Array Bool} {t:PT} {S:St} {K:St→Prop},iN pl aj ws n a listed=some t→oT C A pl aj t none S K→iq C pl aj ws n listed S K
  | 0,a,listed,t,S,K,hp,h=>by
    unfold iN at hp
    unfold iq
    split at hp
    · cases hp
      rename_i hr
      rw [hr]
      exact h
    · cases hp
  | n + 1,a,listed,t,S,K,hp,h=>by
    unfold iN at hp
    unfold iq
    split at hp
    · cases hp
      rename_i hr
      rw [hr]
      exact h
    · rename_i r rs hr
      rw [hr]
      dsimp only
      have step:∀ {k b:Nat} {u:PT} {S:St} {K:St→Prop},iN pl aj ws n b (listed.setIfInBounds k true)=some u→(FG C A pl aj k S fun S'=>oT C A pl aj u none S' K)→u5 C pl aj k S fun S'=>iq C pl aj ws n (listed.setIfInBounds k true) S' K :=
        fun hj h=>av.mono (eN hC.det) (Af hC h) (fun _ h=>wX hC hj h)
      have alts:∀ {b:Nat} {is:List Nat} {u:PT} {S S1:St} {K:St→Prop} {X:Prop},nt (fun i=>iN pl aj ws n b (listed.setIfInBounds i true)) is=some u→oT C A pl aj u (some (S1,X)) S K →
          yR (fun i K'=>u5 C pl aj i S fun S'=>iq C pl aj ws n (listed.setIfInBounds i true) S' K') is S1 X:=by
        intro b is
        induction is with
        | nil =>
          intro u S S1 K X hu h
          unfold nt at hu
          cases hu
          exact h
        | cons i is ih =>
          intro u S S1 K X hu h
          unfold nt at hu
          split at hu
          · rename_i v hv
            split at hu
            · rename_i w hw
              cases hu
              refine av.mono (av.bind (eN hC.det) (fun S'=>eB hC.det _ _ _)) (step hv h) (fun S2 h=>?_)
              exact yy ⟨h.1,ih hw h.2⟩
            · cases hu
          · cases hu
      split at hp
      · rename_i k hk
        rw [hk]
        dsimp only
        split at hp
        · cases hp
          rename_i u hj
          exact step hj h
        · cases hp
      · rename_i hk
        rw [hk]
        dsimp only
        split at hp
        · split at hp
          · cases hp
            rename_i u hj
            refine av.mono (av.bind (eN hC.det) (fun S'=>eB hC.det _ _ _)) (step hj h) (fun _ h=>?_)
            exact h
          · cases hp
        · split at hp
          · rename_i b _ _
            unfold nt at hp
            split at hp
            · rename_i v hv
              split at hp
              · rename_i w hw
                cases hp
                refine av.mono (av.bind (eN hC.det) (fun S'=>eB hC.det _ _ _)) (step hv h) (fun S1 h=>?_)
                exact alts hw h
              · cases hp
            · cases hp
          · cases hp
theorem CE (hC:tQ C) {aj:Array Oper} {ws:List Nat}:∀ {n:Nat} {listed:Array Bool} {t:PT} {S:St} {K:St→Prop},vO pl aj ws n listed=some t→oT C A pl aj t none S K→ry C pl aj ws n listed S K
  | 0,listed,t,S,K,hp,h=>wX hC (n:=0) hp h
  | n + 1,listed,t,S,K,hp,h=>by
    unfold vO at hp
    unfold ry
    split at hp
    · rename_i i hi
      rw [hi]
      dsimp only
      split at hp
      · cases hp
        rename_i u hj
        exact av.mono (eN hC.det) (Af hC h) (fun _ h=>CE hC hj h)
      · cases hp
    · rename_i hi
      rw [hi]
      exact wX hC hp h
theorem CF (hC:tQ C) {aj:Array Oper} {t:PT} {S:St} {K:St→Prop} (hp:tH pl aj=some t) (h:oT C A pl aj t none S K):ut C pl aj S K:=by
  unfold tH at hp
  unfold ut
  split at hp
  · cases hp
  · rename_i hn
    refine ap hn ?_
    split at hp
    · rename_i hc
      rw [hc]
      exact wX hC hp h
    · rename_i hc
      rw [hc]
      exact CE hC hp h
theorem pW:∀ {x y:PT},zC x y=true→x=y
  | .done,.done,_=>rfl
  | .go i t,.go j u,h=>by
    unfold zC at h
    rw [Bool.and_eq_true] at h
    rw [Nat.eq_of_beq_eq_true h.1,pW h.2]
  | .alt i t r,.alt j u s,h=>by
    unfold zC at h
    rw [Bool.and_eq_true,Bool.and_eq_true] at h
    rw [Nat.eq_of_beq_eq_true h.1,pW h.2.1,pW h.2.2]
  | .done,.go _ _,h=>by cases h
  | .done,.alt _ _ _,h=>by cases h
  | .go _ _,.done,h=>by cases h
  | .go _ _,.alt _ _ _,h=>by cases h
  | .alt _ _ _,.done,h=>by cases h
  | .alt _ _ _,.go _ _,h=>by cases h
end
open Go.RowKit (Below)
def dU (P:Program) (c:Code) (S:St) (K:Ex→St→Prop):Prop :=
  ∃ e S',(∀ (r:Option Nat) (G:Gh) (E:Env) (a:Act) (w:World) (Q:Exit→Act→World→Prop),ai G pn E S w→TR E S.t a→B8 G (fun e' S''=>e'=e∧S''=S') Q→c.wpIn (rd r) 0 P Q a w)∧K e S'
theorem dU.mono {P:Program} {c:Code} {S:St} {K K':Ex→St→Prop} (h:dU P c S K) (hk:∀ e S',K e S'→K' e S'):dU P c S K' :=
  let ⟨e,S',h1,h2⟩:=h
  ⟨e,S',h1,hk _ _ h2⟩
theorem yz (cfg:m4):tQ (gK cfg):=⟨mw cfg⟩
theorem rm {P:Program} {op:BinOp} {t e:TypeId} {rows:List (List AV)} {E:Env} {u:Value} (hop:EZ op=true) (hu:P.underlying t=some (.slice e)) (hx:VR E (.sl rows) u) (w:World) (X Y:Operand) :
    ∃ b,(do eqGuard op t X Y u (.slice none 0 0); binOp op t u (.slice none 0 0):Sem Value).run P w=.ok (.bool b) w∧((b=vN op∧rows=[])∨b=!(vN op)):=by
  have h0:∃ b,(∀ d:Nat,(Op.equalIn (d + 1) t u (.slice none 0 0)).run P w=.ok b w)∧((b=true∧rows=[])∨b=false):=by
    cases hx with
    | sln=>exact ⟨true,fun d=>by unfold Op.equalIn; rw [Sem.run_bind,run_underlying hu]; rfl,.inl ⟨rfl,rfl⟩⟩
    | sle _ a cap=>exact ⟨false,fun d=>by unfold Op.equalIn; rw [Sem.run_bind,run_underlying hu]; rfl,.inr rfl⟩
    | sl us h1 h2 h3 h4 h5 h6 h7=>exact ⟨false,fun d=>by unfold Op.equalIn; rw [Sem.run_bind,run_underlying hu]; rfl,.inr rfl⟩
  obtain ⟨b,hb,hr⟩:=h0
  have hn:BZ u=true:=by cases hx <;> rfl
  have he:(Op.equal t u (.slice none 0 0)).run P w=.ok b w:=ql hb
  rw [gZ hn]
  cases op with
  | eql =>
    refine ⟨b,?_,hr⟩
    have:binOp .eql t u (.slice none 0 0)=(do pure (.bool (← Op.equal t u (.slice none 0 0)))):=by cases hx <;> rfl
    simp [this,he]
  | neq =>
    refine ⟨!b,?_,?_⟩
    · have:binOp .neq t u (.slice none 0 0)=(do pure (.bool (!(← Op.equal t u (.slice none 0 0))))):=by cases hx <;> rfl
      simp [this,he]
    · rcases hr with ⟨rfl,hr⟩ | rfl
      · exact .inl ⟨rfl,hr⟩
      · exact .inr rfl
  | _=>cases hop
section
variable {G:Gh} {C:Ctx} {A:dh} {pl:bA}
theorem lq (hO:tQ C) (hC:dK C) {rr:Option Nat} {all:Array Oper} {Q:Exit→Act→World→Prop}:∀ {aj:List Oper} {E:Env} {S:St} {w:World} {a:Act} {K:St→Prop},ai G pn E S w→TR E S.t a→wU C A pl all aj S K →
    (∀ S' E' a' w',K S'→ai G pn E' S' w'→TR E' S'.t a'→Q .normal a' w')→wpListIn (rd rr) 0 C.P all Q aj a w
  | [],E,S,w,a,K,hM,ht,h,hQ=>hQ _ _ _ _ h hM ht
  | o::rest,E,S,w,a,K,hM,ht,h,hQ=>by
    have step:∀ {S1:St},ai G pn E S1 w→TR E S1.t a→Region.wanted o (yielded all a.tmps)=true→(Ef C A pl o S1 fun S'=>wU C A pl all rest S' K)→wpListIn (rd rr) 0 C.P all Q (o::rest) a w:=by
      intro S1 hM1 ht1 hw h
      unfold wpListIn
      rw [if_pos hw]
      refine vp (zf (rU hO h)) (qt hC hM1 ht1 (rU hO h) _ _ (fun S' E' a' w' hk hS htr=>?_))
      exact lq hO hC hS htr hk hQ
    unfold wU at h
    split at h
    · rename_i hg
      have hw:Region.wanted o (yielded all a.tmps)=true:=by unfold Region.wanted; rw [hg]
      split at h
      · unfold wpListIn
        rw [if_pos hw]
        unfold Eg at h
        split at h
        · rename_i op t x yt ho
          split at h
          · rename_i e hu
            obtain ⟨c,h,hc⟩:=cF h ht
            split at h
            · rename_i rows
              obtain ⟨hop,h1,h2⟩:=ad h
              obtain ⟨b,hrun,hbr⟩:=rm hop hu hc w x (.const (.slice none 0 0))
              have hex:(execOp a.eval o).run C.P w=.ok (.value (.bool b)) w:=by
                have:(execOp a.eval o)=(do pure (.value (← (do eqGuard op t x (.const (.slice none 0 0)) (a.eval x) (.slice none 0 0); binOp op t (a.eval x) (.slice none 0 0):Sem Value)))):=by
                  unfold execOp
                  rw [ho]
                  simp [Act.eval]
                rw [this,Sem.run_bind,hrun]
                rfl
              refine vp (fun c hc=>by rw [ho] at hc; cases hc) (cT hex ?_)
              have h3:br o.dst (.v (.bool b)) S fun S'=>wU C A pl all rest S' K:=by
                rcases hbr with ⟨rfl,hr⟩ | rfl
                · exact h1 hr
                · exact h2
              rw [aE] at h3
              exact lq hO hC (hM.congr ck cm cu) (ht.put (.v _ _ rfl)) h3 hQ
            · exact False.elim h
          · exact False.elim h
        · exact False.elim h
      · exact step hM ht hw h
    · rename_i j want hg
      split at h
      · exact False.elim h
      · rename_i d hd
        obtain ⟨b,S1,h,hb,hM1,ht1⟩:=iS hM ht h
        rcases jM hg (k9 hd hb) h with ⟨hw,h⟩ | ⟨hw,h⟩
        · exact step hM1 ht1 hw h
        · rw [aE] at h
          unfold wpListIn
          rw [if_neg (by rw [hw]; exact fun h=>by cases h)]
          exact ⟨fun _ _=>trivial,lq hO hC (hM1.congr ck cm cu) (ht1.put (pE _)) h hQ⟩
end
theorem yA {A:EU} {id:Nat} {S:St} {K:St→Prop} (h:Bo A id S K):∃ S',dk S S'∧K S':=by
  unfold Bo at h
  split at h
  · exact jS h
  · exact ⟨S,.refl S,h⟩
theorem yB {cfg:m4} (hmix:cfg.P.follows .mixedOrders=true) {A:EU} {pl:bA}:∀ (c:Code) {S:St} {K:Ex→St→Prop},jr pl A.ord c=true→tJ (gK cfg) (dU cfg.P) A pl c S K →
    ∀ (r:Option Nat) (G:Gh) (E:Env) (a:Act) (w:World) (Q:Exit→Act→World→Prop),ai G pn E S w→TR E S.t a→B8 G K Q→c.wpIn (rd r) 0 cfg.P Q a w:=by
  have hC:=yz cfg
  intro c
  induction c with
  | skip=>exact fun _ h r G E a w Q hM ht hQ=>wpIn_skip (hQ .nrm _ E _ _ h hM ht)
  | region id aj draw =>
    intro S K hB h r G E a w Q hM ht hQ
    cases draw with
    | false =>
      refine wpIn_region_list (lq hC (i4 cfg) hM ht h (fun S' E' a' w' hk hS htr=>?_))
      obtain ⟨S3,E3,hk,hS,htr⟩:=jL hS htr (tV hk)
      obtain ⟨S2,hw,hk⟩:=yA hk
      obtain ⟨E2,hM2,ht2⟩:=hw G E3 a' w' hS htr
      exact hQ .nrm _ _ _ _ hk hM2 ht2
    | true =>
      refine kG hmix pl id aj S (fun e S'=>e=.nrm∧Bo A id S' (K .nrm)) ?_ r G E a w Q hM ht (fun e S' E' a' w' hk hS htr=>?_)
      · unfold jr at hB
        have h':(match pO A.ord id with
        | some is=>bw (qT pl aj) (uu (gK cfg).P (ca aj.toList) S fun S1=>oT (gK cfg) (Bm A id) pl aj is none S1 fun S'=>jb (ca aj.toList) S' (tE (Bm A id) pl id S' fun S''=>Bo A id S'' (K .nrm)))
        | none=>ah 440):=h
        split at hB
        · rename_i is js h1 h2
          rw [h1] at h'
          dsimp only at h'
          obtain ⟨h3,h'⟩:=ad h'
          refine ap h3 ?_
          refine av.mono s8 h' (fun S1 h=>?_)
          rw [pW hB] at h
          refine av.mono (s9 hC.det) (CF hC h2 h) (fun S' h=>?_)
          obtain ⟨h4,h5⟩:=kE h
          exact h5 _ (av.mono mR (tV h4) (fun S'' h=>⟨rfl,h⟩))
        · cases hB
      · obtain ⟨rfl,hk⟩:=hk
        obtain ⟨S2,hw,hk⟩:=yA hk
        obtain ⟨E2,hM2,ht2⟩:=hw G E' a' w' hS htr
        exact hQ .nrm _ _ _ _ hk hM2 ht2
  | seq x y ihx ihy =>
    intro S K hB h r G E a w Q hM ht hQ
    unfold jr at hB
    rw [Bool.and_eq_true] at hB
    refine wpIn_seq (ihx hB.1 h r G E a w _ hM ht (fun e S' E' a' w' hk hS htr=>?_))
    cases e with
    | nrm =>
      dsimp only at hk
      split at hk
      · obtain ⟨S2,h1,⟨e2,S3,h2,h3,h4⟩,h5⟩:=jS hk
        subst h3 h4
        obtain ⟨E2,hM2,ht2⟩:=((mV _ _).trans h1) G E' a' w' hS htr
        refine h2 r G E2 a' w' Q hM2 ht2 (fun e' S'' E'' a'' w'' he hS' ht'=>?_)
        obtain ⟨rfl,rfl⟩:=he
        exact hQ _ _ _ _ _ h5 hS' ht'
      · exact ihy hB.2 hk r G E' a' w' Q hS htr hQ
    | ex i=>exact hQ (.ex i) _ _ _ _ hk hS htr
    | ret=>exact hQ .ret _ _ _ _ hk hS htr
  | cond c x y ihx ihy =>
    intro S K hB h r G E a w Q hM ht hQ
    unfold jr at hB
    rw [Bool.and_eq_true] at hB
    obtain ⟨b,S1,h1,h2,h3,h4⟩:=mg hM ht h
    cases b with
    | true=>exact wpIn_cond_true h2 (ihx hB.1 h1 r G E a w Q h3 h4 hQ)
    | false=>exact wpIn_cond_false h2 (ihy hB.2 h1 r G E a w Q h3 h4 hQ)
  | block id c ih =>
    intro S K hB h r G E a w Q hM ht hQ
    refine wpIn_block (ih hB h r G E a w _ hM ht (fun e S' E' a' w' hk hS htr=>?_))
    cases e with
    | nrm=>exact hQ .nrm _ _ _ _ hk hS htr
    | ret=>exact hQ .ret _ _ _ _ hk hS htr
    | ex i =>
      show Exit.inBlock id Q (.exit i) a' w'
      unfold Exit.inBlock
      dsimp only at hk
      split at hk
      · rename_i hb
        have:=Nat.eq_of_beq_eq_true hb
        subst this
        simp only [if_pos]
        exact hQ .nrm _ _ _ _ hk hS htr
      · rename_i hb
        have hne:¬ i=id:=fun e=>by subst e; simp at hb
        simp only [if_neg hne]
        exact hQ (.ex i) _ _ _ _ hk hS htr
  | loop c ih =>
    intro S K hB h r G E a w Q hM ht hQ
    have h':(match pO A.lps (nu c) with
    | some (W,L,e,S1)=>Cn L (wk W S) fun S2=>((gK cfg).loop pl c S2 fun e' S'=>e'=e∧S'=S1)∧K e S1
    | none=>(gK cfg).loop pl c S K):=h
    split at h'
    · obtain ⟨S2,h1,h2,h3⟩:=jS h'
      obtain ⟨E2,hM2,ht2⟩:=((mV _ _).trans h1) G E a w hM ht
      refine i5 cfg pl c S2 _ h2 r G E2 a w Q hM2 ht2 (fun e' S'' E'' a'' w'' he hS' ht'=>?_)
      obtain ⟨rfl,rfl⟩:=he
      exact hQ _ _ _ _ _ h3 hS' ht'
    · exact i5 cfg pl c S K h' r G E a w Q hM ht hQ
  | exit id=>exact fun _ h r G E a w Q hM ht hQ=>wpIn_exit (hQ (.ex id) _ E _ _ h hM ht)
  | ret=>exact fun _ h r G E a w Q hM ht hQ=>wpIn_ret (hQ .ret _ E _ _ h hM ht)
  | _=>exact fun _ h=>False.elim h
theorem dU.of {cfg:m4} (hmix:cfg.P.follows .mixedOrders=true) {pl:bA} {c:Code} {S S1:St} {e:Ex} {K:Ex→St→Prop} {A:EU} {we:List (Nat×(Wk×Le))} (hB:jr pl A.ord c=true)
    (h:E4 (gK cfg) (dU cfg.P) A pl we c S (fun e' S'=>e'=e∧S'=S1)) (hk:K e S1):dU cfg.P c S K:=by
  refine ⟨e,S1,fun r G E a w Q hM ht hQ=>?_,hk⟩
  refine yB hmix c hB h r G E a w Q hM ht (fun e' S' E' a' w' hk hS htr=>?_)
  dsimp only at hk
  split at hk
  · obtain ⟨S2,h1,rfl,rfl⟩:=jS hk
    obtain ⟨E2,hM2,ht2⟩:=((mV _ _).trans h1) G E' a' w' hS htr
    exact hQ _ _ _ _ _ ⟨rfl,rfl⟩ hM2 ht2
  · obtain ⟨rfl,rfl⟩:=hk
    exact hQ _ _ _ _ _ ⟨rfl,rfl⟩ hS htr
theorem gQ.round {cfg:m4} {pl:bA} {c:Code} {S:St} {K:Ex→St→Prop}
    (h:dU cfg.P c S fun e S'=>match e with
      | .nrm=>gQ cfg.P pl c S' K
      | .ex i=>K (.ex i) S'
      | .ret=>K .ret S'):gQ cfg.P pl c S K:=by
  obtain ⟨e1,S1,h2,h1⟩:=h
  have run:∀ (e:Ex) (S3:St) (n:Nat),(∀ (r:Option Nat) (G:Gh) (E:Env) (a:Act) (w:World) (Q:Exit→Act→World→Prop),ai G pn E S1 w→TR E S1.t a→B8 G (fun e' S''=>e'=e∧S''=S3) Q→Exit.then (Code.roundsIn (rd r) 0 cfg.P c Q n) Q (Ds e1) a w) →
      ∀ (r:Option Nat) (G:Gh) (E:Env) (a:Act) (w:World) (Q:Exit→Act→World→Prop),ai G pn E S w→TR E S.t a→B8 G (fun e' S''=>e'=e∧S''=S3) Q→Code.roundsIn (rd r) 0 cfg.P c Q (n + 1) a w:=by
    intro e S3 n hn r G E a w Q hM ht hQ
    refine h2 r G E a w _ hM ht (fun e' S' E' a' w' hk hS htr=>?_)
    obtain ⟨rfl,rfl⟩:=hk
    exact hn r G E' a' w' Q hS htr hQ
  cases e1 with
  | nrm =>
    obtain ⟨n,e,S',hl,hk⟩:=h1
    exact ⟨n + 1,e,S',run e S' n (fun r G E a w Q hM ht hQ=>hl r G E a w Q hM ht hQ),hk⟩
  | ex i=>exact ⟨1,.ex i,S1,run _ _ 0 (fun r G E a w Q hM ht hQ=>hQ _ _ _ _ _ ⟨rfl,rfl⟩ hM ht),h1⟩
  | ret=>exact ⟨1,.ret,S1,run _ _ 0 (fun r G E a w Q hM ht hQ=>hQ _ _ _ _ _ ⟨rfl,rfl⟩ hM ht),h1⟩
def rk {σ τ:Type} (Sf:σ→St) (out:τ→Ex×St) (r:σ⊕τ) (e:Ex) (S':St):Prop :=
  match r with
  | .inl s'=>e=.nrm∧S'=Sf s'
  | .inr t=>e≠.nrm∧e=(out t).1∧S'=(out t).2
theorem G8 {σ τ:Type} {Sf:σ→St} {out:τ→Ex×St} {s:σ}:rk Sf out (.inl s) .nrm (Sf s):=⟨rfl,rfl⟩
def pk {τ:Type} (out:τ→Ex×St) (t:τ) (e:Ex) (S':St):Prop:=e=(out t).1∧S'=(out t).2
theorem gQ.iter {cfg:m4} {pl:bA} {c:Code} {σ τ:Type} {step:σ→Option (σ⊕τ)} (Sf:σ→St) (out:τ→Ex×St)
    (hs:∀ s r,step s=some r→dU cfg.P c (Sf s) (rk Sf out r)):∀ (n:Nat) (s:σ) (t:τ),A.iter step n s=some t→gQ cfg.P pl c (Sf s) fun e S'=>e=(out t).1∧S'=(out t).2
  | 0,s,t,h=>by cases h
  | n + 1,s,t,h=>by
    unfold A.iter at h
    split at h
    · cases h
    · rename_i s' hs'
      refine gQ.round ((hs s _ hs').mono fun e S' h1=>?_)
      obtain ⟨rfl,rfl⟩:=h1
      exact gQ.iter Sf out hs n s' t h
    · rename_i t' ht'
      cases h
      refine gQ.round ((hs s _ ht').mono fun e S' h1=>?_)
      obtain ⟨h0,h1,h2⟩:=h1
      cases e with
      | nrm=>exact absurd rfl h0
      | ex i=>exact ⟨h1,h2⟩
      | ret=>exact ⟨h1,h2⟩
theorem di.le {P:Program} {f:Nat} {as as':List AV} {K:AV→Prop} (h:di P f as' K) (hl:lM as as'):di P f as K:=by
  obtain ⟨r,⟨h1,h2⟩,h3⟩:=h
  exact ⟨r,⟨h1,fun F w us hF hg hv=>h2 F w us hF hg (hl.vrs hv)⟩,h3⟩
theorem di.to {P:Program} {f:Nat} {as:List AV} {r:AV} (h:di P f as fun x=>iT x r):di P f as fun x=>x=r:=by
  obtain ⟨x,⟨h1,h2⟩,h3⟩:=h
  refine ⟨r,⟨h1,fun F w us hF hg hv=>(h2 F w us hF hg hv).mono ?_⟩,rfl⟩
  rintro e w' ⟨v,F',h4,h5,h6⟩
  exact ⟨v,F',h4,h3 _ _ h5,h6⟩
def bN (k:IntKind) (x:Int):AV:=.v (.int k x)
def FS (x:Bool):AV:=.v (.bool x)
def jE {α:Type} (f:α→List AV) (x:α):AV:=.agg (f x)
def ae (k:IntKind) (x:Int):List AV:=[.v (.int k x)]
def Eh (x:Bool):List AV:=[.v (.bool x)]
def qK {α:Type} (f:α→List AV) (l:List α):List AV:=[.sl (l.map f)]
def iG {α β:Type} (f:α→AV) (g:β→AV) (e:α×β):AV×AV:=(f e.1,g e.2)
theorem lQ {k:IntKind} {a b:Int} (h:(a==b)=true):AV.v (.int k a)=AV.v (.int k b):=by rw [eq_of_beq h]
theorem t6 {i:Nat}:Ex.ex i≠Ex.nrm:=fun h=>by cases h
theorem Dh:Ex.ret≠Ex.nrm:=fun h=>by cases h
theorem DK {α:Type} (f:α→List AV) (l:List α):AV.v (.int .i64 (((l.map f).length:Nat):Int))=AV.v (.int .i64 (l.length:Int)):=by rw [List.length_map]
theorem ot {α:Type} (f:α→List AV) {l:List α} {i:Int} {x:α} (h:aH l i=some x):Bn (l.map f) i=some (f x):=by
  unfold aH at h
  unfold Bn
  split
  · rename_i h0
    rw [if_pos h0] at h
    rw [List.getElem?_map,h]
    rfl
  · rename_i h0
    rw [if_neg h0] at h
    cases h
theorem aZ {α:Type} (f:α→List AV) {l:List α} {i:Int} {x:α} (h:aH l i=some x):(l.map f)[i.toNat]?=some (f x):=by
  unfold aH at h
  split at h
  · rw [List.getElem?_map,h]
    rfl
  · cases h
theorem CG {α:Type} (f:α→List AV) (l:List α) {sz:Nat} (hf:∀ x,Nat.beq (f x).length sz=true):fE sz (l.map f)=true:=by
  cases l with
  | nil=>rfl
  | cons x l=>exact hf x
theorem zM {α:Type} (f:α→List AV) (l:List α) (hf:∀ x,(f x).all jV=true):bu (l.map f)=true:=by
  unfold bu
  rw [List.all_eq_true]
  intro r hr
  obtain ⟨x,_,rfl⟩:=List.mem_map.1 hr
  exact hf x
theorem iU {α:Type} (f:α→List AV) (l m:List α):l.map f++m.map f=(l++m).map f:=List.map_append.symm
theorem ba {α:Type} (f:α→List AV) (l:List α) (i:Nat) (x:α):(l.map f).set i (f x)=(l.set i x).map f:=(List.map_set).symm
theorem Ag {α:Type} (f:α→List AV) (n:Nat) (x:α):List.replicate n (f x)=(List.replicate n x).map f:=List.map_replicate.symm
theorem Ai {α:Type} (f:α→List AV) (l:List α) (i off a b:Nat):AV.msl i off a ((l.map f).length - b)=AV.msl i off a (l.length - b):=by rw [List.length_map]
theorem CH {α:Type} {f:α→List AV} {l:List α} {h:Int} (e:(decide (0≤h)&&decide (h≤(l.length:Int)))=true):(decide (0≤h)&&decide (h≤(((l.map f).length:Nat):Int)))=true:=by rw [List.length_map]; exact e
theorem wY {α:Type} {f:α→List AV} {l:List α} {k m:Nat} (h:Nat.ble (l.length * k) m=true):Nat.ble ((l.map f).length * k) m=true:=by rw [List.length_map]; exact h
theorem g8 {α:Type} {f:α→List AV} {l:List α} {k m n:Nat} (h:Nat.ble ((l.length + n) * k) m=true):Nat.ble (((l.map f).length + n) * k) m=true:=by rw [List.length_map]; exact h
theorem vS {α:Type} {f:α→List AV} {l l':List α} {k m:Nat} (h:Nat.ble ((l.length + l'.length) * k) m=true):Nat.ble (((l.map f).length + (l'.map f).length) * k) m=true:=by rw [List.length_map,List.length_map]; exact h
def aT {α:Type} (f:α→List AV) (c:Option (List α)):Option (List (List AV)):=c.map fun l=>l.map f
section
variable {α:Type} (f:α→List AV)
theorem FT (cs:List (Option (List α))):AV.v (.int .i64 (((cs.map (aT f)).length:Nat):Int))=AV.v (.int .i64 (cs.length:Int)):=by rw [List.length_map]
theorem kH {β:Type} {l:List β} {i:Int} {x:β} (h:aH l i=some x):0≤i∧l[i.toNat]?=some x:=by
  unfold aH at h
  split at h
  · rename_i h0
    exact ⟨h0,h⟩
  · cases h
theorem CI {cs:List (Option (List α))} {i:Nat} {x:Option (List α)} {r:List α} (h:cs[i]?=some x) (h1:x=some r):(cs.map (aT f))[i]?=some (some (r.map f)):=by
  rw [List.getElem?_map,h,h1]
  rfl
theorem E5 {cs:List (Option (List α))} {i:Nat} {x:Option (List α)} (h:cs[i]?=some x) (h1:x=none):(cs.map (aT f))[i]?=some none:=by
  rw [List.getElem?_map,h,h1]
  rfl
theorem mD {cs:List (Option (List α))} {i:Int} {x:Option (List α)} {r:List α} (h:aH cs i=some x) (h1:x=some r):(cs.map (aT f))[i.toNat]?=some (some (r.map f)):=CI f (kH h).2 h1
theorem yC {cs:List (Option (List α))} {i:Int} {x:Option (List α)} (h:aH cs i=some x) (h1:x=none):(cs.map (aT f))[i.toNat]?=some none:=E5 f (kH h).2 h1
theorem FU {cs:List (Option (List α))} {i:Nat} {x:Option (List α)} (h:cs[i]?=some x):Nat.blt i (cs.map (aT f)).length=true:=by
  have:i<cs.length:=(List.getElem?_eq_some_iff.1 h).1
  rw [List.length_map]
  exact Nat.blt_eq.mpr this
theorem ea {cs:List (Option (List α))} {i:Int} {x:Option (List α)} (h:aH cs i=some x):Nat.blt i.toNat (cs.map (aT f)).length=true:=FU f (kH h).2
theorem lO {cs:List (Option (List α))} {i:Int} {x:Option (List α)} (h:aH cs i=some x):(decide (0≤i)&&Nat.blt i.toNat (cs.map (aT f)).length)=true:=by
  rw [Bool.and_eq_true]
  exact ⟨decide_eq_true (kH h).1,ea f h⟩
theorem Bz {a b:Bool} (h:a=true) (k:b=true):(a&&b)=true:=by rw [h,k]; rfl
theorem Gz (i:Nat):Nat.beq i i=true:=Nat.beq_refl i
theorem eY (cs:List (Option (List α))) (i:Nat) (r:List α):(cs.map (aT f)).set i (some (r.map f))=(cs.set i (some r)).map (aT f):=by
  rw [List.map_set]
  rfl
theorem DL {cs:List (Option (List α))} {i:Nat} {x:Option (List α)} {r:List α} (h:cs[i]?=some x) (h1:x=some r):(cs.map (aT f)).set i (some (r.map f))=cs.map (aT f):=by
  have hs:=CI f h h1
  apply List.ext_getElem?
  intro j
  rw [List.getElem?_set]
  split
  · rename_i hj
    subst hj
    rw [hs]
    split
    · rfl
    · rename_i hn
      exact absurd (List.getElem?_eq_some_iff.1 hs).1 hn
  · rfl
theorem zN {cs:List (Option (List α))} {i:Int} {x:Option (List α)} {r:List α} (h:aH cs i=some x) (h1:x=some r):(cs.map (aT f)).set i.toNat (some (r.map f))=cs.map (aT f):=DL f (kH h).2 h1
theorem BA (n:Nat):List.replicate n (none:Option (List (List AV)))=(List.replicate n (none:Option (List α))).map (aT f):=by
  rw [List.map_replicate]
  rfl
end
theorem lu {α:Type} {P:Program} (c:Prop) [Decidable c] (x y:Sem α):aw P (if c then x else y)=if c then aw P x else aw P y:=by
  split <;> rfl
def E6 (f:Nat→Option Bool):List Nat→Option Bool
  | []=>some true
  | i::is=>match f i with
    | some e=>match E6 f is with
      | some s=>some (e&&s)
      | none=>none
    | none=>none
def Aj (P:Program):Nat→TypeId→Value→Value→Option Bool
  | 0,_,_,_=>none
  | n + 1,t,x,y =>
    match P.underlying t,x,y with
    | some .bool,.bool a,.bool b=>some (a==b)
    | some (.int _),.int k a,.int k' b=>if k=k' then some (a==b) else none
    | some .string,.string a,.string b=>some (a.toList==b.toList)
    | some (.struct fs),.agg xs,.agg ys=>match P.stoodInHeld t with
      | true=>none
      | false => fs.toList.foldr (fun f (r : Option Bool × Bool) => match f.name == "_", aw P (part f.type xs f.offset), aw P (part f.type ys f.offset) with
          | false,some a,some b=>match Aj P n f.type a b,r with
            | some e,(_,false)=>(some e,true)
            | some e,(some s,true)=>(some (e&&s),true)
            | _,_=>(none,true)
          | _,_,_=>(none,true)) (some true,false) |>.1
    | some (.array len e),.agg xs,.agg ys=>match aw P (sizeOf e) with
      | some m=>E6 (fun i=>match aw P (part e xs (i * m)),aw P (part e ys (i * m)) with
        | some a,some b=>Aj P n e a b
        | _,_=>none) (List.range' 0 len)
      | none=>none
    | _,_,_=>none
theorem eF {P:Program} {t:TypeId} {d:TypeDesc} (h:P.underlying t=some d):aw P (underlying t)=some d:=by
  unfold underlying
  simp [aP,program,aw,h]
  rfl
theorem BB {P:Program} {t:TypeId} {fs:Array Field} {xs ys:Array Value} {d:Nat} (ht:P.underlying t=some (.struct fs)) (hp:P.stoodInHeld t=false) :
    aw P (Op.equalIn (d + 1) t (.agg xs) (.agg ys))=aw P (Op.eqFields d xs ys fs.toList):=by
  simp only [Op.equalIn,aP,eF ht,Option.bind_some]
  have hprog:aw P program=some P:=rfl
  simp only [aP,hprog,Option.bind_some,hp,Bool.false_eq_true,if_false]
  rw [← Array.forIn_toList]
  generalize fs.toList=l
  clear ht
  induction l with
  | nil=>rfl
  | cons f l ih =>
    simp only [List.forIn_cons,Op.eqFields,aP,lu]
    split
    · try simp only [aP]
      generalize aw P (part f.type xs f.offset)=r1
      cases r1 with
      | none=>rfl
      | some a =>
        simp only [Option.bind_some]
        generalize aw P (part f.type ys f.offset)=r2
        cases r2 with
        | none=>rfl
        | some b =>
          simp only [Option.bind_some]
          generalize aw P (Op.equalIn d f.type a b)=r3
          cases r3 with
          | none=>rfl
          | some r =>
            cases r
            · rfl
            · simp only [Option.bind_some]
              exact ih
    · exact ih
def rV (d:Nat) (e:TypeId) (m:Nat) (xs ys:Array Value):List Nat→Sem Bool
  | []=>pure true
  | i::is=>do
    if !(← Op.equalIn d e (← part e xs (i * m)) (← part e ys (i * m))) then return false
    rV d e m xs ys is
theorem CJ {P:Program} {t e:TypeId} {len m:Nat} {xs ys:Array Value} {d:Nat} (ht:P.underlying t=some (.array len e)) (hm:aw P (sizeOf e)=some m) :
    aw P (Op.equalIn (d + 1) t (.agg xs) (.agg ys))=aw P (rV d e m xs ys (List.range' 0 len)):=by
  simp only [Op.equalIn,aP,eF ht,Option.bind_some,hm]
  simp only [Std.Legacy.Range.forIn_eq_forIn_range',Std.Legacy.Range.size,Nat.sub_zero,Nat.add_one_sub_one,Nat.div_one]
  generalize List.range' 0 len=l
  clear ht
  induction l with
  | nil=>rfl
  | cons i l ih =>
    simp only [List.forIn_cons,rV,aP,lu]
    generalize aw P (part e xs (i * m))=r1
    cases r1 with
    | none=>rfl
    | some a =>
      simp only [Option.bind_some]
      generalize aw P (part e ys (i * m))=r2
      cases r2 with
      | none=>rfl
      | some b =>
        simp only [Option.bind_some]
        generalize aw P (Op.equalIn d e a b)=r3
        cases r3 with
        | none=>rfl
        | some r =>
          cases r
          · rfl
          · simp only [Option.bind_some]
            exact ih
theorem kI {P:Program}:∀ (n d:Nat) {t:TypeId} {x y:Value} {b:Bool},n≤d→Aj P n t x y=some b→aw P (Op.equalIn d t x y)=some b
  | 0,_,_,_,_,_,_,h=>by cases h
  | n + 1,0,_,_,_,_,hd,_=>by omega
  | n + 1,d + 1,t,x,y,b,hd,h=>by
    unfold Aj at h
    split at h
    · rename_i hu
      cases h
      simp only [Op.equalIn,aP,eF hu,Option.bind_some]
      rfl
    · rename_i hu
      split at h
      · rename_i hk
        cases h
        simp only [Op.equalIn,aP,eF hu,Option.bind_some]
        rw [if_pos hk]
        rfl
      · cases h
    · rename_i hu
      cases h
      simp only [Op.equalIn,aP,eF hu,Option.bind_some,← beq_toListBytes]
      rfl
    · rename_i fs xs ys hu
      split at h
      · cases h
      · rename_i hp
        rw [BB hu hp]
        have key : ∀ (l : List Field) (r : Option Bool) (m : Bool), l.foldr (fun f (r : Option Bool × Bool) => match f.name == "_", aw P (part f.type xs f.offset), aw P (part f.type ys f.offset) with
          | false,some a,some b=>match Aj P n f.type a b,r with
            | some e,(_,false)=>(some e,true)
            | some e,(some s,true)=>(some (e&&s),true)
            | _,_=>(none,true)
          | _,_,_=>(none,true)) (some true,false)=(r,m)→(m=false→l=[])∧∀ b,r=some b→aw P (Op.eqFields d xs ys l)=some b:=by
          intro l
          induction l with
          | nil =>
            intro r m h
            cases h
            exact ⟨fun _=>rfl,fun b hb=>by cases hb; rfl⟩
          | cons f l ih =>
            intro r m h
            rw [List.foldr_cons] at h
            generalize hq:(l.foldr _ (some true,false):Option Bool×Bool)=q at h
            obtain ⟨r',m'⟩:=q
            obtain ⟨ih1,ih2⟩:=ih r' m' hq
            split at h
            · rename_i a b hn ha hb
              have hn' : f.name ≠ "_" := by simpa using hn
              have step:∀ e,Aj P n f.type a b=some e→aw P (Op.eqFields d xs ys (f::l))=match e with | true=>aw P (Op.eqFields d xs ys l) | false=>some false:=by
                intro e he
                simp only [Op.eqFields]
                rw [if_pos hn']
                simp only [aP,ha,hb,Option.bind_some,kI n d (by omega) he]
                cases e <;> rfl
              cases hv:Aj P n f.type a b with
              | none =>
                rw [hv] at h
                cases h
                exact ⟨fun h=>(by cases h),fun b' hb'=>(by cases hb')⟩
              | some e =>
                rw [hv] at h
                cases m' with
                | false =>
                  cases h
                  refine ⟨fun h=>(by cases h),fun b' hb'=>?_⟩
                  cases hb'
                  rw [step e hv,ih1 rfl]
                  cases e <;> rfl
                | true =>
                  cases r' with
                  | none =>
                    cases h
                    exact ⟨fun h=>(by cases h),fun b' hb'=>(by cases hb')⟩
                  | some s =>
                    cases h
                    refine ⟨fun h=>(by cases h),fun b' hb'=>?_⟩
                    cases hb'
                    rw [step e hv,ih2 s rfl]
                    cases e <;> rfl
            · cases h
              exact ⟨fun h=>(by cases h),fun b' hb'=>(by cases hb')⟩
        generalize hq:(fs.toList.foldr _ (some true,false):Option Bool×Bool)=q at h
        obtain ⟨r,m⟩:=q
        exact (key _ r m hq).2 b h
    · rename_i len e xs ys hu
      split at h
      · rename_i m hm
        rw [CJ hu hm]
        generalize List.range' 0 len=l at h ⊢
        induction l generalizing b with
        | nil =>
          cases h
          rfl
        | cons i l ih =>
          unfold E6 at h
          split at h
          · rename_i c hc
            split at hc
            · rename_i u v h1 h2
              split at h
              · rename_i s hs
                cases h
                simp only [rV,aP,h1,h2,Option.bind_some,kI n d (by omega) hc]
                cases c
                · rfl
                · exact ih _ hs
              · cases h
            · cases hc
          · cases h
      · cases h
    · cases h
theorem BC {P:Program} {t:TypeId} {xs ys:List Value} {b:Bool} (hg:P.eqGuardType P.depth t=false) (h:Aj P 16 t (.agg xs.toArray) (.agg ys.toArray)=some b):co P .eql t xs ys=some (.bool b):=by
  unfold co
  have h1:aw P (eqGuard .eql t (.tmp 0) (.tmp 0) (.agg xs.toArray) (.agg ys.toArray))=some ():=by
    simp [eqGuard,aP,program,aw,hg]
    rfl
  have h2:aw P (binOp .eql t (.agg xs.toArray) (.agg ys.toArray))=some (.bool b):=by
    have:=kI (P:=P) 16 10000 (by omega) h
    simp only [binOp,Op.equal,Op.maxDepth]
    rw [aP,this]
    rfl
  rw [aP,h1]
  exact h2
theorem BD {P:Program} {t:TypeId} {xs ys:List Value} {b:Bool} (hg:P.eqGuardType P.depth t=false) (h:Aj P 16 t (.agg xs.toArray) (.agg ys.toArray)=some b):co P .neq t xs ys=some (.bool (!b)):=by
  unfold co
  have h1:aw P (eqGuard .neq t (.tmp 0) (.tmp 0) (.agg xs.toArray) (.agg ys.toArray))=some ():=by
    simp [eqGuard,aP,program,aw,hg]
    rfl
  have h2:aw P (binOp .neq t (.agg xs.toArray) (.agg ys.toArray))=some (.bool (!b)):=by
    have:=kI (P:=P) 16 10000 (by omega) h
    simp only [binOp,Op.equal,Op.maxDepth]
    rw [aP,this]
    rfl
  rw [aP,h1]
  exact h2
structure Ak (P:Program) (kt:TypeId) {κ:Type} (kf:κ→AV) (kv:κ→Value) (beq:κ→κ→Bool):Prop where
  tok:∀ k,uo (kf k)=some (kv k)
  eqv:∀ a b,Aj P 16 kt (kv a) (kv b)=some (beq a b)
  chk:∀ e k,aw P (Instr.checkKey e 10000 kt (kv k))=some ()
  sam:∀ a b,beq a b=true→Instr.sameBits 10000 (kv b) (kv a)=true
def wZ:List Bool→Nat→Option Nat
  | [],_=>none
  | true::_,i=>some i
  | false::bs,i=>wZ bs (i + 1)
theorem t7 {P:Program} {kt:TypeId} {x:Value}:∀ {es:List MapEntry} {bs:List Bool} {i:Nat},es.length=bs.length→(∀ (j:Nat) (e:MapEntry) (b:Bool),es[j]?=some e→bs[j]?=some b→Aj P 16 kt x e.key=some b) →
    ∃ r,aw P (Instr.findAsking kt x es i)=some r∧r.map (·.1)=wZ bs i
  | [],[],i,_,_=>⟨none,rfl,rfl⟩
  | [],_::_,_,h,_=>by simp at h
  | _::_,[],_,h,_=>by simp at h
  | e::es,b::bs,i,hl,hv=>by
    have h0:=kI (P:=P) 16 10000 (by omega) (hv 0 e b rfl rfl)
    unfold Instr.findAsking
    rw [aP]
    have h1:aw P (Op.equal kt x e.key)=some b:=h0
    rw [h1,Option.bind_some,lu]
    cases b with
    | true=>exact ⟨some (i,e.val),rfl,rfl⟩
    | false=>exact t7 (es:=es) (bs:=bs) (i:=i + 1) (by simpa using hl) (fun j e' b' h2 h3=>hv (j + 1) e' b' (by simpa using h2) (by simpa using h3))
theorem Al {P:Program} {kt:TypeId} {x:Value} {d:TypeDesc} (hd:P.underlying kt=some d):∀ {es:List MapEntry} {bs:List Bool} {i:Nat} {r:Option (Nat×Value)},es.length=bs.length→(∀ (j:Nat) (e:MapEntry) (b:Bool),es[j]?=some e→bs[j]?=some b→Aj P 16 kt x e.key=some b) →
    Instr.findNow d x es i=some r→r.map (·.1)=wZ bs i
  | [],[],i,r,_,_,h=>by cases h; rfl
  | [],_::_,_,_,h,_,_=>by simp at h
  | _::_,[],_,_,h,_,_=>by simp at h
  | e::es,b::bs,i,r,hl,hv,h=>by
    have h0:=hv 0 e b rfl rfl
    have hs:∀ c,Instr.sameNow d x e.key=some c→c=b:=by
      intro c hc
      unfold Aj at h0
      rw [hd] at h0
      generalize e.key=y at h0 hc
      unfold Instr.sameNow at hc
      split at hc
      · dsimp only at h0
        split at hc
        · rename_i hk
          rw [if_pos hk] at h0
          rw [hc] at h0
          exact Option.some.inj h0
        · cases hc
      · dsimp only at h0
        rw [beq_toListBytes] at hc
        rw [hc] at h0
        exact Option.some.inj h0
      · dsimp only at h0
        rw [hc] at h0
        exact Option.some.inj h0
      · cases hc
    unfold Instr.findNow at h
    split at h
    · rename_i hc
      cases h
      rw [← hs _ hc]
      rfl
    · rename_i hc
      rw [← hs _ hc]
      exact Al hd (es:=es) (bs:=bs) (i:=i + 1) (by simpa using hl) (fun j e' b' h2 h3=>hv (j + 1) e' b' (by simpa using h2) (by simpa using h3)) h
    · cases h
theorem DN {P:Program} {kt:TypeId} {x:Value} {es:List MapEntry} {bs:List Bool} {d:TypeDesc} (hd:P.underlying kt=some d) (hl:es.length=bs.length) (hv:∀ (j:Nat) (e:MapEntry) (b:Bool),es[j]?=some e→bs[j]?=some b→Aj P 16 kt x e.key=some b) :
    ∃ r,aw P (Instr.findKey kt x es)=some r∧r.map (·.1)=wZ bs 0:=by
  unfold Instr.findKey
  rw [aP,eF hd,Option.bind_some]
  split
  · rename_i r hr
    exact ⟨r,rfl,Al hd hl hv hr⟩
  · exact t7 hl hv
theorem t8 {κ β:Type} {kf:κ→AV} {kv:κ→Value} {vf:β→AV} (ht:∀ k,uo (kf k)=some (kv k)):∀ l:List (κ×β),keysOf (l.map (iG kf vf))=some (l.map fun e=>({ key:=kv e.1,val:=.bool false,born:=0 }:MapEntry))
  | []=>rfl
  | e::l=>by
    show (match uo (kf e.1),keysOf (l.map (iG kf vf)) with
      | some x,some xs=>some (({ key:=x,val:=.bool false,born:=0 }:MapEntry)::xs)
      | _,_=>none)=_
    rw [ht,t8 ht l]
    rfl
theorem vV {P:Program} {kt:TypeId} {κ β:Type} {kf:κ→AV} {kv:κ→Value} {beq:κ→κ→Bool} {vf:β→AV} (hd:(P.underlying kt).isSome=true) (hk:Ak P kt kf kv beq) (l:List (κ×β)) (k:κ) {K:Value→Option Nat→Prop}
    (h:K (kv k) (wZ (l.map fun e=>beq k e.1) 0)):fY P kt (kf k) (l.map (iG kf vf)) K:=by
  obtain ⟨d,hd⟩:=Option.isSome_iff_exists.1 hd
  unfold fY
  rw [hk.tok,t8 hk.tok]
  dsimp only
  rw [hk.chk]
  obtain ⟨r,h1,h2⟩:=DN (P:=P) (x:=kv k) (es:=l.map fun e=>({ key:=kv e.1,val:=.bool false,born:=0 }:MapEntry)) (bs:=l.map fun e=>beq k e.1) hd (by simp) (fun j e b h1 h2=>by
    rw [List.getElem?_map,Option.map_eq_some_iff] at h1 h2
    obtain ⟨x,h3,rfl⟩:=h1
    obtain ⟨y,h4,rfl⟩:=h2
    rw [h3] at h4
    cases h4
    exact hk.eqv _ _)
  rw [h1]
  dsimp only
  rw [h2]
  exact h
theorem pX {κ β:Type} {beq:κ→κ→Bool} {k:κ}:∀ (l:List (κ×β)) (i:Nat),(wZ (l.map fun e=>beq k e.1) i=none∧bT beq l k=none)∨∃ j e,wZ (l.map fun e=>beq k e.1) i=some (i + j)∧l[j]?=some e∧beq k e.1=true∧bT beq l k=some e.2
  | [],i=>.inl ⟨rfl,rfl⟩
  | e::l,i=>by
    rw [List.map_cons]
    cases hb:beq k e.1 with
    | true=>exact .inr ⟨0,e,rfl,rfl,hb,by unfold bT; rw [if_pos hb]⟩
    | false =>
      have hg:bT beq (e::l) k=bT beq l k:=by
        show (if beq k e.1=true then some e.2 else bT beq l k)=_
        rw [if_neg (by rw [hb]; exact Bool.false_ne_true)]
      rcases pX (β:=β) (beq:=beq) (k:=k) l (i + 1) with ⟨h1,h2⟩ | ⟨j,e',h1,h2,h3,h4⟩
      · exact .inl ⟨h1,hg.trans h2⟩
      · exact .inr ⟨j + 1,e',by rw [show i + (j + 1)=i + 1 + j by omega]; exact h1,h2,h3,hg.trans h4⟩
def BE (P:Program) (kt e:TypeId) {κ β:Type} (kf:κ→AV) (beq:κ→κ→Bool) (vf:β→AV) (z:β) (l:List (κ×β)) (k:κ):Prop :=
  ∀ k':AV→Prop,k' (.tup [vf ((bT beq l k).getD z),.v (.bool (bT beq l k).isSome)])→fY P kt (kf k) (l.map (iG kf vf)) fun _ r=>hU P e true (l.map (iG kf vf)) r k'
def DO (P:Program) (kt:TypeId) {κ β:Type} (kf:κ→AV) (beq:κ→κ→Bool) (vf:β→AV) (l:List (κ×β)) (k:κ) (v:β):Prop :=
  ∀ K':List (AV×AV)→Prop,K' ((kn beq l k v).map (iG kf vf))→fY P kt (kf k) (l.map (iG kf vf)) fun kv' r=>bw (v8 P kt kv') (
          match r with
          | some i=>bw (Instr.sameBits 10000 (((l.map (iG kf vf))[i]?.bind fun e=>uo e.1).getD (.bool false)) kv') (K' ((l.map (iG kf vf)).set i (kf k,vf v)))
          | none=>K' (l.map (iG kf vf)++[(kf k,vf v)]))
theorem CK {P:Program} {kt e:TypeId} {κ β:Type} {kf:κ→AV} {kv:κ→Value} {beq:κ→κ→Bool} {vf:β→AV} (hd:(P.underlying kt).isSome=true) (hk:Ak P kt kf kv beq) (z:β) (hz:∀ k',gv P e true k'=k' (.tup [vf z,.v (.bool false)])) (l:List (κ×β)) (k:κ) :
    ∀ k':AV→Prop,k' (.tup [vf ((bT beq l k).getD z),.v (.bool (bT beq l k).isSome)])→fY P kt (kf k) (l.map (iG kf vf)) fun _ r=>hU P e true (l.map (iG kf vf)) r k':=by
  intro k' h
  refine vV hd hk l k ?_
  rcases pX (β:=β) (beq:=beq) (k:=k) l 0 with ⟨h1,h2⟩ | ⟨j,en,h1,h2,h3,h4⟩
  · rw [h1]
    show gv P e true k'
    rw [hz]
    rw [h2] at h
    exact h
  · rw [h1]
    show hU P e true _ (some (0 + j)) k'
    unfold hU
    dsimp only
    rw [Nat.zero_add,List.getElem?_map,h2]
    rw [h4] at h
    exact h
theorem vW {κ β:Type} {beq:κ→κ→Bool} {k:κ} {v:β}:∀ {l:List (κ×β)},bT beq l k=none→kn beq l k v=l++[(k,v)]
  | [],_=>rfl
  | e::l,h=>by
    unfold bT at h
    split at h
    · cases h
    · rename_i hb
      show (if beq k e.1=true then (k,v)::l else e::kn beq l k v)=_
      rw [if_neg hb,vW h]
      rfl
theorem vX {κ β:Type} {beq:κ→κ→Bool} {k:κ} {v:β}:∀ {l:List (κ×β)} {i j:Nat},wZ (l.map fun e=>beq k e.1) i=some (i + j)→kn beq l k v=l.set j (k,v)
  | [],_,_,h=>by cases h
  | e::l,i,j,h=>by
    rw [List.map_cons] at h
    show (if beq k e.1=true then (k,v)::l else e::kn beq l k v)=_
    cases hb:beq k e.1 with
    | true =>
      rw [hb] at h
      have:i=i + j:=Option.some.inj h
      have:j=0:=by omega
      subst this
      rw [if_pos rfl]
      rfl
    | false =>
      rw [hb] at h
      have h':wZ (l.map fun e=>beq k e.1) (i + 1)=some (i + j):=h
      rw [if_neg (by exact Bool.false_ne_true)]
      rcases pX (β:=β) (beq:=beq) (k:=k) l (i + 1) with ⟨h1,_⟩ | ⟨j',e',h1,_⟩
      · rw [h1] at h'; cases h'
      · rw [h1] at h'
        have:i + 1 + j'=i + j:=Option.some.inj h'
        have:j=j' + 1:=by omega
        subst this
        rw [vX h1]
        rfl
theorem E7 {P:Program} {kt:TypeId} {κ β:Type} {kf:κ→AV} {kv:κ→Value} {beq:κ→κ→Bool} {vf:β→AV} (hd:(P.underlying kt).isSome=true) (hk:Ak P kt kf kv beq) (l:List (κ×β)) (k:κ) (v:β) :
    ∀ K':List (AV×AV)→Prop,K' ((kn beq l k v).map (iG kf vf))→fY P kt (kf k) (l.map (iG kf vf)) fun kv' r=>bw (v8 P kt kv') (
          match r with
          | some i=>bw (Instr.sameBits 10000 (((l.map (iG kf vf))[i]?.bind fun e=>uo e.1).getD (.bool false)) kv') (K' ((l.map (iG kf vf)).set i (kf k,vf v)))
          | none=>K' (l.map (iG kf vf)++[(kf k,vf v)])):=by
  intro K' h
  refine vV hd hk l k ?_
  refine ap (by unfold v8; rw [hk.chk]) ?_
  rcases pX (β:=β) (beq:=beq) (k:=k) l 0 with ⟨h1,h2⟩ | ⟨j,en,h1,h2,h3,h4⟩
  · rw [h1]
    rw [vW h2,List.map_append] at h
    exact h
  · rw [h1]
    rw [vX h1,List.map_set] at h
    rw [Nat.zero_add]
    refine ap ?_ h
    rw [List.getElem?_map,h2]
    show Instr.sameBits 10000 ((uo (kf en.1)).getD (.bool false)) (kv k)=true
    rw [hk.tok]
    exact hk.sam _ _ h3
section
variable {P:Program} {kt:TypeId} {κ:Type} {kf:κ→AV} {kv:κ→Value} {beq:κ→κ→Bool}
end
def m5 (H:Type) (P:Program) (t:TypeId) {α:Type} (f:α→List AV) (wf:α→Prop):Prop:=∀ (n:Nat) (d:DataW H),cV P n t d=true→∃ x,lM (fU P n t d) (f x)∧wf x
def lv (H:Type) (P:Program) (ts:List TypeId) {α:Type} (f:α→List AV) (wf:α→Prop):Prop:=∀ (n:Nat) (ds:List (DataW H)),ds.length=ts.length→((ts.zip ds).all fun x=>cV P n x.1 x.2)=true→∃ x,lM ((ts.zip ds).flatMap fun x=>fU P n x.1 x.2) (f x)∧wf x
section
variable {H:Type} {P:Program} {t:TypeId}
theorem m5.int {k:IntKind} (hu:P.underlying t=some (.int k)):m5 H P t (ae k) (BN k):=by
  intro n d h
  cases n with
  | zero=>cases h
  | succ n =>
    unfold cV at h
    rw [hu] at h
    cases d with
    | lit l =>
      cases l with
      | int k' m =>
        have h:(decide (k'=k)&&(Lit.int k m).wf)=true:=h
        rw [Bool.and_eq_true] at h
        obtain ⟨h1,h2⟩:=h
        have h1:=of_decide_eq_true h1
        subst h1
        have h2:(decide (k'.min≤m)&&decide (m≤k'.max))=true:=h2
        rw [Bool.and_eq_true] at h2
        refine ⟨m,?_,of_decide_eq_true h2.1,of_decide_eq_true h2.2⟩
        unfold fU
        rw [hu]
        exact lM.refl _
      | _=>cases h
    | _=>cases h
theorem m5.bool (hu:P.underlying t=some .bool):m5 H P t Eh (fun _=>True):=by
  intro n d h
  cases n with
  | zero=>cases h
  | succ n =>
    unfold cV at h
    rw [hu] at h
    cases d with
    | lit l =>
      cases l with
      | bool b =>
        refine ⟨b,?_,trivial⟩
        unfold fU
        rw [hu]
        exact lM.refl _
      | _=>cases h
    | _=>cases h
theorem m5.slice {e:TypeId} (hu:P.underlying t=some (.slice e)) {α:Type} {f:α→List AV} {wf:α→Prop} (he:m5 H P e f wf):m5 H P t (qK f) (fun l=>l.length≤maxLen∧∀ x∈l,wf x):=by
  intro n d h
  cases n with
  | zero=>cases h
  | succ n =>
    unfold cV at h
    rw [hu] at h
    cases d with
    | nil =>
      refine ⟨[],?_,by simp [maxLen],fun x hx=>by cases hx⟩
      unfold fU
      rw [hu]
      exact lM.cons iT.nil lM.nil
    | slice xs sp =>
      have h:(decide (xs.length≤maxLen)&&xs.all (cV P n e))=true:=h
      rw [Bool.and_eq_true] at h
      obtain ⟨h1,h2⟩:=h
      have key:∀ xs:List (DataW H),xs.all (cV P n e)=true→∃ l:List α,g7 (xs.map (fU P n e)) (l.map f)∧l.length=xs.length∧∀ x∈l,wf x:=by
        intro xs
        induction xs with
        | nil=>exact fun _=>⟨[],g7.nil,rfl,fun x hx=>by cases hx⟩
        | cons x xs ih =>
          intro h
          rw [List.all_cons,Bool.and_eq_true] at h
          obtain ⟨y,hy1,hy2⟩:=he n x h.1
          obtain ⟨l,hl1,hl2,hl3⟩:=ih h.2
          refine ⟨y::l,g7.cons hy1 hl1,by simp [hl2],fun z hz=>?_⟩
          rcases List.mem_cons.1 hz with rfl | hz
          · exact hy2
          · exact hl3 z hz
      obtain ⟨l,hl1,hl2,hl3⟩:=key xs h2
      refine ⟨l,?_,by rw [hl2]; exact of_decide_eq_true h1,hl3⟩
      unfold fU
      rw [hu]
      exact lM.cons (iT.sl hl1) lM.nil
    | _=>cases h
theorem lv.nil:lv H P [] (fun _:Unit=>[]) (fun _=>True):=fun _ _ _ _=>⟨(),lM.nil,trivial⟩
theorem lv.cons {ts:List TypeId} {α β:Type} {f:α→List AV} {wf:α→Prop} {g:β→List AV} {wg:β→Prop} (h:m5 H P t f wf) (hs:lv H P ts g wg):lv H P (t::ts) (fun x:α×β=>f x.1++g x.2) (fun x=>wf x.1∧wg x.2):=by
  intro n ds hl ha
  cases ds with
  | nil=>simp at hl
  | cons d ds =>
    rw [List.zip_cons_cons,List.all_cons,Bool.and_eq_true] at ha
    obtain ⟨x,h1,h2⟩:=h n d ha.1
    obtain ⟨y,h3,h4⟩:=hs n ds (by simpa using hl) ha.2
    refine ⟨(x,y),?_,h2,h4⟩
    rw [List.zip_cons_cons,List.flatMap_cons]
    exact h1.app h3
theorem m5.struct {fs:Array Field} (hu:P.underlying t=some (.struct fs)) {α:Type} {g:α→List AV} {wg:α→Prop} (h:lv H P (fs.toList.map (·.type)) g wg):m5 H P t g wg:=by
  intro n d hd
  cases n with
  | zero=>cases hd
  | succ n =>
    unfold cV at hd
    rw [hu] at hd
    cases d with
    | agg ds =>
    have hd:(Nat.beq ds.length fs.size&&(fs.toList.zip ds).all fun x=>cV P n x.1.type x.2)=true:=hd
    rw [Bool.and_eq_true] at hd
    obtain ⟨h1,h2⟩:=hd
    have hlen:=Nat.eq_of_beq_eq_true h1
    obtain ⟨x,h3,h4⟩:=h n ds (by simpa using hlen) (by
      rw [List.zip_map_left,List.all_map]
      exact h2)
    refine ⟨x,?_,h4⟩
    unfold fU
    rw [hu]
    dsimp only
    rw [List.zip_map_left,List.flatMap_map] at h3
    exact h3
    | _=>cases hd
theorem m5.conv {α β:Type} {f:α→List AV} {wf:α→Prop} {g:β→List AV} {wg:β→Prop} (h:m5 H P t f wf) (φ:α→β) (hf:∀ x,f x=g (φ x)) (hw:∀ x,wf x→wg (φ x)):m5 H P t g wg:=fun n d hd=>by
  obtain ⟨x,h1,h2⟩:=h n d hd
  exact ⟨φ x,by rw [← hf]; exact h1,hw x h2⟩
theorem m5.argS {fs:Array Field} (hu:P.underlying t=some (.struct fs)) {α:Type} {f:α→List AV} {wf:α→Prop} (h:m5 H P t f wf) {n:Nat} {d:DataW H} (hd:cV P n t d=true):∃ x,iT (nr P n t d) (.agg (f x))∧wf x:=by
  obtain ⟨x,h1,h2⟩:=h n d hd
  refine ⟨x,?_,h2⟩
  unfold nr
  rw [hu]
  exact iT.agg h1
theorem m5.arg1 (hs:jp P t=false) {α:Type} {f:α→List AV} {wf:α→Prop} {g:α→AV} (h:m5 H P t f wf) (hg:∀ x,f x=[g x]) {n:Nat} {d:DataW H} (hd:cV P n t d=true):∃ x,iT (nr P n t d) (g x)∧wf x:=by
  obtain ⟨x,h1,h2⟩:=h n d hd
  refine ⟨x,?_,h2⟩
  rw [hg] at h1
  unfold jp at hs
  unfold nr
  split
  · rename_i fs hu
    rw [hu] at hs
    cases hs
  · generalize fU P n t d=r at h1
    cases r with
    | nil=>exact absurd h1.1 (by simp)
    | cons a r=>exact h1.2 0 a _ rfl rfl
end
end A
end Go.Proofs.YteafbimadlcljaaDoor
