/- The evaluator with answers; contracts out of it. Nothing is claimed here of the program. -/
import Derived.Test.YteafbimadlcljaaDoorK6
import Derived.Test.YteafbimadlcljaaDoorM0
import Derived.Laws.StructEq
namespace Go.Proofs.YteafbimadlcljaaDoor
namespace A
open Go
def nB {α:Type}:List (Nat×α)→Nat→Option α
  | [],_=>none
  | (d,x)::xs,e=>match Nat.beq d e with | true=>some x | false=>nB xs e
structure Wk where
  ts:List Nat
  ls:List Nat
  no:Nat
  pr:List (Nat×Nat)
  pl:List (Nat×Nat×Nat)
  fz:List Nat
def Bc (ts:List Nat):Nat→List AV→List AV
  | _,[]=>[]
  | i,x::xs=>(match c_ ts i with | true=>x | false=>.bad)::Bc ts (i + 1) xs
def uN:List Nat→St→St
  | [],S=>S
  | d::ds,S=>uN ds (c8 d S)
def Ad:Nat→Nat→List Nat
  | _,0=>[]
  | i,n + 1=>i::Ad (i + 1) n
def Ae:List Nat→St→St
  | [],S=>S
  | i::is,S=>Ae is (ct i S)
def uO:List Ob→Bool
  | []=>true
  | .dead::os=>uO os
  | _=>false
def B5 (n:Nat) (S:St):St :=
  match uO (S.o.drop n)&&Nat.ble S.b n with
  | true=>{ t:=S.t,l:=S.l,o:=S.o.take n,b:=S.b }
  | false=>S
def wi:List (Nat×Nat)→St→St
  | [],S=>S
  | (d,sz)::ps,S=>match S.t[d]? with
    | some .nilsl=>wi ps { t:=S.t.set d (.mf S.o.length),l:=S.l,o:=S.o++[.arr true sz []],b:=S.b }
    | _=>wi ps S
def tv:List (Nat×Nat×Nat)→St→St
  | [],S=>S
  | (d,j,sz)::ps,S=>match aJ S.l d with
    | some row=>match row[j]? with
      | some .nilsl=>tv ps { t:=S.t,l:=pL S.l d (row.set j (.mf S.o.length)),o:=S.o++[.arr true sz []],b:=S.b }
      | _=>tv ps S
    | none=>tv ps S
def zh:List Nat→St→St
  | [],S=>S
  | d::ds,S=>match S.t[d]? with
    | some a=>match xS S.o 6 a with
      | some b=>zh ds { t:=(iM (cH S.o 6 a) S).t.set d b,l:=(iM (cH S.o 6 a) S).l,o:=(iM (cH S.o 6 a) S).o,b:=(iM (cH S.o 6 a) S).b }
      | none=>zh ds S
    | none=>zh ds S
def DG (W:Wk) (S:St):St :=
  tv W.pl (wi W.pr (B5 W.no (Ae (Ad W.no (S.o.length - W.no)) (uN W.ls { t:=Bc W.ts 0 S.t,l:=S.l,o:=S.o,b:=S.b }))))
def wk (W:Wk) (S:St):St:=DG W (zh W.fz S)
def ko (a b:AV):Prop:=∀ E u,VR E a u→VR E b u
def kp (r r':List AV):Prop:=r.length=r'.length∧∀ (i:Nat) (a b:AV),r[i]?=some a→r'[i]?=some b→ko a b
def fK (r r':List (List AV)):Prop:=r.length=r'.length∧∀ (i:Nat) (a b:List AV),r[i]?=some a→r'[i]?=some b→kp a b
structure Le where
  ts:List (Nat×AV)
  ls:List (Nat×List AV)
  os:List (Nat×List (List AV))
def B6:List (Nat×AV)→St→(St→Prop)→Prop
  | [],S,K=>K S
  | (d,v)::xs,S,K=>l6 S.t d fun a=>ko a v∧nT S.t d v fun t=>B6 xs { t:=t,l:=S.l,o:=S.o,b:=S.b } K
def Bd:List (Nat×List AV)→St→(St→Prop)→Prop
  | [],S,K=>K S
  | (d,r)::xs,S,K=>match aJ S.l d with
    | some row=>kp row r∧ky (pL S.l d r) fun l=>Bd xs { t:=S.t,l:=l,o:=S.o,b:=S.b } K
    | none=>ae 450
def Be:List (Nat×List (List AV))→St→(St→Prop)→Prop
  | [],S,K=>K S
  | (i,R)::xs,S,K=>match S.o[i]? with
    | some (.arr fl sz rows)=>fK rows R∧aU (S.o.set i (.arr fl sz R)) fun o=>Be xs { t:=S.t,l:=S.l,o:=o,b:=S.b } K
    | _=>ae 451
def Af (L:Le) (S:St) (K:St→Prop):Prop:=B6 L.ts S fun S=>Bd L.ls S fun S=>Be L.os S K
structure sq where
  at_:Option Nat
  row:Option (List (List AV))
  ks:List AV
  cs:List (Option (List (List AV)))
structure cz where
  dem:List Nat
  chk:List Nat
  row:List (Nat×List AV)
  val:List (Nat×AV)
  call:List (Nat×AV)
  sto:List (Nat×(AV×List Ob))
  obr:List (Nat×(Nat×List (List AV)))
  mpr:List (Nat×List (AV×AV))
  own:List (Nat×sq)
inductive PT where
  | done
  | go (i:Nat) (t:PT)
  | alt (i:Nat) (t r:PT)
def oL:List Nat→PT
  | []=>.done
  | i::is=>.go i (oL is)
def xA:PT→PT→Bool
  | .done,.done=>true
  | .go i t,.go j u=>Nat.beq i j&&xA t u
  | .alt i t r,.alt j u s=>Nat.beq i j&&(xA t u&&xA r s)
  | _,_=>false
structure B7 where
  ord:List (Nat×PT)
  reg:List (Nat×cz)
  wr:List (Nat×Le)
  lps:List (Nat×(Wk×Le×Ex×St))
  cut:List (Nat×(Wk×Le×Ex×St))
def zi (A:B7) (id:Nat):cz :=
  match nB A.reg id with
  | some R=>R
  | none=>⟨[],[],[],[],[],[],[],[],[]⟩
def keyOf (o:Oper):Nat :=
  match o.dst with
  | some d=>d
  | none=>match o.op with
    | .store _ (.tmp t) _=>t + 1000000
    | .mapUpdate _ (.tmp t) _ _=>t + 1000000
    | .insert _ (.tmp t) _ _=>t + 1000000
    | _=>0
def AU (rows:List (List AV)) (i:Int):Option (List AV):=if 0≤i then rows[i.toNat]? else none
def Ag (op:BinOp) (x y:Value) (K:Value→Prop):Prop :=
  match op,x,y with
  | .quo,.int k a,.int k' b=>(decide (k=k')&&!(b==0))=true∧K (.int k (k.wrap (a.tdiv b)))
  | .rem,.int k a,.int k' b=>(decide (k=k')&&!(b==0))=true∧K (.int k (a.tmod b))
  | .shl,.int k a,.int _ b=>decide (0≤b)=true∧K (.int k (k.wrap (a * 2 ^ (min b.toNat k.bits))))
  | .shr,.int k a,.int _ b=>decide (0≤b)=true∧K (.int k (a.fdiv (2 ^ (min b.toNat k.bits))))
  | .add,.string a,.string b=>decide (((a.size + b.size:Nat):Int)≤9223372036854775807)=true∧K (.string (a++b))
  | _,_,_=>ae 20
def Ai (C:Ctx) (A:cz) (o:Oper) (op:BinOp) (t:TypeId) (x y:AV) (k:AV→Prop):Prop :=
  match x,y with
  | .v a,.v b=>match AZ op a b with
    | none=>match a,b with
      | .bool x,.bool y=>vh C.P op t x y k
      | a,b=>Ag op a b fun c=>k (.v c)
    | some c=>k (.v c)
  | .agg as,.agg bs=>match pM as,pM bs with
    | some xs,some ys=>match nB A.val (keyOf o) with
      | some (.v (.bool b))=>cJ C.P op t xs ys=some (.bool b)∧k (.v (.bool b))
      | _=>ae 400
    | _,_=>ae 401
  | _,_=>ae 402
def uP (C:Ctx) (A:cz) (o:Oper) (t:TypeId) (x ix:AV) (k:AV→Prop):Prop :=
  intOf ix fun i =>
  match C.P.underlying t,x with
  | some .string,.v (.string s)=>match nB A.val (keyOf o) with
    | some (.v (.int .u8 n))=>(if 0≤i then s[i.toNat]? else none)=some (UInt8.ofNat n.toNat)∧(n=((UInt8.ofNat n.toNat).toNat:Int)∧k (.v (.int .u8 n)))
    | _=>ae 403
  | some (.array len e),.agg cs=>match C.P.info? e with
    | some inf=>(decide (0≤i)&&decide (i<len))=true∧fq C.P e cs (i.toNat * inf.size) k
    | none=>ae 404
  | _,_=>ae 405
def B8 (C:Ctx) (A:cz) (pl:bk) (o:Oper) (vs:List AV) (k:AV→Prop):Prop :=
  match c_ A.chk (keyOf o) with
  | false=>pop C pl o vs k
  | true=>match o.op,vs with
    | .binOp op t _ _ _,[a,b]=>Ai C A o op t a b k
    | .index t _ _,[a,i]=>uP C A o t a i k
    | _,_=>ae 406
def tw (len cap:Nat) (lo hi mx:Option Int) (k:Nat→Nat→Nat→Prop):Prop :=
  match lo,hi,mx with
  | none,none,none=>k 0 len cap
  | some l,none,none=>(decide (0≤l)&&decide (l≤len))=true∧k l.toNat len cap
  | none,some h,none=>(decide (0≤h)&&decide (h≤cap))=true∧k 0 h.toNat cap
  | some l,some h,none=>(decide (0≤l)&&decide (l≤h)&&decide (h≤cap))=true∧k l.toNat h.toNat cap
  | none,some h,some m=>(decide (0≤h)&&decide (h≤m)&&decide (m≤cap))=true∧k 0 h.toNat m.toNat
  | some l,some h,some m=>(decide (0≤l)&&decide (l≤h)&&decide (h≤m)&&decide (m≤cap))=true∧k l.toNat h.toNat m.toNat
  | _,_,_=>ae 63
def iR (C:Ctx) (t:TypeId) (x:AV) (lo hi mx:Option Int) (S:St) (k:AV→Prop):Prop :=
  match C.P.underlying t with
  | some .string =>
    match x,mx with
    | .v (.string s),none=>tw s.size s.size lo hi none fun l h _=>k (.v (.string (s.extract l h)))
    | _,_=>ae 64
  | some (.slice e) =>
    match C.P.info? e with
    | some i=>bm (Nat.blt 0 i.size) (
      match x with
      | .sl rows=>eA i.size rows=true∧tw rows.length rows.length lo hi mx fun l h _ =>
        match lo,hi,fO mx&&fO hi with
        | _,_,true=>k .esl
        | none,none,_=>k (.sl rows)
        | _,none,_=>k (.sl (rows.drop l))
        | none,_,_=>k (.sl (rows.take h))
        | _,_,_=>k (.sl ((rows.drop l).take (h - l)))
      | .mf id=>match S.o[id]? with
        | some (.arr _ sz rows)=>bm (Nat.beq sz i.size) (tw rows.length rows.length lo hi mx fun l h m =>
          match lo,hi,fO mx&&fO hi with
          | _,_,true=>k .esl
          | none,none,_=>k (.mf id)
          | _,none,_=>k (.msl id l (rows.length - l) 0)
          | _,_,_=>k (.msl id l (h - l) (m - h)))
        | _=>ae 65
      | .msl id off len ext=>match S.o[id]? with
        | some (.arr _ sz _)=>bm (Nat.beq sz i.size) (tw len (len + ext) lo hi mx fun l h m =>
          match fO mx&&fO hi with
          | true=>k .esl
          | false=>k (.msl id (l + off) (h - l) (m - h)))
        | _=>ae 66
      | _=>ae 67)
    | none=>ae 68
  | _=>ae 69
def k4 (C:Ctx) (row:List AV) (t:TypeId) (x ix:AV) (S:St) (k:AV→Prop):Prop :=
  intOf ix fun i =>
  match C.P.underlying t with
  | some (.slice e) =>
    match C.P.info? e with
    | some inf =>
      match x with
      | .sl rows=>AU rows i=some row∧bm (Nat.beq row.length inf.size&&Nat.blt 0 inf.size) (k (.fptr row 0))
      | .mf id=>match S.o[id]? with
        | some (.arr _ _ rows)=>AU rows i=some row∧bm (Nat.beq row.length inf.size&&Nat.blt 0 inf.size) (k (.ptr (.O id) i.toNat 0))
        | some (.own none _ cells _)=>bm (Nat.beq inf.size 1) ((decide (0≤i)&&Nat.blt i.toNat cells.length)=true∧k (.ptr (.O id) i.toNat 0))
        | _=>ae 72
      | .msl id off len _=>match S.o[id]? with
        | some (.arr _ _ rows)=>(decide (0≤i)&&decide (i<len))=true∧(rows[i.toNat + off]?=some row∧bm (Nat.beq row.length inf.size&&Nat.blt 0 inf.size) (k (.ptr (.O id) (i.toNat + off) 0)))
        | _=>ae 74
      | _=>ae 75
    | none=>ae 76
  | some (.array len e) =>
    match C.P.info? e with
    | some inf=>(decide (0≤i)&&decide (i<len))=true∧(
      match x with
      | .ptr key a j=>k (.ptr key a (i.toNat * inf.size + j))
      | .fptr row j=>k (.fptr row (i.toNat * inf.size + j))
      | _=>ae 77)
    | none=>ae 78
  | _=>ae 79
def qb (C:Ctx) (A:cz) (o:Oper) (fid:Nat) (as:List AV) (k:AV→Prop):Prop :=
  match nB A.call (keyOf o) with
  | some r=>(C.pcall fid as fun x=>x=r)∧k r
  | none=>C.pcall fid as k
def xB (P:Program) (op:BinOp) (t:TypeId) (x y:AV) (S:St) (k:AV→Prop):Prop :=
  match x,y with
  | .mf id,.nilsl=>match S.o[id]? with
    | some (.arr _ _ rows)=>fN rows=true∧(match P.underlying t,op with
      | some (.slice _),.eql=>k (.v (.bool false))
      | some (.slice _),.neq=>k (.v (.bool true))
      | _,_=>ae 265)
    | _=>ae 472
  | _,_=>ae 473
def B9 (C:Ctx) (A:cz) (o:Oper) (vs:List AV) (M:St) (k:AV→Prop):Prop :=
  match o.op,vs with
  | .load t _,[p]=>match nB A.row (keyOf o) with
    | some row=>match p with
      | .ptr (.O id) i j=>match M.o[id]? with
        | some (.arr _ _ rows)=>rows[i]?=some row∧fq C.P t row j k
        | _=>ae 410
      | _=>ae 411
    | none=>l8 C o vs M k
  | .slice t _ lo hi mx,a::rest=>match c_ A.chk (keyOf o) with
    | false=>l8 C o vs M k
    | true=>match lo,hi,mx,rest with
      | none,none,none,[]=>iR C t a none none none M k
      | some _,none,none,[x]=>intOf x fun x=>iR C t a (some x) none none M k
      | none,some _,none,[y]=>intOf y fun y=>iR C t a none (some y) none M k
      | some _,some _,none,[x,y]=>intOf x fun x=>intOf y fun y=>iR C t a (some x) (some y) none M k
      | none,some _,some _,[y,z]=>intOf y fun y=>intOf z fun z=>iR C t a none (some y) (some z) M k
      | some _,some _,some _,[x,y,z]=>intOf x fun x=>intOf y fun y=>intOf z fun z=>iR C t a (some x) (some y) (some z) M k
      | _,_,_,_=>ae 202
  | .indexAddr t _ _,[a,i]=>match nB A.row (keyOf o) with
    | some row=>k4 C row t a i M k
    | none=>l8 C o vs M k
  | .lookup t _ _ ok,[m,key]=>match nB A.call (keyOf o) with
    | some a=>match C.P.underlying t,m with
      | some (.map kt e),.mp id=>match M.o[id]? with
        | some (.mapo _ es)=>(∀ k':AV→Prop,k' a→iI C.P kt key es fun _ r=>lh C.P e ok es r k')∧k a
        | _=>ae 412
      | _,_=>ae 413
    | none=>l8 C o vs M k
  | .binOp op t _ _ _,[a,b]=>match c_ A.chk (keyOf o) with
    | false=>l8 C o vs M k
    | true=>xB C.P op t a b M k
  | .call c,vs=>match c.callee with
    | .value _=>match vs with
      | .fn fid first cap::as=>bm (C.pure fid) (fP M.o (first++as++cap) fun bs=>qb C A o fid bs fun r=>bm (ql 4 r||((first++as++cap).flatMap (cH M.o 6)).isEmpty) (k r))
      | _=>ae 205
    | _=>l8 C o vs M k
  | _,_=>l8 C o vs M k
def uQ (S:St) (row:List AV) (a:AV) (cs:List AV) (K:St→Prop):Prop :=
  match a with
  | .ptr (.O id) i j =>
    match S.o[id]? with
    | some (.arr fl sz rows)=>rows[i]?=some row∧bm (Nat.ble (j + cs.length) row.length&&cs.all (p1 4)) (fo (splice row j cs) fun row'=>aU (S.o.set id (.arr (fl&&cs.all (cm 4)) sz (rows.set i row'))) fun o=>K { t:=S.t,l:=S.l,o:=o,b:=S.b })
    | _=>ae 18
  | _=>ae 19
def Bf (C:Ctx) (A:cz) (o:Oper) (vs:List AV) (M:St) (k:AV→St→Prop):Prop :=
  match nB A.row (keyOf o) with
  | none=>sL C o vs M k
  | some row=>match o.op,vs with
    | .store t _ _,[p,y]=>match p with
      | .ptr (.O _) _ _=>jC y fun cs=>match C.P.info? t with
        | some i=>bm (Nat.beq cs.length i.size) (uQ M row p cs fun M'=>k .bad M')
        | none=>ae 208
      | _=>sL C o vs M k
    | _,_=>sL C o vs M k
def rB (size:Nat) (S:St) (x:AV) (k:Bool→List (List AV)→Prop):Prop :=
  match x with
  | .nilsl | .esl=>k true []
  | .sl rows=>eA size rows=true∧k true rows
  | .mf id=>match S.o[id]? with | some (.arr fl sz rows)=>bm (Nat.beq sz size) (k fl rows) | _=>ae 45
  | .msl id off len _=>match S.o[id]? with | some (.arr fl sz rows)=>bm (Nat.beq sz size) (k fl ((rows.drop off).take len)) | _=>ae 46
  | .v (.string s)=>bm (Nat.beq size 1) (k true (s.data.toList.map fun b=>[.v (.int .u8 b.toNat)]))
  | _=>ae 47
def rC (P:Program) (ts:List TypeId) (base x:AV) (S:St) (k:St→AV→Prop):Prop :=
  match ts with
  | [t0,t1] =>
    match P.underlying t0 with
    | some (.slice e) =>
      match P.info? e with
      | some i=>bm (Nat.blt 0 i.size&&Nat.blt 0 i.bytes&&Bu i&&(match P.underlying t1 with | some (.slice _) | some .string=>true | _=>false)) (rB i.size S x fun fl src=>bd src=true∧(
          match base with
          | .nilsl | .esl=>Nat.ble (src.length * i.bytes) 140737488355328=true∧(aU (S.o++[.arr fl i.size src]) fun o=>k { t:=S.t,l:=S.l,o:=o,b:=S.b } (.mf S.o.length))
          | .mf id=>match S.o[id]? with
            | some (.arr fl' sz rows)=>bm (Nat.beq sz i.size&&(fl||!fl')) (Nat.ble ((rows.length + src.length) * i.bytes) 140737488355328=true∧lI S id (.arr (fl'&&fl) sz (rows++src)) fun S' id'=>k S' (.mf id'))
            | _=>ae 48
          | .msl id off len ext=>match S.o[id]? with
            | some (.arr fl' sz rows)=>bm (Nat.beq sz i.size&&(fl||!fl')) (Nat.ble src.length ext=true∧(Nat.ble (off + len + ext) rows.length=true ∧
                aU (S.o.set id (.arr (fl'&&fl) sz (rows.take (off + len)++(src++rows.drop (off + len + src.length))))) fun o=>k { t:=S.t,l:=S.l,o:=o,b:=S.b } (.msl id off (len + src.length) (ext - src.length))))
            | _=>ae 49
          | _=>ae 50))
      | none=>ae 51
    | _=>ae 52
  | _=>ae 53
def oM (P:Program) (ts:List TypeId) (base x:AV) (k:AV→Prop):Prop :=
  match ts with
  | [t0,t1] =>
    match P.underlying t0 with
    | some (.slice e) =>
      match P.info? e with
      | some i=>bm (Nat.blt 0 i.size&&Nat.blt 0 i.bytes&&Bu i&&(match P.underlying t1 with | some (.slice _) | some .string=>true | _=>false)) (rB i.size Dq x fun fl src=>bm fl (bd src=true∧(Nat.ble (src.length * i.bytes) 140737488355328=true∧(
          match base with
          | .nilsl | .esl=>k (.sl src)
          | _=>ae 254))))
      | none=>ae 255
    | _=>ae 256
  | _=>ae 257
def B_ (C:Ctx) (o:Oper) (vs:List AV) (k:AV→Prop):Prop :=
  match o.op,vs with
  | .call c,[x,y]=>match c.callee with
    | .builtin .append=>oM C.P c.argTypes.toList x y k
    | _=>ae 258
  | _,_=>ae 259
def oN (P:Program) (ts:List TypeId) (base:AV) (n:Int) (S:St) (k:St→AV→Prop):Prop :=
  match ts with
  | [t0,t1] =>
    match P.underlying t0,P.underlying t1 with
    | some (.slice e),some (.int _) =>
      match P.info? e with
      | some i=>(Nat.blt 0 i.size&&Nat.blt 0 i.bytes&&decide (0<n)&&decide (n * i.bytes≤140737488355328)&&decide (n≤140737488355328))=true∧(b0 P e fun z=>bm (z.all (cm 2)) (
          match base with
          | .nilsl | .esl=>aU (S.o++[.arr true i.size (List.replicate n.toNat z)]) fun o=>k { t:=S.t,l:=S.l,o:=o,b:=S.b } (.mf S.o.length)
          | _=>ae 250))
      | none=>ae 251
    | _,_=>ae 252
  | _=>ae 253
def iS (P:Program) (t:TypeId) (l c:AV) (S:St) (k:St→AV→Prop):Prop :=
  match P.underlying t with
  | some (.slice e) =>
    match P.info? e with
    | some i=>intOf l fun l=>intOf c fun c=>(decide (0≤l)&&decide (l≤c)&&decide (i.bytes * c≤140737488355328)&&decide (c≤140737488355328)&&Nat.blt 0 i.size)=true ∧
        (b0 P e fun z=>bm (z.all (cm 2)) (aU (S.o++[.arr true i.size (List.replicate l.toNat z)]) fun o=>k { t:=S.t,l:=S.l,o:=o,b:=S.b } (.mf S.o.length)))
    | none=>ae 61
  | _=>ae 62
def xC (P:Program) (ts:List TypeId) (x y:AV) (M:St) (k:AV→St→Prop):Prop :=
  match ts with
  | t::_ =>
    match P.underlying t with
    | some (.slice e) =>
      match P.info? e with
      | some i=>bm (Nat.blt 0 i.size) (rB i.size M y fun fl src=>bd src=true∧bm (!(CV y)) (
          match x with
          | .mf id=>match M.o[id]? with
            | some (.arr fl' sz rows)=>bm (Nat.beq sz i.size) (aU (M.o.set id (.arr (fl'&&fl) sz (src.take rows.length++rows.drop src.length))) fun o=>k (.v (.int .i64 ((min src.length rows.length:Nat):Int))) { t:=M.t,l:=M.l,o:=o,b:=M.b })
            | _=>ae 243
          | .msl id off len _=>match M.o[id]? with
            | some (.arr fl' sz rows)=>bm (Nat.beq sz i.size) (Nat.ble (off + len) rows.length=true∧(aU (M.o.set id (.arr (fl'&&fl) sz (rows.take off++(src.take len++rows.drop (off + min src.length len))))) fun o=>k (.v (.int .i64 ((min src.length len:Nat):Int))) { t:=M.t,l:=M.l,o:=o,b:=M.b }))
            | _=>ae 244
          | _=>ae 245))
      | none=>ae 246
    | _=>ae 247
  | []=>ae 248
def xD (C:Ctx) (A:cz) (o:Oper) (f:AV) (args:List AV) (S:St) (k:St→AV→Prop):Prop :=
  match f with
  | .fn fid first cap =>
    match C.pure fid with
    | true=>fP S.o (first++args++cap) fun as=>qb C A o fid as fun r =>
        match ql 4 r with
        | true=>k S r
        | false=>ed ((first++args++cap).flatMap (cH S.o 6)) S fun S'=>k S' r
    | false=>bm ((first++args++cap).all (p1 4)) (match nB A.sto (keyOf o) with
      | some (r,o')=>(C.scall fid (first++args++cap) S.o fun r' o''=>r'=r∧o''=o')∧gE (br S.o o' 0) S.t S.l fun t l=>k { t:=t,l:=l,o:=o',b:=S.b } r
      | none=>C.scall fid (first++args++cap) S.o fun r o'=>gE (br S.o o' 0) S.t S.l fun t l=>k { t:=t,l:=l,o:=o',b:=S.b } r)
  | _=>ae 97
def iT (P:Program) (R:List (AV×AV)) (t:TypeId) (m key x:AV) (S:St) (K:St→Prop):Prop :=
  match P.underlying t with
  | some (.map kt _) =>
    match m with
    | .mp id=>match S.o[id]? with
      | some (.mapo fl es)=>bm (p1 4 x) ((∀ K':List (AV×AV)→Prop,K' R→iI P kt key es fun kv r=>bm (yC P kt kv) (
          match r with
          | some i=>bm (Instr.sameBits 10000 ((es[i]?.bind fun e=>wN e.1).getD (.bool false)) kv) (K' (es.set i (key,x)))
          | none=>K' (es++[(key,x)])))∧aU (S.o.set id (.mapo (fl&&cm 4 x) R)) fun o=>K { t:=S.t,l:=S.l,o:=o,b:=S.b })
      | _=>ae 106
    | _=>ae 107
  | _=>ae 108
def Bg (C:Ctx) (A:cz) (pl:bk) (o:Oper) (S:St) (K:St→Prop):Prop :=
  match o.op with
  | .mapUpdate t m key x=>match nB A.mpr (keyOf o) with
    | some R=>b7 S m fun m=>b7 S key fun key=>b7 S x fun x=>iT C.P R t m key x S fun S'=>bg o.dst .bad S' K
    | none=>rW C pl o S K
  | .insert t m key x=>match nB A.mpr (keyOf o) with
    | some R=>b7 S m fun m=>b7 S key fun key=>b7 S x fun x=>iT C.P R t m key x S fun S'=>bg o.dst .bad S' K
    | none=>rW C pl o S K
  | .makeSlice t l c=>match c_ A.chk (keyOf o) with
    | true=>b7 S l fun l=>b7 S c fun c=>iS C.P t l c S fun S' a=>bg o.dst a S' K
    | false=>rW C pl o S K
  | .call c=>match c.callee with
    | .builtin .append=>match c_ A.chk (keyOf o) with
      | true=>cu S c.args.toList fun as=>match as with
        | [x,.v (.int _ n)]=>oN C.P c.argTypes.toList x n S fun S' r=>bg o.dst r S' K
        | [x,y]=>rC C.P c.argTypes.toList x y S fun S' r=>bg o.dst r S' K
        | _=>ae 210
      | false=>rW C pl o S K
    | .builtin .copy=>cu S c.args.toList fun as=>match as with
        | [x,y]=>xC C.P c.argTypes.toList x y S fun r S'=>bg o.dst r S' K
        | _=>ae 249
    | .value f=>b7 S f fun fv=>cu S c.args.toList fun as=>xD C A o fv as S fun S' r=>bg o.dst r S' K
    | _=>rW C pl o S K
  | _=>rW C pl o S K
def Bz (A:cz) (dst:Option Tmp) (S:St) (K:St→Prop):Prop :=
  match dst with
  | none=>K S
  | some d=>match nB A.val d with
    | none=>K S
    | some v=>l6 S.t d fun a=>a=v∧nT S.t d v fun t=>K { t:=t,l:=S.l,o:=S.o,b:=S.b }
def Aj (A:cz) (key:Nat) (S:St) (K:St→Prop):Prop :=
  match nB A.obr key with
  | none=>K S
  | some (id,R)=>match S.o[id]? with
    | some (.arr fl sz rows)=>rows=R∧aU (S.o.set id (.arr fl sz R)) fun o=>K { t:=S.t,l:=S.l,o:=o,b:=S.b }
    | _=>ae 430
def Ak (C:Ctx) (A:cz) (pl:bk) (o:Oper) (S:St) (K:St→Prop):Prop :=
  cu S o.op.operands.toList fun vs=>B8 C A pl o vs fun r=>bg o.dst r S K
def Al (C:Ctx) (A:cz) (o:Oper) (S:St) (K:St→Prop):Prop :=
  cu S o.op.operands.toList fun vs=>B9 C A o vs (b9 S) fun r=>bg o.dst r S K
def BA (C:Ctx) (A:cz) (o:Oper) (S:St) (K:St→Prop):Prop :=
  cu S o.op.operands.toList fun vs=>Bf C A o vs (b9 S) fun r M=>bg o.dst r (dI S M) K
def lu (row:Option (List (List AV))) (M:St) (id i:Nat) (k:AV→St→Prop):Prop :=
  match M.o[id]? with
  | some (.own ks sz cells none)=>match row with
    | none=>cells[i]?=some none∧k .nilsl M
    | some rows=>cells[i]?=some (some rows)∧aU (M.o.set id (.own ks sz cells (some (i,.mf M.o.length)))++[.arr true sz rows]) fun o=>k (.mf M.o.length) { t:=M.t,l:=M.l,o:=o,b:=M.b }
  | _=>ae 323
def oO (P:Program) (a:sq) (t:TypeId) (same:Bool) (M:St) (id i:Nat) (k:AV→St→Prop):Prop :=
  match same with
  | true=>match M.o[id]? with
    | some (.own none _ cells (some (j,a)))=>(Nat.beq i j&&Nat.blt j cells.length)=true∧fq P t [a] 0 fun r=>k r M
    | _=>ae 324
  | false=>lu a.row M id i fun a M'=>fq P t [a] 0 fun r=>k r M'
def mH (P:Program) (t:TypeId) (M:St) (id i:Nat) (v:AV) (K:St→Prop):Prop :=
  match P.info? t,M.o[id]? with
  | some inf,some (.own none sz cells hole)=>bm (nX v&&Nat.beq inf.size 1) ((Nat.blt i cells.length&&fw hole i)=true∧(aU (M.o.set id (.own none sz cells (some (i,v)))) fun o=>K { t:=M.t,l:=M.l,o:=o,b:=M.b }))
  | _,_=>ae 325
def oP (P:Program) (j:Nat) (a:sq) (t:TypeId) (l c:AV) (M:St) (k:AV→St→Prop):Prop :=
  match P.underlying t with
  | some (.slice e) =>
    match P.info? e,P.underlying e with
    | some i,some (.slice e2)=>match P.info? e2 with
      | some i2=>intOf l fun l=>intOf c fun c=>(decide (0≤l)&&decide (l≤c)&&decide (i.bytes * c≤140737488355328)&&decide (c≤140737488355328)&&Nat.blt 0 i.size)=true∧bm (Nat.beq i.size 1&&Nat.blt 0 i2.size)
          (b0 P e fun z=>match z with
            | [.nilsl]=>List.replicate l.toNat none=a.cs∧l9 j M.o M.b (.own none i2.size a.cs none) fun o=>k (.mf j) { t:=M.t,l:=M.l,o:=o,b:=M.b }
            | _=>ae 325)
      | none=>ae 326
    | _,_=>ae 61
  | _=>ae 62
def oQ (P:Program) (a:sq) (t:TypeId) (m key:AV) (ok:Bool) (M:St) (k:AV→St→Prop):Prop :=
  match P.underlying t with
  | some (.map kt e)=>match m with
    | .mp id=>match M.o[id]? with
      | some (.own (some ks) _ _ none)=>match a.at_ with
        | some i=>(∀ K':Option Nat→Prop,K' (some i)→iI P kt key (iJ ks) fun _ r=>K' r)∧lu a.row M id i fun a M'=>kB ok a true fun r=>k r M'
        | none=>(∀ K':Option Nat→Prop,K' none→iI P kt key (iJ ks) fun _ r=>K' r)∧gF P e ok fun r=>k r M
      | _=>ae 333
    | _=>ae 334
  | _=>ae 335
def C0 (M:St) (id sz:Nat) (cells:List (Option (List (List AV)))) (hole:Option (Nat×AV)) (x:AV) (K:St→Prop) (r:Option Nat) (ks:List AV):Prop :=
  match r with
  | some i=>fw hole i=true∧(aU (M.o.set id (.own (some ks) sz cells (some (i,x)))) fun o=>K { t:=M.t,l:=M.l,o:=o,b:=M.b })
  | none=>match hole with
    | none=>aU (M.o.set id (.own (some ks) sz (cells++[none]) (some (cells.length,x)))) fun o=>K { t:=M.t,l:=M.l,o:=o,b:=M.b }
    | some _=>ae 339
def nC (P:Program) (a:sq) (t:TypeId) (m key x:AV) (M:St) (K:St→Prop):Prop :=
  match P.underlying t with
  | some (.map kt _)=>match m with
    | .mp id=>match M.o[id]? with
      | some (.own (some ks) sz cells hole)=>bm (nX x) ((∀ K':Option Nat→List AV→Prop,K' a.at_ a.ks→iI P kt key (iJ ks) fun kv r=>bm (yC P kt kv) (match r with
          | some i=>bm (Instr.sameBits 10000 ((ks[i]?.bind wN).getD (.bool false)) kv) (K' (some i) (ks.set i key))
          | none=>K' none (ks++[key])))∧C0 M id sz cells hole x K a.at_ a.ks)
      | _=>ae 340
    | _=>ae 341
  | _=>ae 342
def yc (P:Program) (A:cz) (pl:bk) (o:Oper) (vs:List AV) (M:St) (k:AV→St→Prop):Prop :=
  match nB A.own (keyOf o) with
  | none=>iE P pl o vs M k
  | some a=>match o.op,vs with
    | .load t _,[p]=>fU M p fun id i=>oO P a t (xT pl o) M id i k
    | .store t _ _,[p,v]=>fU M p fun id i=>mH P t M id i v fun M'=>k .bad M'
    | .makeSlice t _ _,[l,c]=>oP P (xU pl.ix o.dst M.o.length) a t l c M k
    | .lookup t _ _ ok,[m,key]=>oQ P a t m key ok M k
    | .mapUpdate t _ _ _,[m,key,x]=>nC P a t m key x M fun M'=>k .bad M'
    | .insert t _ _ _,[m,key,x]=>nC P a t m key x M fun M'=>k .bad M'
    | _,_=>ae 343
def lv (A:cz) (S:St) (id:Nat) (K:St→Prop):Prop :=
  match nB A.own (id + 2000000) with
  | none=>ft S id K
  | some a=>match S.o[id]? with
    | some (.own ks sz cells (some (j,.mf k)))=>match S.o[k]? with
      | some (.arr true sz' rows)=>bm (Nat.beq sz' sz) (Nat.blt j cells.length=true∧(cells.set j (some rows)=a.cs∧ed [k] S fun S1=>aU (S1.o.set id (.own ks sz a.cs none)) fun o=>K { t:=S1.t,l:=S1.l,o:=o,b:=S1.b }))
      | _=>ae 320
    | some (.own ks sz cells (some (j,.nilsl)))=>Nat.blt j cells.length=true∧(cells.set j none=a.cs∧(aU (S.o.set id (.own ks sz a.cs none)) fun o=>K { t:=S.t,l:=S.l,o:=o,b:=S.b }))
    | _=>ae 321
def rD (A:cz):List Nat→St→(St→Prop)→Prop
  | [],S,K=>K S
  | id::ids,S,K=>lv A S id fun S'=>rD A ids S' K
def nD (A:cz) (S:St) (id:Nat) (K:St→Prop):Prop :=
  match nB A.mpr (id + 2000000) with
  | none=>gQ S id K
  | some R=>match S.o[id]? with
    | some (.own (some ks) _ cells none)=>kC ks cells=R∧(aU (S.o.set id (.mapo true R)) fun o=>K { t:=S.t,l:=S.l,o:=o,b:=S.b })
    | _=>ae 344
def oR (A:cz):List Nat→St→(St→Prop)→Prop
  | [],S,K=>K S
  | id::ids,S,K=>nD A S id fun S'=>oR A ids S' K
def rE (A:cz) (pl:bk) (id:Nat) (S:St) (K:St→Prop):Prop :=
  match c_ pl.cl id with
  | false=>K S
  | true=>rD A (wQ S.o.length) S fun S1=>match c_ pl.fr id with
    | false=>K S1
    | true=>oR A (wQ S1.o.length) S1 K
def xE (C:Ctx) (A:cz) (o:Oper) (vs:List AV) (M:St) (k:AV→St→Prop):Prop :=
  match o.op,vs with
  | .makeSlice t _ _,[l,c]=>match c_ A.chk (keyOf o) with
    | true=>iS C.P t l c M fun M' r=>k r M'
    | false=>iK C o vs M k
  | .call c,.fn fid first cap::as=>match c.callee with
    | .value _=>bm (!(C.pure fid)&&(first++as++cap).all (p1 4)) (match nB A.sto (keyOf o) with
      | some (r,o')=>(C.scall fid (first++as++cap) M.o fun r' o''=>r'=r∧o''=o')∧bm (br M.o o' 0).isEmpty (k r { t:=M.t,l:=M.l,o:=o',b:=M.b })
      | none=>C.scall fid (first++as++cap) M.o fun r o'=>bm (br M.o o' 0).isEmpty (k r { t:=M.t,l:=M.l,o:=o',b:=M.b }))
    | _=>ae 310
  | _,_=>Bf C A o vs M k
def Am (C:Ctx) (A:cz) (pl:bk) (o:Oper) (vs:List AV) (M:St) (k:AV→St→Prop):Prop :=
  match d3 pl o with
  | true=>yc C.P A pl o vs M k
  | false=>xE C A o vs M k
def BB (C:Ctx) (A:cz) (pl:bk) (o:Oper) (S:St) (K:St→Prop):Prop :=
  cu S o.op.operands.toList fun vs=>yc C.P A pl o vs (b9 S) fun r M=>bg o.dst r (dI S M) K
def An (C:Ctx) (A:cz) (pl:bk) (o:Oper) (S:St) (K:St→Prop):Prop :=
  cu S o.op.operands.toList fun vs=>Am C A pl o vs (b9 S) fun r M=>bg o.dst r (dI S M) K
def BC (C:Ctx) (o:Oper) (S:St) (K:St→Prop):Prop :=
  cu S o.op.operands.toList fun vs=>B_ C o vs fun r=>bg o.dst r S K
def km (A:cz) (o:Oper) (K:St→Prop) (S:St):Prop:=Bz A o.dst S fun S'=>Aj A (keyOf o) S' K
def Ca (C:Ctx) (A:cz) (pl:bk) (o:Oper) (S:St) (K:St→Prop):Prop :=
  match zM o with
  | 0=>Ak C A pl o S (km A o K)
  | 1=>Al C A o S (km A o K)
  | 2=>BA C A o S (km A o K)
  | _=>Bg C A pl o S (km A o K)
def BD (C:Ctx) (A:cz) (pl:bk) (o:Oper) (S:St) (K:St→Prop):Prop :=
  match d3 pl o with
  | true=>BB C A pl o S (km A o K)
  | false=>Ca C A pl o S K
def wj (C:Ctx) (A:cz) (pl:bk) (o:Oper) (S:St) (K:St→Prop):Prop :=
  match dQ pl o with
  | 0=>Ak C A pl o S (km A o K)
  | 1=>Al C A o S (km A o K)
  | 2=>An C A pl o S (km A o K)
  | 4=>match o.dst with
    | some d=>bg o.dst (.ptr (.L d) 0 0) S K
    | none=>ae 217
  | 5=>BC C o S (km A o K)
  | _=>match vj pl o with
    | true=>ae 219
    | false=>Bg C A pl o S (km A o K)
def Cb (op:BinOp):Bool :=
  match op with
  | .eql | .neq=>true
  | _=>false
def tz (op:BinOp):Bool :=
  match op with
  | .eql=>true
  | _=>false
def BE (P:Program) (o:Oper) (S:St) (K:St→Prop):Prop :=
  match o.op with
  | .binOp op t x (.const (.slice none 0 0)) _=>match P.underlying t with
    | some (.slice _)=>b7 S x fun a=>match a with
      | .sl rows=>bm (Cb op) ((rows=[]→bg o.dst (.v (.bool (tz op))) S K)∧bg o.dst (.v (.bool (!(tz op)))) S K)
      | _=>ae 460
    | _=>ae 461
  | _=>ae 462
def uR (C:Ctx) (A:cz) (pl:bk) (all:Array Oper):List Oper→St→(St→Prop)→Prop
  | [],S,K=>K S
  | o::rest,S,K =>
    match o.guard with
    | none=>match c_ A.dem (keyOf o) with
      | true=>BE C.P o S fun S'=>uR C A pl all rest S' K
      | false=>BD C A pl o S fun S'=>uR C A pl all rest S' K
    | some (j,want) =>
      match m3 all j with
      | none=>ae 218
      | some d=>eg d S fun b S1=>gsel b want (BD C A pl o S1 fun S'=>uR C A pl all rest S' K) (bg o.dst (.tup []) S1 fun S'=>uR C A pl all rest S' K)
def DI (C:Ctx) (A:cz) (pl:bk) (all:Array Oper) (o:Oper) (S:St) (K:St→Prop):Prop :=
  match o.guard with
  | none=>bm (fV pl all o S) (wj C A pl o S K)
  | some (j,want) =>
    match m3 all j with
    | none=>ae 218
    | some d=>eg d S fun b S1=>gsel b want (bm (fV pl all o S1) (wj C A pl o S1 K)) (bg o.dst (.tup []) S1 K)
def CM (C:Ctx) (A:cz) (pl:bk) (ai:Array Oper) (i:Nat) (S:St) (K:St→Prop):Prop :=
  match ai[i]? with
  | none=>ae 303
  | some o=>DI C A pl ai o S K
def oT (C:Ctx) (A:cz) (pl:bk) (ai:Array Oper):PT→Option (St×Prop)→St→(St→Prop)→Prop
  | .done,m,S,K=>match m with
    | none=>K S
    | some (_,X)=>X
  | .go i t,m,S,K=>match m with
    | none=>CM C A pl ai i S fun S'=>oT C A pl ai t none S' K
    | some (_,_)=>ae 305
  | .alt i t r,m,S,K=>match m with
    | none=>CM C A pl ai i S fun S'=>oT C A pl ai t none S' fun S1=>oT C A pl ai r (some (S1,K S1)) S K
    | some (S1,X)=>CM C A pl ai i S fun S'=>oT C A pl ai t none S' fun S2=>S2=S1∧oT C A pl ai r (some (S1,X)) S K
def lV (f:Nat→Option PT):List Nat→Option PT
  | []=>some .done
  | i::is=>match f i with
    | some t=>match lV f is with
      | some r=>some (.alt i t r)
      | none=>none
    | none=>none
def Eh:List Nat→Bool
  | [_,_] | [_,_,_] | [_,_,_,_]=>true
  | _=>false
def gM (pl:bk) (ai:Array Oper) (ws:List Nat):Nat→Nat→Array Bool→Option PT
  | 0,_,listed=>match Region.ready .any ai listed with
    | []=>some .done
    | _::_=>none
  | n + 1,a,listed =>
    match Region.ready .any ai listed with
    | []=>some .done
    | r::rs=>match kE pl ai ws listed (r::rs) with
      | some k=>match gM pl ai ws n a (listed.setIfInBounds k true) with | some t=>some (.go k t) | none=>none
      | none=>match rs with
        | []=>match gM pl ai ws n a (listed.setIfInBounds r true) with | some t=>some (.go r t) | none=>none
        | _::_=>match Eh (r::rs),a with
          | true,a + 1=>lV (fun i=>gM pl ai ws n a (listed.setIfInBounds i true)) (r::rs)
          | _,_=>none
def tA (pl:bk) (ai:Array Oper) (ws:List Nat):Nat→Array Bool→Option PT
  | 0,listed=>gM pl ai ws 0 6 listed
  | n + 1,listed=>match kF ai listed (Region.ready .any ai listed) with
    | some i=>match tA pl ai ws n (listed.setIfInBounds i true) with | some t=>some (.go i t) | none=>none
    | none=>gM pl ai ws (n + 1) 6 listed
def rF (pl:bk) (ai:Array Oper):Option PT :=
  match Dr ai with
  | false=>none
  | true=>match pl.cl with
    | []=>gM pl ai (bu ai.toList []) ai.size 3 (Array.replicate ai.size false)
    | _::_=>tA pl ai (bu ai.toList []) ai.size (Array.replicate ai.size false)
def iq (pl:bk) (ord:List (Nat×PT)):Code→Bool
  | .region id ai true=>match nB ord id,rF pl ai with
    | some is,some js=>xA is js
    | _,_=>false
  | .seq a b=>iq pl ord a&&iq pl ord b
  | .cond _ a b=>iq pl ord a&&iq pl ord b
  | .block _ c=>iq pl ord c
  | .loop c=>iq pl ord c
  | _=>true
def lW:Code→Nat
  | .region id _ _=>id
  | .seq a _=>lW a
  | .cond _ a _=>lW a
  | .block _ c=>lW c
  | .loop c=>lW c
  | _=>0
def zj (A:B7) (id:Nat) (S:St) (K:St→Prop):Prop :=
  match nB A.wr id with
  | some L=>Af L S K
  | none=>K S
def Bh:Type:=Code→St→(Ex→St→Prop)→Prop
def rG (C:Ctx) (cd:Bh) (A:B7) (pl:bk):Code→St→(Ex→St→Prop)→Prop
  | .skip,S,K=>K .nrm S
  | .region id ai draw,S,K =>
    match draw with
    | false=>uR C (zi A id) pl ai ai.toList S fun S'=>rE (zi A id) pl id S' fun S''=>zj A id S'' (K .nrm)
    | true=>match nB A.ord id with
      | some is=>bm (o7 pl ai) (rY C.P (bN ai.toList) S fun S1=>oT C (zi A id) pl ai is none S1 fun S'=>hJ (bN ai.toList) S' (rE (zi A id) pl id S' fun S''=>zj A id S'' (K .nrm)))
      | none=>ae 440
  | .seq a b,S,K=>rG C cd A pl a S fun e S'=>match e with
    | .nrm=>match nB A.cut (lW b) with
      | some (W,L,e1,S1)=>Af L (wk W S') fun S2=>cd b S2 (fun e' S3=>e'=e1∧S3=S1)∧K e1 S1
      | none=>rG C cd A pl b S' K
    | .ex i=>K (.ex i) S'
    | .ret=>K .ret S'
  | .cond c x y,S,K=>kx c S fun b S'=>match b with
    | true=>rG C cd A pl x S' K
    | false=>rG C cd A pl y S' K
  | .block id c,S,K=>rG C cd A pl c S fun e S'=>match e with
    | .ex i=>match Nat.beq i id with | true=>K .nrm S' | false=>K (.ex i) S'
    | .nrm=>K .nrm S'
    | .ret=>K .ret S'
  | .loop c,S,K=>match nB A.lps (lW c) with
    | some (W,L,e,S1)=>Af L (wk W S) fun S2=>(C.loop pl c S2 fun e' S'=>e'=e∧S'=S1)∧K e S1
    | none=>C.loop pl c S K
  | .exit id,S,K=>K (.ex id) S
  | .ret,S,K=>K .ret S
  | _,_,_=>ae 119
def sub:Code→List Nat→Code
  | c,[]=>c
  | .seq a _,0::p=>sub a p
  | .seq _ b,_::p=>sub b p
  | .cond _ a _,0::p=>sub a p
  | .cond _ _ b,_::p=>sub b p
  | .block _ c,_::p=>sub c p
  | .loop c,_::p=>sub c p
  | c,_=>c
def dk (P:Program) (f:Nat):Code :=
  match P.funcs[f]? with
  | some fn=>fn.body.getD .skip
  | none=>.skip
def cL (S S':St):Prop:=∀ (G:Gh) (E:Env) (a:Act) (w:World),af G pn E S w→TR E S.t a→∃ E',af G pn E' S' w∧TR E' S'.t a
def Cc:Ex→Nat
  | .nrm=>0
  | .ret=>1
  | .ex i=>i + 2
def Cd (C:Ctx) (cd:Bh) (A:B7) (pl:bk) (we:List (Nat×(Wk×Le))) (c:Code) (S:St) (K:Ex→St→Prop):Prop :=
  rG C cd A pl c S fun e S'=>match nB we (Cc e) with
    | some (W,L)=>Af L (wk W S') (K e)
    | none=>K e S'
def DZ:List (Nat×AV)→Nat→Nat→List AV
  | _,_,0=>[]
  | xs,i,n + 1=>(match nB xs i with | some a=>a | none=>.bad)::DZ xs (i + 1) n
def gN (n:Nat) (ts:List (Nat×AV)) (l:List (Nat×List AV)) (o:List Ob) (b:Nat):St:={ t:=DZ ts 0 n,l:=l,o:=o,b:=b }
theorem cL.refl (S:St):cL S S:=fun _ E _ _ h k=>⟨E,h,k⟩
theorem cL.trans {S S' S'':St} (h:cL S S') (k:cL S' S''):cL S S'':=fun G E a w hM ht=>by
  obtain ⟨E1,h1,h2⟩:=h G E a w hM ht
  exact k G E1 a w h1 h2
theorem ko.refl (a:AV):ko a a:=fun _ _ h=>h
theorem ko.trans {a b c:AV} (h:ko a b) (k:ko b c):ko a c:=fun _ _ hv=>k _ _ (h _ _ hv)
theorem ko.bad (a:AV):ko a .bad:=fun _ _ _=>.bad _ _
theorem ko.nil:ko .nilsl (.sl []):=fun E u h=>by cases h; exact .sln E
theorem ko.esl:ko .esl (.sl []):=fun E u h=>by
  cases h with
  | esln=>exact .sln E
  | esl _ a=>exact .sle E a 0
theorem kp.refl (r:List AV):kp r r:=⟨rfl,fun _ _ _ h k=>by rw [h] at k; cases k; exact .refl _⟩
theorem kp.nil:kp [] []:=.refl _
theorem kp.cons {a b:AV} {r r':List AV} (h:ko a b) (k:kp r r'):kp (a::r) (b::r') :=
  ⟨by simp [k.1],fun i x y h1 h2=>by
    cases i with
    | zero=>simp at h1 h2; subst h1 h2; exact h
    | succ i=>exact k.2 i x y (by simpa using h1) (by simpa using h2)⟩
theorem kp.vrs {r r':List AV} {E:Env} {us:List Value} (h:kp r r') (hv:bB E r us):bB E r' us :=
  ⟨by rw [← h.1]; exact hv.1,fun m c u h1 h2=>by
    have hm:m<r.length:=by rw [h.1]; exact (List.getElem?_eq_some_iff.1 h1).1
    exact h.2 m _ c (List.getElem?_eq_getElem hm) h1 _ _ (hv.2 m _ u (List.getElem?_eq_getElem hm) h2)⟩
theorem ko.agg {r r':List AV} (h:kp r r'):ko (.agg r) (.agg r'):=fun E u hv=>by
  obtain ⟨us,rfl,h1⟩:=hv.aggI
  exact bB.aggV (h.vrs h1)
theorem ko.tup {r r':List AV} (h:kp r r'):ko (.tup r) (.tup r'):=fun E u hv=>by
  obtain ⟨us,rfl,h1⟩:=hv.tupI
  have:=h.vrs h1
  exact .tup us (by simpa using this.1) (fun m c u h1 h2=>this.2 m c u h1 (by simpa using h2))
theorem ko.fptr {r r':List AV} {j:Nat} (h:kp r r'):ko (.fptr r j) (.fptr r' j):=fun E u hv=>by
  cases hv with
  | fptr j us h1 h2 h3 h4 =>
    have:=h.vrs (E:=E.fz) (us:=us) ⟨h1.symm,h2⟩
    exact .fptr j us this.1.symm this.2 h3 h4
theorem fK.refl (r:List (List AV)):fK r r:=⟨rfl,fun _ _ _ h k=>by rw [h] at k; cases k; exact .refl _⟩
theorem fK.nil:fK [] []:=.refl _
theorem fK.cons {a b:List AV} {r r':List (List AV)} (h:kp a b) (k:fK r r'):fK (a::r) (b::r') :=
  ⟨by simp [k.1],fun i x y h1 h2=>by
    cases i with
    | zero=>simp at h1 h2; subst h1 h2; exact h
    | succ i=>exact k.2 i x y (by simpa using h1) (by simpa using h2)⟩
theorem fK.app {a b r r':List (List AV)} (h:fK a b) (k:fK r r'):fK (a++r) (b++r'):=by
  induction a generalizing b with
  | nil =>
    have:b=[]:=List.eq_nil_of_length_eq_zero h.1.symm
    subst this
    exact k
  | cons x a ih =>
    cases b with
    | nil=>exact absurd h.1 (by simp)
    | cons y b=>exact .cons (h.2 0 x y rfl rfl) (ih ⟨by simpa using h.1,fun i p q h1 h2=>h.2 (i + 1) p q (by simpa using h1) (by simpa using h2)⟩)
theorem kp.app {a b r r':List AV} (h:kp a b) (k:kp r r'):kp (a++r) (b++r'):=by
  induction a generalizing b with
  | nil =>
    have:b=[]:=List.eq_nil_of_length_eq_zero h.1.symm
    subst this
    exact k
  | cons x a ih =>
    cases b with
    | nil=>exact absurd h.1 (by simp)
    | cons y b=>exact .cons (h.2 0 x y rfl rfl) (ih ⟨by simpa using h.1,fun i p q h1 h2=>h.2 (i + 1) p q (by simpa using h1) (by simpa using h2)⟩)
theorem fK.flat {r r':List (List AV)} (h:fK r r'):kp r.flatten r'.flatten:=by
  induction r generalizing r' with
  | nil =>
    have:r'=[]:=List.eq_nil_of_length_eq_zero h.1.symm
    subst this
    exact .refl _
  | cons x a ih =>
    cases r' with
    | nil=>exact absurd h.1 (by simp)
    | cons y b =>
      have h1:=h.2 0 x y rfl rfl
      have h2:=ih (r':=b) ⟨by simpa using h.1,fun i p q h1 h2=>h.2 (i + 1) p q (by simpa using h1) (by simpa using h2)⟩
      rw [List.flatten_cons,List.flatten_cons]
      have app:∀ {a b r r':List AV},kp a b→kp r r'→kp (a++r) (b++r'):=by
        intro a b r r' h k
        induction a generalizing b with
        | nil =>
          have:b=[]:=List.eq_nil_of_length_eq_zero h.1.symm
          subst this
          exact k
        | cons x a ih =>
          cases b with
          | nil=>exact absurd h.1 (by simp)
          | cons y b=>exact .cons (h.2 0 x y rfl rfl) (ih ⟨by simpa using h.1,fun i p q h1 h2=>h.2 (i + 1) p q (by simpa using h1) (by simpa using h2)⟩)
      exact app h1 h2
theorem fK.lens {r r':List (List AV)} {sz:Nat} (h:fK r r') (hl:∀ x∈r,x.length=sz):∀ x∈r',x.length=sz:=by
  intro x hx
  obtain ⟨i,hi⟩:=List.getElem?_of_mem hx
  have hlt:i<r.length:=by rw [h.1]; exact (List.getElem?_eq_some_iff.1 hi).1
  rw [← (h.2 i _ x (List.getElem?_eq_getElem hlt) hi).1]
  exact hl _ (List.getElem_mem hlt)
theorem ko.sl {r r':List (List AV)} (h:fK r r'):ko (.sl r) (.sl r'):=fun E u hv=>by
  cases hv with
  | sln =>
    have:r'=[]:=List.eq_nil_of_length_eq_zero h.1.symm
    subst this
    exact .sln E
  | sle _ a cap =>
    have:r'=[]:=List.eq_nil_of_length_eq_zero h.1.symm
    subst this
    exact .sle E a cap
  | sl us h1 h2 h3 h4 h5 h6 h7 =>
    have hf:=h.flat
    have:=hf.vrs (E:=E.fz) (us:=us) ⟨h3.symm,h4⟩
    rw [h.1]
    exact .sl us h1 (h.lens h2) this.1.symm this.2 h5 h6 (by rw [← h.1]; exact h7)
theorem yd {ts:List Nat}:∀ {t:List AV} {i j:Nat} {c:AV},(Bc ts i t)[j]?=some c→c=.bad∨t[j]?=some c
  | [],_,_,_,h=>by simp [Bc] at h
  | x::xs,i,0,c,h=>by
    simp only [Bc,List.getElem?_cons_zero,Option.some.injEq] at h
    split at h
    · exact .inr (by rw [← h]; rfl)
    · exact .inl h.symm
  | x::xs,i,j + 1,c,h=>by
    simp only [Bc,List.getElem?_cons_succ] at h
    rw [List.getElem?_cons_succ]
    exact yd h
theorem ye {ts:List Nat}:∀ {t:List AV} {i:Nat},(Bc ts i t).length=t.length
  | [],_=>rfl
  | x::xs,i=>by simp [Bc,ye]
theorem Ao (ts:List Nat) (S:St):cL S { t:=Bc ts 0 S.t,l:=S.l,o:=S.o,b:=S.b }:=fun _ E _ _ hM ht =>
  ⟨E,hM.congr rfl rfl rfl,by rw [ye]; exact ht.len,fun n c u h1 h2=>by
    rcases yd h1 with h | h
    · rw [h]; exact .bad _ _
    · exact ht.val n c u h h2,ht.df,ht.gt⟩
theorem uS (d:Nat) (S:St):cL S (c8 d S):=fun G E a w hM ht=>by
  obtain ⟨E1,h1,h2,_⟩:=mh hM ht d rfl
  exact ⟨E1,h1,h2⟩
theorem nE:∀ (ds:List Nat) (S:St),cL S (uN ds S)
  | [],S=>.refl S
  | d::ds,S=>(uS d S).trans (nE ds _)
theorem zk (i:Nat) (S:St):cL S (ct i S):=fun _ _ _ _ hM ht =>
  let ⟨h1,h2⟩:=pm hM ht i
  ⟨_,h1,h2⟩
theorem rH:∀ (ds:List Nat) (S:St),cL S (Ae ds S)
  | [],S=>.refl S
  | d::ds,S=>(zk d S).trans (rH ds _)
theorem k5:∀ {os:List Ob} {i:Nat} {x:Ob},uO os=true→os[i]?=some x→x=.dead
  | [],i,x,_,h=>by simp at h
  | .dead::os,0,x,_,h=>by simp at h; exact h.symm
  | .dead::os,i + 1,x,h,h1=>k5 (os:=os) (i:=i) h (by simpa using h1)
  | .arr _ _ _::os,_,_,h,_=>by cases h
  | .mapo _ _::os,_,_,h,_=>by cases h
  | .own _ _ _ _::os,_,_,h,_=>by cases h
theorem zl (n:Nat) (S:St):cL S (B5 n S):=fun _ E _ _ hM ht=>by
  unfold B5
  split
  · rename_i h
    rw [Bool.and_eq_true] at h
    have hb:=Nat.le_of_ble_eq_true h.2
    have hbl:=hM.bl
    refine ⟨E,⟨hM.hp,hM.os,hM.tape,hM.output,hM.size,hM.keep,hM.F0,hM.Flt,hM.Fnew,hM.own,hM.inj,hM.loc,fun id=>?_,fun id hid=>?_,?_,hM.szs,hM.pk,fun id=>?_⟩,ht⟩
    · have h0:=hM.obj id
      show dN E (S.o.take n)[id]? _
      rw [List.getElem?_take]
      split
      · exact h0
      · rename_i hn
        cases hx:S.o[id]? with
        | none=>rw [hx] at h0; exact h0
        | some x =>
          have:x=.dead:=k5 h.1 (i:=id - n) (by rw [List.getElem?_drop]; rw [show n + (id - n)=id by omega]; exact hx)
          rw [hx,this] at h0
          revert h0
          cases E.mu (.O id) with
          | none=>exact fun _=>trivial
          | some _=>exact fun h=>h.elim
    · show (S.o.take n)[id]?=some .dead∨_
      have hid':id<S.b:=hid
      rw [List.getElem?_take,if_pos (by omega)]
      exact hM.old id hid
    · show S.b≤(S.o.take n).length
      rw [List.length_take]
      omega
    · have h0:=hM.ow id
      show cI E id (S.o.take n)[id]?
      rw [List.getElem?_take]
      split
      · exact h0
      · rename_i hn
        cases hx:S.o[id]? with
        | none=>rw [hx] at h0; exact h0
        | some x =>
          have:x=.dead:=k5 h.1 (i:=id - n) (by rw [List.getElem?_drop]; rw [show n + (id - n)=id by omega]; exact hx)
          rw [hx,this] at h0
          exact h0
  · exact ⟨E,hM,ht⟩
theorem rI {G:Gh} {E:Env} {S:St} {w:World} (hM:af G pn E S w):E.mu (.O S.o.length)=none:=by
  have:=hM.obj S.o.length
  rw [List.getElem?_eq_none (Nat.le_refl _)] at this
  revert this
  cases E.mu (.O S.o.length) with
  | none=>exact fun _=>rfl
  | some _=>exact fun h=>h.elim
theorem wl {G:Gh} {E:Env} {S:St} {w:World} (hM:af G pn E S w) (sz:Nat) (t:List AV):af G pn ⟨E.F,ay E.mu (.O S.o.length) .virt,E.h⟩ { t:=t,l:=S.l,o:=S.o++[.arr true sz []],b:=S.b } w:=by
  have hbl:=hM.bl
  refine hM.addkey' (key:=.O S.o.length) (mv:=.virt) (fun _ _=>rfl) (fun _ h=>by cases h) (rI hM) (fun _ _ _ _ h=>by cases h) (fun _ _=>rfl) (fun id hid=>?_) rfl ?_ (fun id h=>?_) (fun _ h=>by cases h) (fun id h=>?_) ?_
  · show (S.o++[_])[id]?=_
    by_cases h:id<S.o.length
    · rw [List.getElem?_append_left h]
    · have hne:id≠S.o.length:=fun e=>hid (by rw [e])
      rw [List.getElem?_eq_none (by simp; omega),List.getElem?_eq_none (by omega)]
  · show S.b≤(S.o++[_]).length
    simp
    omega
  · cases h
    exact hbl
  · cases h
    show dN _ (S.o++[_])[S.o.length]? _
    rw [List.getElem?_append_right (Nat.le_refl _),Nat.sub_self]
    rfl
  · exact hM.ow_push rfl rfl
theorem mI:∀ (ps:List (Nat×Nat)) (S:St),cL S (wi ps S)
  | [],S=>.refl S
  | (d,sz)::ps,S=>by
    unfold wi
    split
    · rename_i hd
      refine cL.trans ?_ (mI ps _)
      intro G E a w hM ht
      refine ⟨_,wl hM sz _,?_⟩
      have hle:LE E ⟨E.F,ay E.mu (.O S.o.length) .virt,E.h⟩:=gu (rI hM)
      refine ⟨by simpa using ht.len,fun n c u h1 h2=>?_,ht.df,ht.gt.mono hle⟩
      have h1':(S.t.set d (.mf S.o.length))[n]?=some c:=h1
      rw [List.getElem?_set] at h1'
      split at h1'
      · rename_i e
        subst e
        split at h1'
        · cases h1'
          have hv:=ht.val d _ u hd h2
          cases hv
          exact .mfn (by show ay _ _ _ _=_; unfold ay; rw [if_pos rfl])
        · cases h1'
      · exact (ht.val n c u h1' h2).mono hle
    · exact mI ps S
theorem jY:∀ (ps:List (Nat×Nat×Nat)) (S:St),cL S (tv ps S)
  | [],S=>.refl S
  | (d,j,sz)::ps,S=>by
    unfold tv
    split
    · rename_i row hd
      split
      · rename_i hj
        refine cL.trans ?_ (jY ps _)
        intro G E a w hM ht
        have hle:LE E ⟨E.F,ay E.mu (.O S.o.length) .virt,E.h⟩:=gu (rI hM)
        refine ⟨_,?_,ht.mono hle⟩
        have h0:=wl hM sz S.t
        refine ⟨h0.hp,h0.os,h0.tape,h0.output,h0.size,h0.keep,h0.F0,h0.Flt,h0.Fnew,h0.own,h0.inj,fun e=>?_,h0.obj,h0.old,h0.bl,h0.szs,(fun _ _ h=>by cases h),h0.ow⟩
        have h1:=h0.loc e
        show eV pn _ (aJ (pL S.l d (row.set j (.mf S.o.length))) e) e
        rw [g0 hd]
        split
        · rename_i e'
          subst e'
          have h1':eV pn ⟨E.F,ay E.mu (.O S.o.length) .virt,E.h⟩ (aJ S.l d) d:=h1
          rw [hd] at h1'
          rcases h1' with ⟨b,h2,h3,h4,us,ty,h5,h6,h7⟩ | ⟨_,h2,_⟩
          · refine .inl ⟨b,by simpa using h2,by simpa using h3,by simp,us,ty,h5,by simpa using h6,fun m c hc=>?_⟩
            have hf:[row.set j (.mf S.o.length)].flatten=row.set j (.mf S.o.length):=by simp
            have hf0:[row].flatten=row:=by simp
            rw [hf,List.getElem?_set] at hc
            split at hc
            · rename_i e'
              subst e'
              split at hc
              · cases hc
                obtain ⟨u,hu,hv⟩:=h7 j .nilsl (by rw [hf0]; exact hj)
                refine ⟨u,hu,?_⟩
                cases hv
                exact .mfn (by show ay _ _ _ _=_; unfold ay; rw [if_pos rfl])
              · cases hc
            · exact h7 m c (by rw [hf0]; exact hc)
          · cases h2
        · exact h1
      · exact jY ps S
    · exact jY ps S
theorem lw:∀ (ds:List Nat) (S:St),cL S (zh ds S)
  | [],S=>.refl S
  | d::ds,S=>by
    unfold zh
    split
    · rename_i x hx
      split
      · rename_i y hy
        refine cL.trans ?_ (lw ds _)
        intro G E a w hM ht
        obtain ⟨hS1,ht1⟩:=i1 (ids:=cH S.o 6 x) hM ht
        obtain ⟨hle2,hS2⟩:=hS1.freeze (F':=FD E (cH S.o 6 x)) (fun b h=>.inl h) (fun b h=>by
          rcases h with h | ⟨id,hid,o',s,n,hm⟩
          · exact .inl h
          · obtain ⟨h1,h2,h3⟩:=hM.own _ _ _ _ _ hm
            refine .inr ⟨h2,h3,fun k o'' s' n' h'=>?_⟩
            obtain ⟨h4,h5⟩:=gw h'
            exact h5 id hid (hM.inj _ _ _ _ _ _ _ _ _ h4 hm))
        have ht2:=ht1.mono hle2
        refine ⟨_,hS2.congr rfl rfl rfl,by simpa using ht2.len,fun n c u h1 h2=>?_,ht2.df,ht2.gt⟩
        have h1':((iM (cH S.o 6 x) S).t.set d y)[n]?=some c:=h1
        rw [List.getElem?_set] at h1'
        split at h1'
        · rename_i e
          subst e
          split at h1'
          · cases h1'
            have hv:=e7 hM 6 hy (ht.val d _ u hx h2) (ids:=cH S.o 6 x) (fun _ h=>h)
            exact hv.mono ⟨fun _ h=>h,fun _ _ _ h=>(by cases h),fun _ _=>rfl,fun _ _ _ _ _ _ h=>(by cases h)⟩
          · cases h1'
        · exact ht2.val n c u h1' h2
      · exact lw ds S
    · exact lw ds S
theorem Ap (W:Wk) (S:St):cL S (DG W S):=by
  unfold DG
  exact (Ao W.ts S).trans ((nE W.ls _).trans ((rH _ _).trans ((zl _ _).trans ((mI _ _).trans (jY _ _)))))
theorem lx (W:Wk) (S:St):cL S (wk W S):=(lw W.fz S).trans (Ap W _)
theorem wm:∀ {xs:List (Nat×AV)} {S:St} {K:St→Prop},B6 xs S K→∃ S',cL S S'∧K S'
  | [],S,K,h=>⟨S,.refl S,h⟩
  | (d,v)::xs,S,K,h=>by
    obtain ⟨a,ha,hl,h⟩:=bE.1 h
    rw [cV] at h
    obtain ⟨S',h1,h2⟩:=wm h
    refine ⟨S',cL.trans ?_ h1,h2⟩
    intro G E act w hM ht
    refine ⟨E,hM.congr rfl rfl rfl,by simpa using ht.len,fun n c u h1 h2=>?_,ht.df,ht.gt⟩
    have h1':(S.t.set d v)[n]?=some c:=h1
    rw [List.getElem?_set] at h1'
    split at h1'
    · rename_i e
      subst e
      split at h1'
      · cases h1'
        exact hl _ _ (ht.val d _ u ha h2)
      · cases h1'
    · exact ht.val n c u h1' h2
theorem wn:∀ {xs:List (Nat×List AV)} {S:St} {K:St→Prop},Bd xs S K→∃ S',cL S S'∧K S'
  | [],S,K,h=>⟨S,.refl S,h⟩
  | (d,r)::xs,S,K,h=>by
    unfold Bd at h
    split at h
    · rename_i row hd
      obtain ⟨hl,h⟩:=h
      rw [fy] at h
      obtain ⟨S',h1,h2⟩:=wn h
      refine ⟨S',cL.trans ?_ h1,h2⟩
      intro G E act w hM ht
      refine ⟨E,?_,ht⟩
      refine ⟨hM.hp,hM.os,hM.tape,hM.output,hM.size,hM.keep,hM.F0,hM.Flt,hM.Fnew,hM.own,hM.inj,fun e=>?_,hM.obj,hM.old,hM.bl,hM.szs,(fun _ _ h=>by cases h),hM.ow⟩
      have h1:=hM.loc e
      show eV pn _ (aJ (pL S.l d r) e) e
      rw [g0 hd]
      split
      · rename_i e'
        subst e'
        rw [hd] at h1
        rcases h1 with ⟨b,h2,h3,h4,us,ty,h5,h6,h7⟩ | ⟨_,h2,_⟩
        · refine .inl ⟨b,by rw [← hl.1]; exact h2,by rw [← hl.1]; exact h3,by simp,us,ty,h5,by rw [← hl.1]; exact h6,fun m c hc=>?_⟩
          have hf:[r].flatten=r:=by simp
          have hf0:[row].flatten=row:=by simp
          rw [hf] at hc
          have hm:m<row.length:=by rw [hl.1]; exact (List.getElem?_eq_some_iff.1 hc).1
          obtain ⟨u,hu,hv⟩:=h7 m _ (by rw [hf0]; exact List.getElem?_eq_getElem hm)
          exact ⟨u,hu,hl.2 m _ c (List.getElem?_eq_getElem hm) hc _ _ hv⟩
        · cases h2
      · exact h1
    · exact False.elim h
theorem wo:∀ {xs:List (Nat×List (List AV))} {S:St} {K:St→Prop},Be xs S K→∃ S',cL S S'∧K S'
  | [],S,K,h=>⟨S,.refl S,h⟩
  | (i,R)::xs,S,K,h=>by
    unfold Be at h
    split at h
    · rename_i fl sz rows hi
      obtain ⟨hl,h⟩:=h
      rw [av] at h
      obtain ⟨S',h1,h2⟩:=wo h
      refine ⟨S',cL.trans ?_ h1,h2⟩
      intro G E act w hM ht
      refine ⟨E,?_,ht⟩
      refine ⟨hM.hp,hM.os,hM.tape,hM.output,hM.size,hM.keep,hM.F0,hM.Flt,hM.Fnew,hM.own,hM.inj,hM.loc,fun id=>?_,fun id hid=>?_,by show S.b≤(S.o.set _ _).length; rw [List.length_set]; exact hM.bl,hM.szs,hM.pk,fun id=>?_⟩
      · have h1:=hM.obj id
        show dN E (S.o.set i _)[id]? _
        rw [List.getElem?_set]
        split
        · rename_i e
          subst e
          rw [if_pos (List.getElem?_eq_some_iff.1 hi).1]
          rw [hi] at h1
          revert h1
          cases E.mu (.O i) with
          | none=>exact fun h=>h
          | some mv =>
            cases mv with
            | virt =>
              intro h
              have h:rows=[]:=h
              subst h
              exact List.eq_nil_of_length_eq_zero hl.1.symm
            | blk b o s n =>
              rintro ⟨⟨h1,h2⟩,h3,h4,us,ty,h5,h6,h7⟩
              refine ⟨⟨h1,by rw [← hl.1]; exact h2⟩,h3,hl.lens h4,us,ty,h5,by rw [← hl.1]; exact h6,fun m c hc=>?_⟩
              have hf:=hl.flat
              have hm:m<rows.flatten.length:=by rw [hf.1]; exact (List.getElem?_eq_some_iff.1 hc).1
              obtain ⟨u,hu,hv⟩:=h7 m _ (List.getElem?_eq_getElem hm)
              exact ⟨u,hu,hf.2 m _ c (List.getElem?_eq_getElem hm) hc _ _ hv⟩
        · exact h1
      · have h1:=hM.old id hid
        show (S.o.set i _)[id]?=some .dead∨_
        rw [List.getElem?_set]
        split
        · rename_i e
          subst e
          rcases h1 with h1 | h1
          · rw [hi] at h1; cases h1
          · exact .inr h1
        · exact h1
      · have h1:=hM.ow id
        show cI E id (S.o.set i _)[id]?
        rw [List.getElem?_set]
        split
        · rename_i e
          subst e
          rw [if_pos (List.getElem?_eq_some_iff.1 hi).1]
          rw [hi] at h1
          exact h1
        · exact h1
    · exact False.elim h
theorem iU {L:Le} {S:St} {K:St→Prop} (h:Af L S K):∃ S',cL S S'∧K S':=by
  obtain ⟨S1,h1,h⟩:=wm h
  obtain ⟨S2,h2,h⟩:=wn h
  obtain ⟨S3,h3,h⟩:=wo h
  exact ⟨S3,h1.trans (h2.trans h3),h⟩
structure rJ (C:Ctx):Prop where
  det:ej C
theorem ar.mono2 {α β:Type} {X:(α→β→Prop)→Prop} (h:ao X) {K K':α→β→Prop} (hx:X K) (hk:∀ r s,K r s→K' r s):X K':=by
  obtain ⟨r,s,h1,h2⟩:=h _ hx
  exact h2 _ (hk r s h1)
theorem ar.mono {α:Type} {X:(α→Prop)→Prop} (h:ar X) {K K':α→Prop} (hx:X K) (hk:∀ r,K r→K' r):X K':=by
  obtain ⟨r,h1,h2⟩:=h K hx
  exact h2 _ (hk r h1)
theorem ao.mono {α β:Type} {X:(α→β→Prop)→Prop} (h:ao X) {K K':α→β→Prop} (hx:X K) (hk:∀ a b,K a b→K' a b):X K':=by
  obtain ⟨a,b,h1,h2⟩:=h K hx
  exact h2 _ (hk a b h1)
theorem zm {op:BinOp} {x y:Value} {K:Value→Prop} (h:Ag op x y K):qm op x y K:=by
  unfold Ag at h
  unfold qm
  split at h <;> first
    | exact aj h.1 h.2
    | exact False.elim h
section
variable {C:Ctx} {A:cz} {pl:bk} {o:Oper}
theorem zn {op:BinOp} {t:TypeId} {x y:AV} {k:AV→Prop} (h:Ai C A o op t x y k):wP C.P op t x y k:=by
  unfold Ai at h
  split at h
  · rename_i a b
    show sI C.P op t a b k
    unfold sI
    split at h
    · rename_i hn
      rw [hn]
      dsimp only
      split at h
      · exact h
      · rename_i a b hne
        split
        · exact (hne _ _ rfl rfl).elim
        · exact zm h
    · rename_i c hc
      rw [hc]
      exact h
  · rename_i as bs
    show (match pM as,pM bs with
    | some xs,some ys =>
      match cJ C.P op t xs ys with
      | some (.bool b)=>k (.v (.bool b))
      | _=>ae 226
    | _,_=>ae 227)
    split at h
    · rename_i xs ys h1 h2
      try rw [h1,h2]
      try dsimp only
      split at h
      · rw [h.1]
        exact h.2
      · exact False.elim h
    · exact False.elim h
  · exact False.elim h
theorem wq {t:TypeId} {x ix:AV} {k:AV→Prop} (h:uP C A o t x ix k):l7 C.P t x ix k:=by
  unfold uP at h
  unfold l7
  refine ar.mono aT h (fun i h'=>?_)
  clear h
  split at h'
  · rename_i s hu
    rw [hu]
    dsimp only
    split at h'
    · rw [h'.1]
      dsimp only
      have h2:=h'.2.2
      rw [h'.2.1] at h2
      exact h2
    · exact False.elim h'
  · rename_i len e cs hu
    rw [hu]
    dsimp only
    have h:=h'
    split at h
    · rename_i inf hi
      rw [hi]
      exact aj h.1 h.2
    · exact False.elim h
  · exact False.elim h'
theorem Aq {vs:List AV} {k:AV→Prop} (h:B8 C A pl o vs k):pop C pl o vs k:=by
  unfold B8 at h
  split at h
  · exact h
  · split at h
    · rename_i ho
      unfold pop
      rw [ho]
      exact zn h
    · rename_i ho
      unfold pop
      rw [ho]
      exact wq h
    · exact False.elim h
theorem ly {len cap:Nat} {lo hi mx:Option Int} {k:Nat→Nat→Nat→Prop} (h:tw len cap lo hi mx k):nV len cap lo hi mx k:=by
  unfold tw at h
  unfold nV
  split at h <;> first
    | exact h
    | exact aj h.1 h.2
    | exact False.elim h
theorem fb {t:TypeId} {x:AV} {lo hi mx:Option Int} {S:St} {k:AV→Prop} (h:iR C t x lo hi mx S k):fS C.P t x lo hi mx S k:=by
  unfold iR at h
  rw [Bool.and_comm (fO mx) (fO hi)] at h
  unfold fS
  split at h
  · rename_i hu
    rw [hu]
    dsimp only
    split at h
    · exact ly h
    · exact False.elim h
  · rename_i e hu
    rw [hu]
    dsimp only
    split at h
    · rename_i i hi
      rw [hi]
      dsimp only
      obtain ⟨h0,h⟩:=ac h
      refine aj h0 ?_
      split at h
      · exact aj h.1 (ly h.2)
      · split at h
        · rename_i ho
          dsimp only
          rw [ho]
          obtain ⟨h1,h⟩:=ac h
          exact aj h1 (ly h)
        · exact False.elim h
      · split at h
        · rename_i ho
          dsimp only
          rw [ho]
          obtain ⟨h1,h⟩:=ac h
          exact aj h1 (ly h)
        · exact False.elim h
      · exact False.elim h
    · exact False.elim h
  · exact False.elim h
theorem pX {row:List AV} {t:TypeId} {x ix:AV} {S:St} {k:AV→Prop} (h:k4 C row t x ix S k):eU C.P t x ix S k:=by
  unfold k4 at h
  unfold eU
  refine ar.mono aT h (fun i h=>?_)
  split at h
  · rename_i e hu
    rw [hu]
    dsimp only
    split at h
    · rename_i inf hi
      rw [hi]
      dsimp only
      split at h
      · have h1:=h.1
        unfold AU at h1
        dsimp only
        rw [h1]
        exact h.2
      · split at h
        · rename_i ho
          dsimp only
          rw [ho]
          dsimp only
          have h1:=h.1
          unfold AU at h1
          rw [h1]
          exact h.2
        · rename_i ho
          dsimp only
          rw [ho]
          obtain ⟨h1,h2,h3⟩:=ac h
          refine aj ?_ h3
          rw [Bool.and_eq_true]
          exact ⟨h2,h1⟩
        · exact False.elim h
      · split at h
        · rename_i ho
          dsimp only
          rw [ho]
          dsimp only
          refine aj h.1 ?_
          rw [h.2.1]
          exact h.2.2
        · exact False.elim h
      · exact False.elim h
    · exact False.elim h
  · rename_i len e hu
    rw [hu]
    dsimp only
    split at h
    · rename_i inf hi
      rw [hi]
      exact aj h.1 h.2
    · exact False.elim h
  · exact False.elim h
theorem pD (hC:rJ C) {fid:Nat} {as:List AV} {k:AV→Prop} (h:qb C A o fid as k):C.pcall fid as k:=by
  unfold qb at h
  split at h
  · exact ar.mono (hC.det.pcall _ _) h.1 (fun _ e=>by rw [e]; exact h.2)
  · exact h
theorem xF {P:Program} {op:BinOp} {t:TypeId} {x y:AV} {S:St} {k:AV→Prop} (h:xB P op t x y S k):qt P op t x y S k:=by
  unfold xB at h
  split at h
  · rename_i id
    split at h
    · rename_i rows hob
      obtain ⟨h1,h⟩:=h
      have:qq S (.mf id)=true:=by
        unfold qq
        dsimp only
        rw [hob]
        cases rows with
        | nil=>cases h1
        | cons _ _=>rfl
      unfold qt
      rw [this]
      exact h
    · exact False.elim h
  · exact False.elim h
theorem Ar (hC:rJ C) {vs:List AV} {M:St} {k:AV→Prop} (h:B9 C A o vs M k):l8 C o vs M k:=by
  unfold B9 at h
  split at h
  · rename_i ho
    split at h
    · split at h
      · split at h
        · rename_i hob
          unfold l8
          rw [ho]
          dsimp only
          unfold zG
          dsimp only
          unfold rV
          dsimp only
          rw [hob]
          dsimp only
          rw [h.1]
          exact h.2
        · exact False.elim h
      · exact False.elim h
    · exact h
  · rename_i ho
    split at h
    · exact h
    · unfold l8
      rw [ho]
      split at h
      · exact fb h
      · exact ar.mono aT h (fun _ h=>fb h)
      · exact ar.mono aT h (fun _ h=>fb h)
      · exact ar.mono aT h (fun _ h=>ar.mono aT h (fun _ h=>fb h))
      · exact ar.mono aT h (fun _ h=>ar.mono aT h (fun _ h=>fb h))
      · exact ar.mono aT h (fun _ h=>ar.mono aT h (fun _ h=>ar.mono aT h (fun _ h=>fb h)))
      · exact False.elim h
  · rename_i ho
    split at h
    · unfold l8
      rw [ho]
      exact pX h
    · exact h
  · rename_i ho
    split at h
    · split at h
      · rename_i hu
        split at h
        · rename_i hob
          unfold l8
          rw [ho]
          dsimp only
          unfold li
          rw [hu]
          dsimp only
          rw [hob]
          exact h.1 _ h.2
        · exact False.elim h
      · exact False.elim h
    · exact h
  · rename_i ho
    split at h
    · exact h
    · unfold l8
      rw [ho]
      exact xF h
  · rename_i c ho
    split at h
    · rename_i hcal
      split at h
      · unfold l8
        rw [ho]
        dsimp only
        rw [hcal]
        dsimp only
        obtain ⟨h1,h⟩:=ac h
        exact aj h1 (ar.mono (cv _ _) h (fun bs hb=>pD hC hb))
      · exact False.elim h
    · exact h
  · exact h
theorem wu {S:St} {row:List AV} {a:AV} {cs:List AV} {K:St→Prop} (h:uQ S row a cs K):iY S a cs K:=by
  unfold uQ at h
  split at h
  · unfold iY
    split at h
    · rename_i ho
      dsimp only
      rw [ho]
      dsimp only
      rw [h.1]
      exact h.2
    · exact False.elim h
  · exact False.elim h
theorem wv {vs:List AV} {M:St} {k:AV→St→Prop} (h:Bf C A o vs M k):sL C o vs M k:=by
  unfold Bf at h
  split at h
  · exact h
  · split at h
    · rename_i ho
      split at h
      · unfold sL
        rw [ho]
        refine ar.mono bz h (fun cs h=>?_)
        split at h
        · rename_i hi
          rw [hi]
          obtain ⟨h1,h⟩:=ac h
          exact aj h1 (wu h)
        · exact False.elim h
      · exact h
    · exact h
theorem mJ {size:Nat} {S:St} {x:AV} {k:Bool→List (List AV)→Prop} (h:rB size S x k):gJ size S x k:=by
  unfold rB at h
  unfold gJ
  split at h <;> first
    | exact aj h.1 h.2
    | exact h
    | exact False.elim h
theorem uT {ts:List TypeId} {base x:AV} {S:St} {k:St→AV→Prop} (h:rC C.P ts base x S k):iH C.P ts base x S k:=by
  unfold rC at h
  unfold iH
  split at h
  · split at h
    · rename_i e hu
      dsimp only
      rw [hu]
      dsimp only
      split at h
      · rename_i i hi
        rw [hi]
        dsimp only
        obtain ⟨h1,h⟩:=ac h
        refine aj h1 ?_
        refine ao.mono cN (mJ h) (fun fl src h=>?_)
        refine aj h.1 ?_
        replace h:=h.2
        split at h
        · exact aj h.1 h.2
        · exact aj h.1 h.2
        · split at h
          · rename_i ho
            dsimp only
            rw [ho]
            obtain ⟨h1,h⟩:=ac h
            refine aj ?_ h.2
            simp only [Bool.and_eq_true] at h1 ⊢
            exact ⟨⟨h1.1,h.1⟩,h1.2⟩
          · exact False.elim h
        · split at h
          · rename_i ho
            dsimp only
            rw [ho]
            obtain ⟨h1,h2,h3,h⟩:=ac h
            refine aj h1 ?_
            rw [h2]
            exact aj h3 h
          · exact False.elim h
        · exact False.elim h
      · exact False.elim h
    · exact False.elim h
  · exact False.elim h
theorem sr {ts:List TypeId} {base x:AV} {k:AV→Prop} (h:oM C.P ts base x k):g8 C.P ts base x k:=by
  unfold oM at h
  unfold g8
  split at h
  · split at h
    · rename_i e hu
      dsimp only
      rw [hu]
      dsimp only
      split at h
      · rename_i i hi
        rw [hi]
        dsimp only
        obtain ⟨h1,h⟩:=ac h
        refine aj h1 ?_
        refine ao.mono cN (mJ h) (fun fl src h=>?_)
        obtain ⟨h2,h3,h4,h⟩:=ac h
        refine aj ?_ h
        rw [h2,h3,h4]
        rfl
      · exact False.elim h
    · exact False.elim h
  · exact False.elim h
theorem As {vs:List AV} {k:AV→Prop} (h:B_ C o vs k):BQ C o vs k:=by
  unfold B_ at h
  unfold BQ
  split at h
  · rename_i c x y ho
    rw [ho]
    dsimp only
    split at h
    · rename_i hc
      rw [hc]
      exact sr h
    · exact False.elim h
  · exact False.elim h
theorem ss {ts:List TypeId} {base:AV} {n:Int} {S:St} {k:St→AV→Prop} (h:oN C.P ts base n S k):g9 C.P ts base n S k:=by
  unfold oN at h
  unfold g9
  split at h
  · split at h
    · rename_i hu hv
      dsimp only
      rw [hu,hv]
      dsimp only
      split at h
      · rename_i hi
        rw [hi]
        exact aj h.1 h.2
      · exact False.elim h
    · exact False.elim h
  · exact False.elim h
theorem j7 {t:TypeId} {l c:AV} {S:St} {k:St→AV→Prop} (h:iS C.P t l c S k):bv C.P t l c S k:=by
  unfold iS at h
  unfold bv
  split at h
  · rename_i hu
    rw [hu]
    dsimp only
    split at h
    · rename_i hi
      rw [hi]
      dsimp only
      exact ar.mono aT h (fun _ h=>ar.mono aT h (fun _ h=>aj h.1 h.2))
    · exact False.elim h
  · exact False.elim h
theorem xG (hC:rJ C) {f:AV} {args:List AV} {S:St} {k:St→AV→Prop} (h:xD C A o f args S k):sK C f args S k:=by
  unfold xD at h
  unfold sK
  split at h
  · dsimp only
    split at h
    · rename_i hp
      rw [hp]
      exact ar.mono (cv _ _) h (fun bs hb=>pD hC hb)
    · rename_i hp
      rw [hp]
      obtain ⟨h1,h⟩:=ac h
      refine aj h1 ?_
      split at h
      · exact ao.mono (hC.det.scall _ _ _) h.1 (fun r o' ⟨e1,e2⟩=>by subst e1 e2; exact h.2)
      · exact h
  · exact False.elim h
theorem j8 {R:List (AV×AV)} {t:TypeId} {m key x:AV} {S:St} {K:St→Prop} (h:iT C.P R t m key x S K):da C.P t m key x S K:=by
  unfold iT at h
  unfold da
  split at h
  · rename_i hu
    rw [hu]
    dsimp only
    split at h
    · split at h
      · rename_i fl es ho
        dsimp only
        rw [ho]
        dsimp only
        obtain ⟨h1,h2,h3⟩:=ac h
        refine aj h1 ?_
        have:=h2 (fun es'=>aU (S.o.set _ (.mapo (fl&&cm 4 x) es')) fun o=>K { t:=S.t,l:=S.l,o:=o,b:=S.b }) h3
        exact this
      · exact False.elim h
    · exact False.elim h
  · exact False.elim h
theorem xH {ts:List TypeId} {x y:AV} {M:St} {k:AV→St→Prop} (h:xC C.P ts x y M k):o5 C.P ts x y M k:=by
  unfold xC at h
  unfold o5
  split at h
  · split at h
    · rename_i e hu
      dsimp only
      rw [hu]
      dsimp only
      split at h
      · rename_i i hi
        rw [hi]
        dsimp only
        obtain ⟨h1,h⟩:=ac h
        refine aj h1 ?_
        refine ao.mono cN (mJ h) (fun fl src h=>?_)
        obtain ⟨h2,h⟩:=h
        obtain ⟨h3,h⟩:=ac h
        refine aj (by rw [h2,h3]; rfl) ?_
        split at h
        · split at h
          · rename_i ho
            dsimp only
            rw [ho]
            exact h
          · exact False.elim h
        · split at h
          · rename_i ho
            dsimp only
            rw [ho]
            obtain ⟨h1,h2,h⟩:=ac h
            exact aj (by rw [h1,h2]; rfl) h
          · exact False.elim h
        · exact False.elim h
      · exact False.elim h
    · exact False.elim h
  · exact False.elim h
theorem ww (hC:rJ C) {S:St} {K:St→Prop} (h:Bg C A pl o S K):rW C pl o S K:=by
  unfold Bg at h
  split at h
  · rename_i ho
    split at h
    · unfold rW
      rw [ho]
      refine ar.mono bF h (fun m h=>?_)
      refine ar.mono bF h (fun k h=>?_)
      refine ar.mono bF h (fun x h=>?_)
      exact j8 h
    · exact h
  · rename_i ho
    split at h
    · unfold rW
      rw [ho]
      refine ar.mono bF h (fun m h=>?_)
      refine ar.mono bF h (fun k h=>?_)
      refine ar.mono bF h (fun x h=>?_)
      exact j8 h
    · exact h
  · rename_i ho
    split at h
    · unfold rW
      rw [ho]
      refine ar.mono bF h (fun l h=>?_)
      refine ar.mono bF h (fun c h=>?_)
      exact j7 h
    · exact h
  · rename_i c ho
    split at h
    · rename_i hcal
      split at h
      · unfold rW
        rw [ho]
        dsimp only
        rw [hcal]
        dsimp only
        refine ar.mono aS h (fun as h=>?_)
        split at h
        · exact ss h
        · rename_i x y hne
          split
          · rename_i e
            cases e
            exact (hne _ _ rfl).elim
          · rename_i e
            cases e
            exact uT h
          · rename_i h3
            exact (h3 _ _ rfl).elim
        · exact False.elim h
      · exact h
    · rename_i hcal
      unfold rW
      rw [ho]
      dsimp only
      rw [hcal]
      dsimp only
      refine ar.mono aS h (fun as h=>?_)
      split at h
      · exact xH h
      · exact False.elim h
    · rename_i f hcal
      unfold rW
      rw [ho]
      dsimp only
      rw [hcal]
      dsimp only
      refine ar.mono bF h (fun l h=>?_)
      refine ar.mono aS h (fun c h=>?_)
      exact xG hC h
    · exact h
  · exact h
theorem ir {K:St→Prop} {S:St} (h:km A o K S):K S:=by
  have h2:∀ {key:Nat} {S:St} {K:St→Prop},Aj A key S K→K S:=by
    intro key S K h
    unfold Aj at h
    split at h
    · exact h
    · split at h
      · rename_i ho
        obtain ⟨h1,h⟩:=h
        subst h1
        rw [av] at h
        have e:∀ {α:Type} {l:List α} {i:Nat} {x:α},l[i]?=some x→l.set i x=l:=by
          intro α l i x hx
          refine List.ext_getElem? (fun m=>?_)
          rw [List.getElem?_set]
          split
          · rename_i e
            subst e
            rw [if_pos (List.getElem?_eq_some_iff.1 hx).1,hx]
          · rfl
        rw [e ho] at h
        exact h
      · exact False.elim h
  unfold km at h
  unfold Bz at h
  split at h
  · exact h2 h
  · split at h
    · exact h2 h
    · rename_i v hv
      obtain ⟨a,ha,e,h⟩:=bE.1 h
      subst e
      rw [cV,gz ha] at h
      exact h2 h
theorem tE {S:St} {K:St→Prop} (h:Ak C A pl o S K):yD C pl o S K:=ar.mono aS h (fun _ h=>Aq h)
theorem tH (hC:rJ C) {S:St} {K:St→Prop} (h:Al C A o S K):yE C o S K:=ar.mono aS h (fun _ h=>Ar hC h)
theorem zo {S:St} {K:St→Prop} (h:BA C A o S K):yF C o S K:=ar.mono aS h (fun _ h=>wv h)
theorem lX {row:Option (List (List AV))} {M:St} {id i:Nat} {k:AV→St→Prop} (h:lu row M id i k):dJ M id i k:=by
  unfold lu at h
  unfold dJ
  split at h
  · rename_i hob
    rw [hob]
    dsimp only
    split at h
    · obtain ⟨h1,h⟩:=h
      rw [h1]
      exact h
    · obtain ⟨h1,h⟩:=h
      rw [h1]
      exact h
  · exact h.elim
theorem su {P:Program} {a:sq} {t:TypeId} {same:Bool} {M:St} {id i:Nat} {k:AV→St→Prop} (h:oO P a t same M id i k):fu P t same M id i k:=by
  unfold oO at h
  unfold fu
  split at h
  · split at h
    · rename_i hob
      rw [hob]
      exact aj h.1 h.2
    · exact h.elim
  · exact lX h
theorem rK {P:Program} {t:TypeId} {M:St} {id i:Nat} {v:AV} {K:St→Prop} (h:mH P t M id i v K):ef P t M id i v K:=by
  unfold mH at h
  unfold ef
  split at h
  · rename_i hi hob
    rw [hi,hob]
    obtain ⟨h1,h2,h3⟩:=ac h
    refine aj ?_ h3
    simp only [Bool.and_eq_true] at h1 h2 ⊢
    exact ⟨⟨⟨h1.1,h2.1⟩,h1.2⟩,h2.2⟩
  · exact h.elim
theorem sv {P:Program} {j:Nat} {a:sq} {t:TypeId} {l c:AV} {M:St} {k:AV→St→Prop} (h:oP P j a t l c M k):eE P j t l c M k:=by
  unfold oP at h
  unfold eE
  split at h
  · rename_i hu
    rw [hu]
    dsimp only
    split at h
    · rename_i hi he
      rw [hi,he]
      dsimp only
      split at h
      · rename_i hi2
        rw [hi2]
        dsimp only
        refine jM h (fun n h=>?_)
        refine jM h (fun m h=>?_)
        obtain ⟨h1,h⟩:=h
        obtain ⟨h2,h⟩:=ac h
        refine aj ?_ ?_
        · simp only [Bool.and_eq_true] at h1 h2 ⊢
          exact ⟨⟨h1,h2.1⟩,h2.2⟩
        · refine nk h (fun z h=>?_)
          split at h
          · obtain ⟨h3,h⟩:=h
            dsimp only
            rw [h3]
            exact h
          · exact h.elim
      · exact h.elim
    · exact h.elim
  · exact h.elim
theorem sB {P:Program} {a:sq} {t:TypeId} {m key:AV} {ok:Bool} {M:St} {k:AV→St→Prop} (h:oQ P a t m key ok M k):fx P t m key ok M k:=by
  unfold oQ at h
  unfold fx
  split at h
  · rename_i hu
    rw [hu]
    dsimp only
    split at h
    · dsimp only
      split at h
      · rename_i hob
        rw [hob]
        dsimp only
        split at h
        · obtain ⟨h1,h2⟩:=h
          exact h1 (fun r=>match r with
            | some i=>dJ M _ i fun a M'=>kB ok a true fun r=>k r M'
            | none=>gF P _ ok fun r=>k r M) (lX h2)
        · obtain ⟨h1,h2⟩:=h
          exact h1 (fun r=>match r with
            | some i=>dJ M _ i fun a M'=>kB ok a true fun r=>k r M'
            | none=>gF P _ ok fun r=>k r M) h2
      · exact h.elim
    · exact h.elim
  · exact h.elim
theorem nF {P:Program} {a:sq} {t:TypeId} {m key x:AV} {M:St} {K:St→Prop} (h:nC P a t m key x M K):ga P t m key x M K:=by
  unfold nC at h
  unfold ga
  split at h
  · rename_i hu
    rw [hu]
    dsimp only
    split at h
    · rename_i id
      dsimp only
      split at h
      · rename_i ks sz cells hole hob
        rw [hob]
        dsimp only
        obtain ⟨h1,h2,h3⟩:=ac h
        refine aj h1 ?_
        have h4:=h2 (C0 M id sz cells hole x K) h3
        refine ar.mono2 ch h4 (fun kv r h5=>?_)
        obtain ⟨h6,h7⟩:=ac h5
        refine aj h6 ?_
        cases r with
        | none=>exact h7
        | some i =>
          obtain ⟨h8,h9,h10⟩:=ac h7
          refine aj ?_ h10
          rw [Bool.and_eq_true]
          exact ⟨h8,h9⟩
      · exact h.elim
    · exact h.elim
  · exact h.elim
theorem pE {M:St} {x:AV} {X Y:Nat→Nat→Prop} (h:fU M x X) (hk:∀ id i,X id i→Y id i):fU M x Y:=by
  unfold fU at h ⊢
  split at h
  · split at h
    · exact hk _ _ h
    · exact h.elim
  · exact h.elim
theorem tJ {P:Program} {vs:List AV} {M:St} {k:AV→St→Prop} (h:yc P A pl o vs M k):iE P pl o vs M k:=by
  unfold yc at h
  split at h
  · exact h
  · split at h
    · rename_i ho
      unfold iE
      rw [ho]
      exact pE h (fun _ _ h=>su h)
    · rename_i ho
      unfold iE
      rw [ho]
      exact pE h (fun _ _ h=>rK h)
    · rename_i ho
      unfold iE
      rw [ho]
      exact sv h
    · rename_i ho
      unfold iE
      rw [ho]
      exact sB h
    · rename_i ho
      unfold iE
      rw [ho]
      exact nF h
    · rename_i ho
      unfold iE
      rw [ho]
      exact nF h
    · exact h.elim
theorem lY {S:St} {id:Nat} {K:St→Prop} (h:lv A S id K):ft S id K:=by
  unfold lv at h
  split at h
  · exact h
  · unfold ft
    split at h
    · rename_i hob
      rw [hob]
      dsimp only
      split at h
      · rename_i hk
        rw [hk]
        obtain ⟨h1,h2,h3,h4⟩:=ac h
        refine aj ?_ ?_
        · rw [Bool.and_eq_true]
          exact ⟨h1,h2⟩
        · rw [h3]
          exact h4
      · exact h.elim
    · rename_i hob
      rw [hob]
      dsimp only
      obtain ⟨h2,h3,h4⟩:=h
      refine aj h2 ?_
      rw [h3]
      exact h4
    · exact h.elim
theorem nG:∀ {ids:List Nat} {S:St} {K:St→Prop},rD A ids S K→jE ids S K
  | [],_,_,h=>h
  | _::_,_,_,h=>ar.mono jT (lY h) (fun _ h=>nG h)
theorem nH {S:St} {id:Nat} {K:St→Prop} (h:nD A S id K):gQ S id K:=by
  unfold nD at h
  split at h
  · exact h
  · unfold gQ
    split at h
    · rename_i hob
      rw [hob]
      dsimp only
      rw [h.1]
      exact h.2
    · exact h.elim
theorem lZ:∀ {ids:List Nat} {S:St} {K:St→Prop},oR A ids S K→hH ids S K
  | [],_,_,h=>h
  | _::_,_,_,h=>ar.mono kV (nH h) (fun _ h=>lZ h)
theorem rL {id:Nat} {S:St} {K:St→Prop} (h:rE A pl id S K):gK pl id S K:=by
  unfold rE at h
  unfold gK
  split at h
  · rename_i hc
    rw [hc]
    exact h
  · rename_i hc
    rw [hc]
    dsimp only
    refine ar.mono (gy _ _) (nG h) (fun S1 h=>?_)
    split at h
    · rename_i hc
      rw [hc]
      exact h
    · rename_i hc
      rw [hc]
      exact lZ h
theorem xI (hC:rJ C) {vs:List AV} {M:St} {k:AV→St→Prop} (h:xE C A o vs M k):iK C o vs M k:=by
  unfold xE at h
  split at h
  · rename_i t X Y l c ho
    split at h
    · unfold iK
      rw [ho]
      exact j7 h
    · exact h
  · rename_i c fid first cap as ho
    unfold iK
    rw [ho]
    dsimp only
    split at h
    · rename_i x hcal
      rw [hcal]
      obtain ⟨h1,h⟩:=ac h
      refine aj h1 ?_
      split at h
      · obtain ⟨h2,h3⟩:=h
        obtain ⟨r0,o0,⟨e1,e2⟩,h4⟩:=hC.det.scall _ _ _ _ h2
        subst e1 e2
        exact h4 _ h3
      · exact h
    · exact h.elim
  · rename_i hne hne2
    have h':=wv h
    unfold iK
    split
    · rename_i t X Y l c ho
      exact absurd rfl (hne t X Y l c ho)
    · rename_i c fid first cap as ho
      exact absurd rfl (hne2 c fid first cap as ho)
    · exact h'
theorem zp (hC:rJ C) {vs:List AV} {M:St} {k:AV→St→Prop} (h:Am C A pl o vs M k):jF C pl o vs M k:=by
  unfold Am at h
  unfold jF
  split at h
  · rename_i hw
    rw [hw]
    exact tJ h
  · rename_i hw
    rw [hw]
    exact xI hC h
theorem xJ (hC:rJ C) {S:St} {K:St→Prop} (h:An C A pl o S K):lJ C pl o S K:=ar.mono aS h (fun _ h=>zp hC h)
theorem zq {S:St} {K:St→Prop} (h:BB C A pl o S K):t6 C pl o S K:=ar.mono aS h (fun _ h=>tJ h)
theorem zr {S:St} {K:St→Prop} (h:BC C o S K):yG C o S K:=ar.mono aS h (fun _ h=>As h)
theorem Au (hC:rJ C) {S:St} {K:St→Prop} (h:Ca C A pl o S K):t7 C pl o S K:=by
  refine ar.mono (vZ hC.det) (K:=km A o K) ?_ (fun _ h=>ir h)
  unfold Ca at h
  unfold t7
  split at h
  · rename_i hc
    rw [hc]
    exact tE h
  · rename_i hc
    rw [hc]
    exact tH hC h
  · rename_i hc
    rw [hc]
    exact zo h
  · rename_i h0 h1 h2
    have:=ww hC h
    split
    · exact absurd (by assumption) h0
    · exact absurd (by assumption) h1
    · exact absurd (by assumption) h2
    · exact this
theorem qc (hC:rJ C) {S:St} {K:St→Prop} (h:BD C A pl o S K):zN C pl o S K:=by
  unfold BD at h
  unfold zN
  split at h
  · rename_i hw
    rw [hw]
    exact ar.mono vX (zq h) (fun _ h=>ir h)
  · rename_i hw
    rw [hw]
    exact Au hC h
theorem rM (hC:rJ C) {S:St} {K:St→Prop} (h:wj C A pl o S K):rU C pl o S K:=by
  unfold wj at h
  split at h
  · rename_i hc
    refine ar.mono (eO hC.det) (K:=km A o K) ?_ (fun _ h=>ir h)
    unfold rU
    rw [hc]
    exact tE h
  · rename_i hc
    refine ar.mono (eO hC.det) (K:=km A o K) ?_ (fun _ h=>ir h)
    unfold rU
    rw [hc]
    exact tH hC h
  · rename_i hc
    refine ar.mono (eO hC.det) (K:=km A o K) ?_ (fun _ h=>ir h)
    unfold rU
    rw [hc]
    exact xJ hC h
  · rename_i hc
    unfold rU
    rw [hc]
    exact h
  · rename_i hc
    refine ar.mono (eO hC.det) (K:=km A o K) ?_ (fun _ h=>ir h)
    unfold rU
    rw [hc]
    exact zr h
  · rename_i h0 h1 h2 h4 h5
    refine ar.mono (eO hC.det) (K:=km A o K) ?_ (fun _ h=>ir h)
    unfold rU
    split
    · exact absurd (by assumption) h0
    · exact absurd (by assumption) h1
    · exact absurd (by assumption) h2
    · exact absurd (by assumption) h4
    · exact absurd (by assumption) h5
    · split at h
      · exact False.elim h
      · rename_i hb
        rw [hb]
        exact ww hC h
theorem Bi (hC:rJ C) {all:Array Oper} {S:St} {K:St→Prop} (h:DI C A pl all o S K):ag C pl all o S K:=by
  unfold DI at h
  unfold ag
  split at h
  · rename_i hg
    rw [hg]
    obtain ⟨h1,h⟩:=ac h
    exact aj h1 (rM hC h)
  · rename_i j want hg
    rw [hg]
    dsimp only
    split at h
    · exact False.elim h
    · rename_i d hd
      rw [hd]
      dsimp only
      refine ao.mono cq h (fun b S1 h=>?_)
      have key:∀ {S:St},bm (fV pl all o S) (wj C A pl o S K)→l_ C pl all o S K:=by
        intro S h
        obtain ⟨h1,h⟩:=ac h
        exact aj h1 (rM hC h)
      unfold gsel at h ⊢
      split at h
      · exact key h
      · exact key h
      · exact h
theorem yf (hC:rJ C) {ai:Array Oper} {i:Nat} {S:St} {K:St→Prop} (h:CM C A pl ai i S K):sN C pl ai i S K:=by
  unfold CM at h
  unfold sN
  split at h
  · exact False.elim h
  · rename_i o ho
    rw [ho]
    exact Bi hC h
theorem wx {S2 S1:St} {X:Prop} (h:S2=S1∧X):o6 S2 S1 X:=by
  unfold o6
  split
  · exact h.2
  · exact h
theorem uU (hC:rJ C) {ai:Array Oper} {ws:List Nat}:∀ {n a:Nat} {listed:Array Bool} {t:PT} {S:St} {K:St→Prop},gM pl ai ws n a listed=some t→oT C A pl ai t none S K→gq C pl ai ws n listed S K
  | 0,a,listed,t,S,K,hp,h=>by
    unfold gM at hp
    unfold gq
    split at hp
    · cases hp
      rename_i hr
      rw [hr]
      exact h
    · cases hp
  | n + 1,a,listed,t,S,K,hp,h=>by
    unfold gM at hp
    unfold gq
    split at hp
    · cases hp
      rename_i hr
      rw [hr]
      exact h
    · rename_i r rs hr
      rw [hr]
      dsimp only
      have step:∀ {k b:Nat} {u:PT} {S:St} {K:St→Prop},gM pl ai ws n b (listed.setIfInBounds k true)=some u→(CM C A pl ai k S fun S'=>oT C A pl ai u none S' K)→sN C pl ai k S fun S'=>gq C pl ai ws n (listed.setIfInBounds k true) S' K :=
        fun hj h=>ar.mono (dU hC.det) (yf hC h) (fun _ h=>uU hC hj h)
      have alts:∀ {b:Nat} {is:List Nat} {u:PT} {S S1:St} {K:St→Prop} {X:Prop},lV (fun i=>gM pl ai ws n b (listed.setIfInBounds i true)) is=some u→oT C A pl ai u (some (S1,X)) S K →
          wS (fun i K'=>sN C pl ai i S fun S'=>gq C pl ai ws n (listed.setIfInBounds i true) S' K') is S1 X:=by
        intro b is
        induction is with
        | nil =>
          intro u S S1 K X hu h
          unfold lV at hu
          cases hu
          exact h
        | cons i is ih =>
          intro u S S1 K X hu h
          unfold lV at hu
          split at hu
          · rename_i v hv
            split at hu
            · rename_i w hw
              cases hu
              refine ar.mono (ar.bind (dU hC.det) (fun S'=>dL hC.det _ _ _)) (step hv h) (fun S2 h=>?_)
              exact wx ⟨h.1,ih hw h.2⟩
            · cases hu
          · cases hu
      split at hp
      · rename_i k hk
        rw [hk]
        dsimp only
        split at hp
        · cases hp
          rename_i u hj
          exact step hj h
        · cases hp
      · rename_i hk
        rw [hk]
        dsimp only
        split at hp
        · split at hp
          · cases hp
            rename_i u hj
            refine ar.mono (ar.bind (dU hC.det) (fun S'=>dL hC.det _ _ _)) (step hj h) (fun _ h=>?_)
            exact h
          · cases hp
        · split at hp
          · rename_i b _ _
            unfold lV at hp
            split at hp
            · rename_i v hv
              split at hp
              · rename_i w hw
                cases hp
                refine ar.mono (ar.bind (dU hC.det) (fun S'=>dL hC.det _ _ _)) (step hv h) (fun S1 h=>?_)
                exact alts hw h
              · cases hp
            · cases hp
          · cases hp
theorem Av (hC:rJ C) {ai:Array Oper} {ws:List Nat}:∀ {n:Nat} {listed:Array Bool} {t:PT} {S:St} {K:St→Prop},tA pl ai ws n listed=some t→oT C A pl ai t none S K→pN C pl ai ws n listed S K
  | 0,listed,t,S,K,hp,h=>uU hC (n:=0) hp h
  | n + 1,listed,t,S,K,hp,h=>by
    unfold tA at hp
    unfold pN
    split at hp
    · rename_i i hi
      rw [hi]
      dsimp only
      split at hp
      · cases hp
        rename_i u hj
        exact ar.mono (dU hC.det) (yf hC h) (fun _ h=>Av hC hj h)
      · cases hp
    · rename_i hi
      rw [hi]
      exact uU hC hp h
theorem Aw (hC:rJ C) {ai:Array Oper} {t:PT} {S:St} {K:St→Prop} (hp:rF pl ai=some t) (h:oT C A pl ai t none S K):rX C pl ai S K:=by
  unfold rF at hp
  unfold rX
  split at hp
  · cases hp
  · rename_i hn
    refine aj hn ?_
    split at hp
    · rename_i hc
      rw [hc]
      exact uU hC hp h
    · rename_i hc
      rw [hc]
      exact Av hC hp h
theorem nI:∀ {x y:PT},xA x y=true→x=y
  | .done,.done,_=>rfl
  | .go i t,.go j u,h=>by
    unfold xA at h
    rw [Bool.and_eq_true] at h
    rw [Nat.eq_of_beq_eq_true h.1,nI h.2]
  | .alt i t r,.alt j u s,h=>by
    unfold xA at h
    rw [Bool.and_eq_true,Bool.and_eq_true] at h
    rw [Nat.eq_of_beq_eq_true h.1,nI h.2.1,nI h.2.2]
  | .done,.go _ _,h=>by cases h
  | .done,.alt _ _ _,h=>by cases h
  | .go _ _,.done,h=>by cases h
  | .go _ _,.alt _ _ _,h=>by cases h
  | .alt _ _ _,.done,h=>by cases h
  | .alt _ _ _,.go _ _,h=>by cases h
end
open Go.RowKit (Below)
def di (P:Program) (c:Code) (S:St) (K:Ex→St→Prop):Prop :=
  ∃ e S',(∀ (r:Option Nat) (G:Gh) (E:Env) (a:Act) (w:World) (Q:Exit→Act→World→Prop),af G pn E S w→TR E S.t a→zZ G (fun e' S''=>e'=e∧S''=S') Q→c.wpIn (rd r) 0 P Q a w)∧K e S'
theorem di.mono {P:Program} {c:Code} {S:St} {K K':Ex→St→Prop} (h:di P c S K) (hk:∀ e S',K e S'→K' e S'):di P c S K' :=
  let ⟨e,S',h1,h2⟩:=h
  ⟨e,S',h1,hk _ _ h2⟩
theorem wy (cfg:lE):rJ (fJ cfg):=⟨kZ cfg⟩
theorem pF {P:Program} {op:BinOp} {t e:TypeId} {rows:List (List AV)} {E:Env} {u:Value} (hop:Cb op=true) (hu:P.underlying t=some (.slice e)) (hx:VR E (.sl rows) u) (w:World) (X Y:Operand) :
    ∃ b,(do eqGuard op t X Y u (.slice none 0 0); binOp op t u (.slice none 0 0):Sem Value).run P w=.ok (.bool b) w∧((b=tz op∧rows=[])∨b=!(tz op)):=by
  have h0:∃ b,(∀ d:Nat,(Op.equalIn (d + 1) t u (.slice none 0 0)).run P w=.ok b w)∧((b=true∧rows=[])∨b=false):=by
    cases hx with
    | sln=>exact ⟨true,fun d=>by unfold Op.equalIn; rw [Sem.run_bind,run_underlying hu]; rfl,.inl ⟨rfl,rfl⟩⟩
    | sle _ a cap=>exact ⟨false,fun d=>by unfold Op.equalIn; rw [Sem.run_bind,run_underlying hu]; rfl,.inr rfl⟩
    | sl us h1 h2 h3 h4 h5 h6 h7=>exact ⟨false,fun d=>by unfold Op.equalIn; rw [Sem.run_bind,run_underlying hu]; rfl,.inr rfl⟩
  obtain ⟨b,hb,hr⟩:=h0
  have hn:zQ u=true:=by cases hx <;> rfl
  have he:(Op.equal t u (.slice none 0 0)).run P w=.ok b w:=od hb
  rw [fY hn]
  cases op with
  | eql =>
    refine ⟨b,?_,hr⟩
    have:binOp .eql t u (.slice none 0 0)=(do pure (.bool (← Op.equal t u (.slice none 0 0)))):=by cases hx <;> rfl
    simp [this,he]
  | neq =>
    refine ⟨!b,?_,?_⟩
    · have:binOp .neq t u (.slice none 0 0)=(do pure (.bool (!(← Op.equal t u (.slice none 0 0))))):=by cases hx <;> rfl
      simp [this,he]
    · rcases hr with ⟨rfl,hr⟩ | rfl
      · exact .inl ⟨rfl,hr⟩
      · exact .inr rfl
  | _=>cases hop
section
variable {G:Gh} {C:Ctx} {A:cz} {pl:bk}
theorem jZ (hO:rJ C) (hC:cX C) {rr:Option Nat} {all:Array Oper} {Q:Exit→Act→World→Prop}:∀ {ai:List Oper} {E:Env} {S:St} {w:World} {a:Act} {K:St→Prop},af G pn E S w→TR E S.t a→uR C A pl all ai S K →
    (∀ S' E' a' w',K S'→af G pn E' S' w'→TR E' S'.t a'→Q .normal a' w')→wpListIn (rd rr) 0 C.P all Q ai a w
  | [],E,S,w,a,K,hM,ht,h,hQ=>hQ _ _ _ _ h hM ht
  | o::rest,E,S,w,a,K,hM,ht,h,hQ=>by
    have step:∀ {S1:St},af G pn E S1 w→TR E S1.t a→Region.wanted o (yielded all a.tmps)=true→(BD C A pl o S1 fun S'=>uR C A pl all rest S' K)→wpListIn (rd rr) 0 C.P all Q (o::rest) a w:=by
      intro S1 hM1 ht1 hw h
      unfold wpListIn
      rw [if_pos hw]
      refine ta (xd (qc hO h)) (ot hC hM1 ht1 (qc hO h) _ _ (fun S' E' a' w' hk hS htr=>?_))
      exact jZ hO hC hS htr hk hQ
    unfold uR at h
    split at h
    · rename_i hg
      have hw:Region.wanted o (yielded all a.tmps)=true:=by unfold Region.wanted; rw [hg]
      split at h
      · unfold wpListIn
        rw [if_pos hw]
        unfold BE at h
        split at h
        · rename_i op t x yt ho
          split at h
          · rename_i e hu
            obtain ⟨c,h,hc⟩:=cb h ht
            split at h
            · rename_i rows
              obtain ⟨hop,h1,h2⟩:=ac h
              obtain ⟨b,hrun,hbr⟩:=pF hop hu hc w x (.const (.slice none 0 0))
              have hex:(execOp a.eval o).run C.P w=.ok (.value (.bool b)) w:=by
                have:(execOp a.eval o)=(do pure (.value (← (do eqGuard op t x (.const (.slice none 0 0)) (a.eval x) (.slice none 0 0); binOp op t (a.eval x) (.slice none 0 0):Sem Value)))):=by
                  unfold execOp
                  rw [ho]
                  simp [Act.eval]
                rw [this,Sem.run_bind,hrun]
                rfl
              refine ta (fun c hc=>by rw [ho] at hc; cases hc) (cp hex ?_)
              have h3:bg o.dst (.v (.bool b)) S fun S'=>uR C A pl all rest S' K:=by
                rcases hbr with ⟨rfl,hr⟩ | rfl
                · exact h1 hr
                · exact h2
              rw [aA] at h3
              exact jZ hO hC (hM.congr bU bV b4) (ht.put (.v _ _ rfl)) h3 hQ
            · exact False.elim h
          · exact False.elim h
        · exact False.elim h
      · exact step hM ht hw h
    · rename_i j want hg
      split at h
      · exact False.elim h
      · rename_i d hd
        obtain ⟨b,S1,h,hb,hM1,ht1⟩:=gS hM ht h
        rcases iO hg (jN hd hb) h with ⟨hw,h⟩ | ⟨hw,h⟩
        · exact step hM1 ht1 hw h
        · rw [aA] at h
          unfold wpListIn
          rw [if_neg (by rw [hw]; exact fun h=>by cases h)]
          exact ⟨fun _ _=>trivial,jZ hO hC (hM1.congr bU bV b4) (ht1.put (nm _)) h hQ⟩
end
theorem wz {A:B7} {id:Nat} {S:St} {K:St→Prop} (h:zj A id S K):∃ S',cL S S'∧K S':=by
  unfold zj at h
  split at h
  · exact iU h
  · exact ⟨S,.refl S,h⟩
theorem wA {cfg:lE} (hmix:cfg.P.follows .mixedOrders=true) {A:B7} {pl:bk}:∀ (c:Code) {S:St} {K:Ex→St→Prop},iq pl A.ord c=true→rG (fJ cfg) (di cfg.P) A pl c S K →
    ∀ (r:Option Nat) (G:Gh) (E:Env) (a:Act) (w:World) (Q:Exit→Act→World→Prop),af G pn E S w→TR E S.t a→zZ G K Q→c.wpIn (rd r) 0 cfg.P Q a w:=by
  have hC:=wy cfg
  intro c
  induction c with
  | skip=>exact fun _ h r G E a w Q hM ht hQ=>wpIn_skip (hQ .nrm _ E _ _ h hM ht)
  | region id ai draw =>
    intro S K hB h r G E a w Q hM ht hQ
    cases draw with
    | false =>
      refine wpIn_region_list (jZ hC (g3 cfg) hM ht h (fun S' E' a' w' hk hS htr=>?_))
      obtain ⟨S3,E3,hk,hS,htr⟩:=iN hS htr (rL hk)
      obtain ⟨S2,hw,hk⟩:=wz hk
      obtain ⟨E2,hM2,ht2⟩:=hw G E3 a' w' hS htr
      exact hQ .nrm _ _ _ _ hk hM2 ht2
    | true =>
      refine jt hmix pl id ai S (fun e S'=>e=.nrm∧zj A id S' (K .nrm)) ?_ r G E a w Q hM ht (fun e S' E' a' w' hk hS htr=>?_)
      · unfold iq at hB
        have h':(match nB A.ord id with
        | some is=>bm (o7 pl ai) (rY (fJ cfg).P (bN ai.toList) S fun S1=>oT (fJ cfg) (zi A id) pl ai is none S1 fun S'=>hJ (bN ai.toList) S' (rE (zi A id) pl id S' fun S''=>zj A id S'' (K .nrm)))
        | none=>ae 440):=h
        split at hB
        · rename_i is js h1 h2
          rw [h1] at h'
          dsimp only at h'
          obtain ⟨h3,h'⟩:=ac h'
          refine aj h3 ?_
          refine ar.mono q9 h' (fun S1 h=>?_)
          rw [nI hB] at h
          refine ar.mono (q_ hC.det) (Aw hC h2 h) (fun S' h=>?_)
          obtain ⟨h4,h5⟩:=jq h
          exact h5 _ (ar.mono ln (rL h4) (fun S'' h=>⟨rfl,h⟩))
        · cases hB
      · obtain ⟨rfl,hk⟩:=hk
        obtain ⟨S2,hw,hk⟩:=wz hk
        obtain ⟨E2,hM2,ht2⟩:=hw G E' a' w' hS htr
        exact hQ .nrm _ _ _ _ hk hM2 ht2
  | seq x y ihx ihy =>
    intro S K hB h r G E a w Q hM ht hQ
    unfold iq at hB
    rw [Bool.and_eq_true] at hB
    refine wpIn_seq (ihx hB.1 h r G E a w _ hM ht (fun e S' E' a' w' hk hS htr=>?_))
    cases e with
    | nrm =>
      dsimp only at hk
      split at hk
      · obtain ⟨S2,h1,⟨e2,S3,h2,h3,h4⟩,h5⟩:=iU hk
        subst h3 h4
        obtain ⟨E2,hM2,ht2⟩:=((lx _ _).trans h1) G E' a' w' hS htr
        refine h2 r G E2 a' w' Q hM2 ht2 (fun e' S'' E'' a'' w'' he hS' ht'=>?_)
        obtain ⟨rfl,rfl⟩:=he
        exact hQ _ _ _ _ _ h5 hS' ht'
      · exact ihy hB.2 hk r G E' a' w' Q hS htr hQ
    | ex i=>exact hQ (.ex i) _ _ _ _ hk hS htr
    | ret=>exact hQ .ret _ _ _ _ hk hS htr
  | cond c x y ihx ihy =>
    intro S K hB h r G E a w Q hM ht hQ
    unfold iq at hB
    rw [Bool.and_eq_true] at hB
    obtain ⟨b,S1,h1,h2,h3,h4⟩:=kO hM ht h
    cases b with
    | true=>exact wpIn_cond_true h2 (ihx hB.1 h1 r G E a w Q h3 h4 hQ)
    | false=>exact wpIn_cond_false h2 (ihy hB.2 h1 r G E a w Q h3 h4 hQ)
  | block id c ih =>
    intro S K hB h r G E a w Q hM ht hQ
    refine wpIn_block (ih hB h r G E a w _ hM ht (fun e S' E' a' w' hk hS htr=>?_))
    cases e with
    | nrm=>exact hQ .nrm _ _ _ _ hk hS htr
    | ret=>exact hQ .ret _ _ _ _ hk hS htr
    | ex i =>
      show Exit.inBlock id Q (.exit i) a' w'
      unfold Exit.inBlock
      dsimp only at hk
      split at hk
      · rename_i hb
        have:=Nat.eq_of_beq_eq_true hb
        subst this
        simp only [if_pos]
        exact hQ .nrm _ _ _ _ hk hS htr
      · rename_i hb
        have hne:¬ i=id:=fun e=>by subst e; simp at hb
        simp only [if_neg hne]
        exact hQ (.ex i) _ _ _ _ hk hS htr
  | loop c ih =>
    intro S K hB h r G E a w Q hM ht hQ
    have h':(match nB A.lps (lW c) with
    | some (W,L,e,S1)=>Af L (wk W S) fun S2=>((fJ cfg).loop pl c S2 fun e' S'=>e'=e∧S'=S1)∧K e S1
    | none=>(fJ cfg).loop pl c S K):=h
    split at h'
    · obtain ⟨S2,h1,h2,h3⟩:=iU h'
      obtain ⟨E2,hM2,ht2⟩:=((lx _ _).trans h1) G E a w hM ht
      refine g4 cfg pl c S2 _ h2 r G E2 a w Q hM2 ht2 (fun e' S'' E'' a'' w'' he hS' ht'=>?_)
      obtain ⟨rfl,rfl⟩:=he
      exact hQ _ _ _ _ _ h3 hS' ht'
    · exact g4 cfg pl c S K h' r G E a w Q hM ht hQ
  | exit id=>exact fun _ h r G E a w Q hM ht hQ=>wpIn_exit (hQ (.ex id) _ E _ _ h hM ht)
  | ret=>exact fun _ h r G E a w Q hM ht hQ=>wpIn_ret (hQ .ret _ E _ _ h hM ht)
  | _=>exact fun _ h=>False.elim h
theorem di.of {cfg:lE} (hmix:cfg.P.follows .mixedOrders=true) {pl:bk} {c:Code} {S S1:St} {e:Ex} {K:Ex→St→Prop} {A:B7} {we:List (Nat×(Wk×Le))} (hB:iq pl A.ord c=true)
    (h:Cd (fJ cfg) (di cfg.P) A pl we c S (fun e' S'=>e'=e∧S'=S1)) (hk:K e S1):di cfg.P c S K:=by
  refine ⟨e,S1,fun r G E a w Q hM ht hQ=>?_,hk⟩
  refine wA hmix c hB h r G E a w Q hM ht (fun e' S' E' a' w' hk hS htr=>?_)
  dsimp only at hk
  split at hk
  · obtain ⟨S2,h1,rfl,rfl⟩:=iU hk
    obtain ⟨E2,hM2,ht2⟩:=((lx _ _).trans h1) G E' a' w' hS htr
    exact hQ _ _ _ _ _ ⟨rfl,rfl⟩ hM2 ht2
  · obtain ⟨rfl,rfl⟩:=hk
    exact hQ _ _ _ _ _ ⟨rfl,rfl⟩ hS htr
theorem fQ.round {cfg:lE} {pl:bk} {c:Code} {S:St} {K:Ex→St→Prop}
    (h:di cfg.P c S fun e S'=>match e with
      | .nrm=>fQ cfg.P pl c S' K
      | .ex i=>K (.ex i) S'
      | .ret=>K .ret S'):fQ cfg.P pl c S K:=by
  obtain ⟨e1,S1,h2,h1⟩:=h
  have run:∀ (e:Ex) (S3:St) (n:Nat),(∀ (r:Option Nat) (G:Gh) (E:Env) (a:Act) (w:World) (Q:Exit→Act→World→Prop),af G pn E S1 w→TR E S1.t a→zZ G (fun e' S''=>e'=e∧S''=S3) Q→Exit.then (Code.roundsIn (rd r) 0 cfg.P c Q n) Q (A5 e1) a w) →
      ∀ (r:Option Nat) (G:Gh) (E:Env) (a:Act) (w:World) (Q:Exit→Act→World→Prop),af G pn E S w→TR E S.t a→zZ G (fun e' S''=>e'=e∧S''=S3) Q→Code.roundsIn (rd r) 0 cfg.P c Q (n + 1) a w:=by
    intro e S3 n hn r G E a w Q hM ht hQ
    refine h2 r G E a w _ hM ht (fun e' S' E' a' w' hk hS htr=>?_)
    obtain ⟨rfl,rfl⟩:=hk
    exact hn r G E' a' w' Q hS htr hQ
  cases e1 with
  | nrm =>
    obtain ⟨n,e,S',hl,hk⟩:=h1
    exact ⟨n + 1,e,S',run e S' n (fun r G E a w Q hM ht hQ=>hl r G E a w Q hM ht hQ),hk⟩
  | ex i=>exact ⟨1,.ex i,S1,run _ _ 0 (fun r G E a w Q hM ht hQ=>hQ _ _ _ _ _ ⟨rfl,rfl⟩ hM ht),h1⟩
  | ret=>exact ⟨1,.ret,S1,run _ _ 0 (fun r G E a w Q hM ht hQ=>hQ _ _ _ _ _ ⟨rfl,rfl⟩ hM ht),h1⟩
def rk {σ τ:Type} (Sf:σ→St) (out:τ→Ex×St) (r:σ⊕τ) (e:Ex) (S':St):Prop :=
  match r with
  | .inl s'=>e=.nrm∧S'=Sf s'
  | .inr t=>e≠.nrm∧e=(out t).1∧S'=(out t).2
theorem Ei {σ τ:Type} {Sf:σ→St} {out:τ→Ex×St} {s:σ}:rk Sf out (.inl s) .nrm (Sf s):=⟨rfl,rfl⟩
def pk {τ:Type} (out:τ→Ex×St) (t:τ) (e:Ex) (S':St):Prop:=e=(out t).1∧S'=(out t).2
theorem fQ.iter {cfg:lE} {pl:bk} {c:Code} {σ τ:Type} {step:σ→Option (σ⊕τ)} (Sf:σ→St) (out:τ→Ex×St)
    (hs:∀ s r,step s=some r→di cfg.P c (Sf s) (rk Sf out r)):∀ (n:Nat) (s:σ) (t:τ),A.iter step n s=some t→fQ cfg.P pl c (Sf s) fun e S'=>e=(out t).1∧S'=(out t).2
  | 0,s,t,h=>by cases h
  | n + 1,s,t,h=>by
    unfold A.iter at h
    split at h
    · cases h
    · rename_i s' hs'
      refine fQ.round ((hs s _ hs').mono fun e S' h1=>?_)
      obtain ⟨rfl,rfl⟩:=h1
      exact fQ.iter Sf out hs n s' t h
    · rename_i t' ht'
      cases h
      refine fQ.round ((hs s _ ht').mono fun e S' h1=>?_)
      obtain ⟨h0,h1,h2⟩:=h1
      cases e with
      | nrm=>exact absurd rfl h0
      | ex i=>exact ⟨h1,h2⟩
      | ret=>exact ⟨h1,h2⟩
theorem cC.le {P:Program} {f:Nat} {as as':List AV} {K:AV→Prop} (h:cC P f as' K) (hl:kp as as'):cC P f as K:=by
  obtain ⟨r,⟨h1,h2⟩,h3⟩:=h
  exact ⟨r,⟨h1,fun F w us hF hg hv=>h2 F w us hF hg (hl.vrs hv)⟩,h3⟩
theorem cC.to {P:Program} {f:Nat} {as:List AV} {r:AV} (h:cC P f as fun x=>ko x r):cC P f as fun x=>x=r:=by
  obtain ⟨x,⟨h1,h2⟩,h3⟩:=h
  refine ⟨r,⟨h1,fun F w us hF hg hv=>(h2 F w us hF hg hv).mono ?_⟩,rfl⟩
  rintro e w' ⟨v,F',h4,h5,h6⟩
  exact ⟨v,F',h4,h3 _ _ h5,h6⟩
def C1 (x:Bool):AV:=.v (.bool x)
def oS {α:Type} (f:α→List AV) (x:α):AV:=.agg (f x)
def ad (k:IntKind) (x:Int):List AV:=[.v (.int k x)]
def ju (x:Bool):List AV:=[.v (.bool x)]
def ve {α:Type} (f:α→List AV) (l:List α):List AV:=[.sl (l.map f)]
theorem mK {k:IntKind} {a b:Int} (h:(a==b)=true):AV.v (.int k a)=AV.v (.int k b):=by rw [eq_of_beq h]
theorem tK {i:Nat}:Ex.ex i≠Ex.nrm:=fun h=>by cases h
theorem Ce:Ex.ret≠Ex.nrm:=fun h=>by cases h
theorem Bj {α:Type} (f:α→List AV) (l:List α):AV.v (.int .i64 (((l.map f).length:Nat):Int))=AV.v (.int .i64 (l.length:Int)):=by rw [List.length_map]
theorem uV {α:Type} (f:α→List AV) {l:List α} {i:Int} {x:α} (h:ba l i=some x):AU (l.map f) i=some (f x):=by
  unfold ba at h
  unfold AU
  split
  · rename_i h0
    rw [if_pos h0] at h
    rw [List.getElem?_map,h]
    rfl
  · rename_i h0
    rw [if_neg h0] at h
    cases h
theorem ep {α:Type} (f:α→List AV) {l:List α} {i:Int} {x:α} (h:ba l i=some x):(l.map f)[i.toNat]?=some (f x):=by
  unfold ba at h
  split at h
  · rw [List.getElem?_map,h]
    rfl
  · cases h
theorem Ax {α:Type} (f:α→List AV) (l:List α) {sz:Nat} (hf:∀ x,Nat.beq (f x).length sz=true):eA sz (l.map f)=true:=by
  cases l with
  | nil=>rfl
  | cons x l=>exact hf x
theorem xK {α:Type} (f:α→List AV) (l:List α) (hf:∀ x,(f x).all iX=true):bd (l.map f)=true:=by
  unfold bd
  rw [List.all_eq_true]
  intro r hr
  obtain ⟨x,_,rfl⟩:=List.mem_map.1 hr
  exact hf x
theorem fD {α:Type} (f:α→List AV) (l m:List α):l.map f++m.map f=(l++m).map f:=List.map_append.symm
theorem gf {α:Type} (f:α→List AV) (l:List α) (i:Nat) (x:α):(l.map f).set i (f x)=(l.set i x).map f:=(List.map_set).symm
theorem uW {α:Type} (f:α→List AV) (n:Nat) (x:α):List.replicate n (f x)=(List.replicate n x).map f:=List.map_replicate.symm
theorem uX {α:Type} (f:α→List AV) (l:List α) (i off a b:Nat):AV.msl i off a ((l.map f).length - b)=AV.msl i off a (l.length - b):=by rw [List.length_map]
theorem xL {α:Type} {f:α→List AV} {l:List α} {h:Int} (e:(decide (0≤h)&&decide (h≤(l.length:Int)))=true):(decide (0≤h)&&decide (h≤(((l.map f).length:Nat):Int)))=true:=by rw [List.length_map]; exact e
theorem yg {α:Type} {f:α→List AV} {l:List α} {k m:Nat} (h:Nat.ble (l.length * k) m=true):Nat.ble ((l.map f).length * k) m=true:=by rw [List.length_map]; exact h
theorem f5 {α:Type} {f:α→List AV} {l:List α} {k m n:Nat} (h:Nat.ble ((l.length + n) * k) m=true):Nat.ble (((l.map f).length + n) * k) m=true:=by rw [List.length_map]; exact h
theorem lz {α:Type} {f:α→List AV} {l l':List α} {k m:Nat} (h:Nat.ble ((l.length + l'.length) * k) m=true):Nat.ble (((l.map f).length + (l'.map f).length) * k) m=true:=by rw [List.length_map,List.length_map]; exact h
def aO {α:Type} (f:α→List AV) (c:Option (List α)):Option (List (List AV)):=c.map fun l=>l.map f
section
variable {α:Type} (f:α→List AV)
theorem C2 (cs:List (Option (List α))):AV.v (.int .i64 (((cs.map (aO f)).length:Nat):Int))=AV.v (.int .i64 (cs.length:Int)):=by rw [List.length_map]
theorem jw {β:Type} {l:List β} {i:Int} {x:β} (h:ba l i=some x):0≤i∧l[i.toNat]?=some x:=by
  unfold ba at h
  split at h
  · rename_i h0
    exact ⟨h0,h⟩
  · cases h
theorem Ay {cs:List (Option (List α))} {i:Nat} {x:Option (List α)} {r:List α} (h:cs[i]?=some x) (h1:x=some r):(cs.map (aO f))[i]?=some (some (r.map f)):=by
  rw [List.getElem?_map,h,h1]
  rfl
theorem Cf {cs:List (Option (List α))} {i:Nat} {x:Option (List α)} (h:cs[i]?=some x) (h1:x=none):(cs.map (aO f))[i]?=some none:=by
  rw [List.getElem?_map,h,h1]
  rfl
theorem k6 {cs:List (Option (List α))} {i:Int} {x:Option (List α)} {r:List α} (h:ba cs i=some x) (h1:x=some r):(cs.map (aO f))[i.toNat]?=some (some (r.map f)):=Ay f (jw h).2 h1
theorem wB {cs:List (Option (List α))} {i:Int} {x:Option (List α)} (h:ba cs i=some x) (h1:x=none):(cs.map (aO f))[i.toNat]?=some none:=Cf f (jw h).2 h1
theorem C3 {cs:List (Option (List α))} {i:Nat} {x:Option (List α)} (h:cs[i]?=some x):Nat.blt i (cs.map (aO f)).length=true:=by
  have:i<cs.length:=(List.getElem?_eq_some_iff.1 h).1
  rw [List.length_map]
  exact Nat.blt_eq.mpr this
theorem dl {cs:List (Option (List α))} {i:Int} {x:Option (List α)} (h:ba cs i=some x):Nat.blt i.toNat (cs.map (aO f)).length=true:=C3 f (jw h).2
theorem kn {cs:List (Option (List α))} {i:Int} {x:Option (List α)} (h:ba cs i=some x):(decide (0≤i)&&Nat.blt i.toNat (cs.map (aO f)).length)=true:=by
  rw [Bool.and_eq_true]
  exact ⟨decide_eq_true (jw h).1,dl f h⟩
theorem zt {a b:Bool} (h:a=true) (k:b=true):(a&&b)=true:=by rw [h,k]; rfl
theorem DJ (i:Nat):Nat.beq i i=true:=Nat.beq_refl i
theorem d8 (cs:List (Option (List α))) (i:Nat) (r:List α):(cs.map (aO f)).set i (some (r.map f))=(cs.set i (some r)).map (aO f):=by
  rw [List.map_set]
  rfl
theorem Bl {cs:List (Option (List α))} {i:Nat} {x:Option (List α)} {r:List α} (h:cs[i]?=some x) (h1:x=some r):(cs.map (aO f)).set i (some (r.map f))=cs.map (aO f):=by
  have hs:=Ay f h h1
  apply List.ext_getElem?
  intro j
  rw [List.getElem?_set]
  split
  · rename_i hj
    subst hj
    rw [hs]
    split
    · rfl
    · rename_i hn
      exact absurd (List.getElem?_eq_some_iff.1 hs).1 hn
  · rfl
theorem xM {cs:List (Option (List α))} {i:Int} {x:Option (List α)} {r:List α} (h:ba cs i=some x) (h1:x=some r):(cs.map (aO f)).set i.toNat (some (r.map f))=cs.map (aO f):=Bl f (jw h).2 h1
theorem zu (n:Nat):List.replicate n (none:Option (List (List AV)))=(List.replicate n (none:Option (List α))).map (aO f):=by
  rw [List.map_replicate]
  rfl
end
theorem nJ {α:Type} {P:Program} (c:Prop) [Decidable c] (x y:Sem α):az P (if c then x else y)=if c then az P x else az P y:=by
  split <;> rfl
def Cg (f:Nat→Option Bool):List Nat→Option Bool
  | []=>some true
  | i::is=>match f i with
    | some e=>match Cg f is with
      | some s=>some (e&&s)
      | none=>none
    | none=>none
def Bm (P:Program):Nat→TypeId→Value→Value→Option Bool
  | 0,_,_,_=>none
  | n + 1,t,x,y =>
    match P.underlying t,x,y with
    | some .bool,.bool a,.bool b=>some (a==b)
    | some (.int _),.int k a,.int k' b=>if k=k' then some (a==b) else none
    | some .string,.string a,.string b=>some (a.toList==b.toList)
    | some (.struct fs),.agg xs,.agg ys=>match P.stoodInHeld t with
      | true=>none
      | false => fs.toList.foldr (fun f (r : Option Bool × Bool) => match f.name == "_", az P (part f.type xs f.offset), az P (part f.type ys f.offset) with
          | false,some a,some b=>match Bm P n f.type a b,r with
            | some e,(_,false)=>(some e,true)
            | some e,(some s,true)=>(some (e&&s),true)
            | _,_=>(none,true)
          | _,_,_=>(none,true)) (some true,false) |>.1
    | some (.array len e),.agg xs,.agg ys=>match az P (sizeOf e) with
      | some m=>Cg (fun i=>match az P (part e xs (i * m)),az P (part e ys (i * m)) with
        | some a,some b=>Bm P n e a b
        | _,_=>none) (List.range' 0 len)
      | none=>none
    | _,_,_=>none
theorem eK {P:Program} {t:TypeId} {d:TypeDesc} (h:P.underlying t=some d):az P (underlying t)=some d:=by
  unfold underlying
  simp [aV,program,az,h]
  rfl
theorem zv {P:Program} {t:TypeId} {fs:Array Field} {xs ys:Array Value} {d:Nat} (ht:P.underlying t=some (.struct fs)) (hp:P.stoodInHeld t=false) :
    az P (Op.equalIn (d + 1) t (.agg xs) (.agg ys))=az P (Op.eqFields d xs ys fs.toList):=by
  simp only [Op.equalIn,aV,eK ht,Option.bind_some]
  have hprog:az P program=some P:=rfl
  simp only [aV,hprog,Option.bind_some,hp,Bool.false_eq_true,if_false]
  rw [← Array.forIn_toList]
  generalize fs.toList=l
  clear ht
  induction l with
  | nil=>rfl
  | cons f l ih =>
    simp only [List.forIn_cons,Op.eqFields,aV,nJ]
    split
    · try simp only [aV]
      generalize az P (part f.type xs f.offset)=r1
      cases r1 with
      | none=>rfl
      | some a =>
        simp only [Option.bind_some]
        generalize az P (part f.type ys f.offset)=r2
        cases r2 with
        | none=>rfl
        | some b =>
          simp only [Option.bind_some]
          generalize az P (Op.equalIn d f.type a b)=r3
          cases r3 with
          | none=>rfl
          | some r =>
            cases r
            · rfl
            · simp only [Option.bind_some]
              exact ih
    · exact ih
def qd (d:Nat) (e:TypeId) (m:Nat) (xs ys:Array Value):List Nat→Sem Bool
  | []=>pure true
  | i::is=>do
    if !(← Op.equalIn d e (← part e xs (i * m)) (← part e ys (i * m))) then return false
    qd d e m xs ys is
theorem Az {P:Program} {t e:TypeId} {len m:Nat} {xs ys:Array Value} {d:Nat} (ht:P.underlying t=some (.array len e)) (hm:az P (sizeOf e)=some m) :
    az P (Op.equalIn (d + 1) t (.agg xs) (.agg ys))=az P (qd d e m xs ys (List.range' 0 len)):=by
  simp only [Op.equalIn,aV,eK ht,Option.bind_some,hm]
  simp only [Std.Legacy.Range.forIn_eq_forIn_range',Std.Legacy.Range.size,Nat.sub_zero,Nat.add_one_sub_one,Nat.div_one]
  generalize List.range' 0 len=l
  clear ht
  induction l with
  | nil=>rfl
  | cons i l ih =>
    simp only [List.forIn_cons,qd,aV,nJ]
    generalize az P (part e xs (i * m))=r1
    cases r1 with
    | none=>rfl
    | some a =>
      simp only [Option.bind_some]
      generalize az P (part e ys (i * m))=r2
      cases r2 with
      | none=>rfl
      | some b =>
        simp only [Option.bind_some]
        generalize az P (Op.equalIn d e a b)=r3
        cases r3 with
        | none=>rfl
        | some r =>
          cases r
          · rfl
          · simp only [Option.bind_some]
            exact ih
theorem oU {P:Program}:∀ (n d:Nat) {t:TypeId} {x y:Value} {b:Bool},n≤d→Bm P n t x y=some b→az P (Op.equalIn d t x y)=some b
  | 0,_,_,_,_,_,_,h=>by cases h
  | n + 1,0,_,_,_,_,hd,_=>by omega
  | n + 1,d + 1,t,x,y,b,hd,h=>by
    unfold Bm at h
    split at h
    · rename_i hu
      cases h
      simp only [Op.equalIn,aV,eK hu,Option.bind_some]
      rfl
    · rename_i hu
      split at h
      · rename_i hk
        cases h
        simp only [Op.equalIn,aV,eK hu,Option.bind_some]
        rw [if_pos hk]
        rfl
      · cases h
    · rename_i hu
      cases h
      simp only [Op.equalIn,aV,eK hu,Option.bind_some,← beq_toListBytes]
      rfl
    · rename_i fs xs ys hu
      split at h
      · cases h
      · rename_i hp
        rw [zv hu hp]
        have key : ∀ (l : List Field) (r : Option Bool) (m : Bool), l.foldr (fun f (r : Option Bool × Bool) => match f.name == "_", az P (part f.type xs f.offset), az P (part f.type ys f.offset) with
          | false,some a,some b=>match Bm P n f.type a b,r with
            | some e,(_,false)=>(some e,true)
            | some e,(some s,true)=>(some (e&&s),true)
            | _,_=>(none,true)
          | _,_,_=>(none,true)) (some true,false)=(r,m)→(m=false→l=[])∧∀ b,r=some b→az P (Op.eqFields d xs ys l)=some b:=by
          intro l
          induction l with
          | nil =>
            intro r m h
            cases h
            exact ⟨fun _=>rfl,fun b hb=>by cases hb; rfl⟩
          | cons f l ih =>
            intro r m h
            rw [List.foldr_cons] at h
            generalize hq:(l.foldr _ (some true,false):Option Bool×Bool)=q at h
            obtain ⟨r',m'⟩:=q
            obtain ⟨ih1,ih2⟩:=ih r' m' hq
            split at h
            · rename_i a b hn ha hb
              have hn' : f.name ≠ "_" := by simpa using hn
              have step:∀ e,Bm P n f.type a b=some e→az P (Op.eqFields d xs ys (f::l))=match e with | true=>az P (Op.eqFields d xs ys l) | false=>some false:=by
                intro e he
                simp only [Op.eqFields]
                rw [if_pos hn']
                simp only [aV,ha,hb,Option.bind_some,oU n d (by omega) he]
                cases e <;> rfl
              cases hv:Bm P n f.type a b with
              | none =>
                rw [hv] at h
                cases h
                exact ⟨fun h=>(by cases h),fun b' hb'=>(by cases hb')⟩
              | some e =>
                rw [hv] at h
                cases m' with
                | false =>
                  cases h
                  refine ⟨fun h=>(by cases h),fun b' hb'=>?_⟩
                  cases hb'
                  rw [step e hv,ih1 rfl]
                  cases e <;> rfl
                | true =>
                  cases r' with
                  | none =>
                    cases h
                    exact ⟨fun h=>(by cases h),fun b' hb'=>(by cases hb')⟩
                  | some s =>
                    cases h
                    refine ⟨fun h=>(by cases h),fun b' hb'=>?_⟩
                    cases hb'
                    rw [step e hv,ih2 s rfl]
                    cases e <;> rfl
            · cases h
              exact ⟨fun h=>(by cases h),fun b' hb'=>(by cases hb')⟩
        generalize hq:(fs.toList.foldr _ (some true,false):Option Bool×Bool)=q at h
        obtain ⟨r,m⟩:=q
        exact (key _ r m hq).2 b h
    · rename_i len e xs ys hu
      split at h
      · rename_i m hm
        rw [Az hu hm]
        generalize List.range' 0 len=l at h ⊢
        induction l generalizing b with
        | nil =>
          cases h
          rfl
        | cons i l ih =>
          unfold Cg at h
          split at h
          · rename_i c hc
            split at hc
            · rename_i u v h1 h2
              split at h
              · rename_i s hs
                cases h
                simp only [qd,aV,h1,h2,Option.bind_some,oU n d (by omega) hc]
                cases c
                · rfl
                · exact ih _ hs
              · cases h
            · cases hc
          · cases h
      · cases h
    · cases h
theorem zw {P:Program} {t:TypeId} {xs ys:List Value} {b:Bool} (hg:P.eqGuardType P.depth t=false) (h:Bm P 16 t (.agg xs.toArray) (.agg ys.toArray)=some b):cJ P .eql t xs ys=some (.bool b):=by
  unfold cJ
  have h1:az P (eqGuard .eql t (.tmp 0) (.tmp 0) (.agg xs.toArray) (.agg ys.toArray))=some ():=by
    simp [eqGuard,aV,program,az,hg]
    rfl
  have h2:az P (binOp .eql t (.agg xs.toArray) (.agg ys.toArray))=some (.bool b):=by
    have:=oU (P:=P) 16 10000 (by omega) h
    simp only [binOp,Op.equal,Op.maxDepth]
    rw [aV,this]
    rfl
  rw [aV,h1]
  exact h2
structure D1 (P:Program) (kt:TypeId) {κ:Type} (kf:κ→AV) (kv:κ→Value) (beq:κ→κ→Bool):Prop where
  tok:∀ k,wN (kf k)=some (kv k)
  eqv:∀ a b,Bm P 16 kt (kv a) (kv b)=some (beq a b)
  chk:∀ e k,az P (Instr.checkKey e 10000 kt (kv k))=some ()
  sam:∀ a b,beq a b=true→Instr.sameBits 10000 (kv b) (kv a)=true
section
variable {P:Program} {kt:TypeId} {κ:Type} {kf:κ→AV} {kv:κ→Value} {beq:κ→κ→Bool}
end
def mV (H:Type) (P:Program) (t:TypeId) {α:Type} (f:α→List AV) (wf:α→Prop):Prop:=∀ (n:Nat) (d:DataW H),cy P n t d=true→∃ x,kp (fe P n t d) (f x)∧wf x
def j0 (H:Type) (P:Program) (ts:List TypeId) {α:Type} (f:α→List AV) (wf:α→Prop):Prop:=∀ (n:Nat) (ds:List (DataW H)),ds.length=ts.length→((ts.zip ds).all fun x=>cy P n x.1 x.2)=true→∃ x,kp ((ts.zip ds).flatMap fun x=>fe P n x.1 x.2) (f x)∧wf x
section
variable {H:Type} {P:Program} {t:TypeId}
theorem mV.int {k:IntKind} (hu:P.underlying t=some (.int k)):mV H P t (ad k) (zF k):=by
  intro n d h
  cases n with
  | zero=>cases h
  | succ n =>
    unfold cy at h
    rw [hu] at h
    cases d with
    | lit l =>
      cases l with
      | int k' m =>
        have h:(decide (k'=k)&&(Lit.int k m).wf)=true:=h
        rw [Bool.and_eq_true] at h
        obtain ⟨h1,h2⟩:=h
        have h1:=of_decide_eq_true h1
        subst h1
        have h2:(decide (k'.min≤m)&&decide (m≤k'.max))=true:=h2
        rw [Bool.and_eq_true] at h2
        refine ⟨m,?_,of_decide_eq_true h2.1,of_decide_eq_true h2.2⟩
        unfold fe
        rw [hu]
        exact kp.refl _
      | _=>cases h
    | _=>cases h
theorem mV.bool (hu:P.underlying t=some .bool):mV H P t ju (fun _=>True):=by
  intro n d h
  cases n with
  | zero=>cases h
  | succ n =>
    unfold cy at h
    rw [hu] at h
    cases d with
    | lit l =>
      cases l with
      | bool b =>
        refine ⟨b,?_,trivial⟩
        unfold fe
        rw [hu]
        exact kp.refl _
      | _=>cases h
    | _=>cases h
theorem mV.slice {e:TypeId} (hu:P.underlying t=some (.slice e)) {α:Type} {f:α→List AV} {wf:α→Prop} (he:mV H P e f wf):mV H P t (ve f) (fun l=>l.length≤maxLen∧∀ x∈l,wf x):=by
  intro n d h
  cases n with
  | zero=>cases h
  | succ n =>
    unfold cy at h
    rw [hu] at h
    cases d with
    | nil =>
      refine ⟨[],?_,by simp [maxLen],fun x hx=>by cases hx⟩
      unfold fe
      rw [hu]
      exact kp.cons ko.nil kp.nil
    | slice xs sp =>
      have h:(decide (xs.length≤maxLen)&&xs.all (cy P n e))=true:=h
      rw [Bool.and_eq_true] at h
      obtain ⟨h1,h2⟩:=h
      have key:∀ xs:List (DataW H),xs.all (cy P n e)=true→∃ l:List α,fK (xs.map (fe P n e)) (l.map f)∧l.length=xs.length∧∀ x∈l,wf x:=by
        intro xs
        induction xs with
        | nil=>exact fun _=>⟨[],fK.nil,rfl,fun x hx=>by cases hx⟩
        | cons x xs ih =>
          intro h
          rw [List.all_cons,Bool.and_eq_true] at h
          obtain ⟨y,hy1,hy2⟩:=he n x h.1
          obtain ⟨l,hl1,hl2,hl3⟩:=ih h.2
          refine ⟨y::l,fK.cons hy1 hl1,by simp [hl2],fun z hz=>?_⟩
          rcases List.mem_cons.1 hz with rfl | hz
          · exact hy2
          · exact hl3 z hz
      obtain ⟨l,hl1,hl2,hl3⟩:=key xs h2
      refine ⟨l,?_,by rw [hl2]; exact of_decide_eq_true h1,hl3⟩
      unfold fe
      rw [hu]
      exact kp.cons (ko.sl hl1) kp.nil
    | _=>cases h
theorem j0.nil:j0 H P [] (fun _:Unit=>[]) (fun _=>True):=fun _ _ _ _=>⟨(),kp.nil,trivial⟩
theorem j0.cons {ts:List TypeId} {α β:Type} {f:α→List AV} {wf:α→Prop} {g:β→List AV} {wg:β→Prop} (h:mV H P t f wf) (hs:j0 H P ts g wg):j0 H P (t::ts) (fun x:α×β=>f x.1++g x.2) (fun x=>wf x.1∧wg x.2):=by
  intro n ds hl ha
  cases ds with
  | nil=>simp at hl
  | cons d ds =>
    rw [List.zip_cons_cons,List.all_cons,Bool.and_eq_true] at ha
    obtain ⟨x,h1,h2⟩:=h n d ha.1
    obtain ⟨y,h3,h4⟩:=hs n ds (by simpa using hl) ha.2
    refine ⟨(x,y),?_,h2,h4⟩
    rw [List.zip_cons_cons,List.flatMap_cons]
    exact h1.app h3
theorem mV.struct {fs:Array Field} (hu:P.underlying t=some (.struct fs)) {α:Type} {g:α→List AV} {wg:α→Prop} (h:j0 H P (fs.toList.map (·.type)) g wg):mV H P t g wg:=by
  intro n d hd
  cases n with
  | zero=>cases hd
  | succ n =>
    unfold cy at hd
    rw [hu] at hd
    cases d with
    | agg ds =>
    have hd:(Nat.beq ds.length fs.size&&(fs.toList.zip ds).all fun x=>cy P n x.1.type x.2)=true:=hd
    rw [Bool.and_eq_true] at hd
    obtain ⟨h1,h2⟩:=hd
    have hlen:=Nat.eq_of_beq_eq_true h1
    obtain ⟨x,h3,h4⟩:=h n ds (by simpa using hlen) (by
      rw [List.zip_map_left,List.all_map]
      exact h2)
    refine ⟨x,?_,h4⟩
    unfold fe
    rw [hu]
    dsimp only
    rw [List.zip_map_left,List.flatMap_map] at h3
    exact h3
    | _=>cases hd
theorem mV.conv {α β:Type} {f:α→List AV} {wf:α→Prop} {g:β→List AV} {wg:β→Prop} (h:mV H P t f wf) (φ:α→β) (hf:∀ x,f x=g (φ x)) (hw:∀ x,wf x→wg (φ x)):mV H P t g wg:=fun n d hd=>by
  obtain ⟨x,h1,h2⟩:=h n d hd
  exact ⟨φ x,by rw [← hf]; exact h1,hw x h2⟩
theorem mV.argS {fs:Array Field} (hu:P.underlying t=some (.struct fs)) {α:Type} {f:α→List AV} {wf:α→Prop} (h:mV H P t f wf) {n:Nat} {d:DataW H} (hd:cy P n t d=true):∃ x,ko (pB P n t d) (.agg (f x))∧wf x:=by
  obtain ⟨x,h1,h2⟩:=h n d hd
  refine ⟨x,?_,h2⟩
  unfold pB
  rw [hu]
  exact ko.agg h1
end
end A
end Go.Proofs.YteafbimadlcljaaDoor
