/- The evaluator with answers; contracts out of it. Nothing is claimed here of the program. -/
import Derived.Test.YtaekcekecdocnaaK6
import Derived.Test.YtaekcekecdocnaaM0
import Derived.Laws.StructEq
namespace Go.Proofs.Ytaekcekecdocnaa
namespace A
open Go
def jQ {α:Type}:List (Nat×α)→Nat→Option α
  | [],_=>none
  | (d,x)::xs,e=>match Nat.beq d e with | true=>some x | false=>jQ xs e
structure Wk where
  ts:List Nat
  ls:List Nat
  no:Nat
  pr:List (Nat×Nat)
  pl:List (Nat×Nat×Nat)
  fz:List Nat
def xl (ts:List Nat):Nat→List AV→List AV
  | _,[]=>[]
  | i,x::xs=>(match bh ts i with | true=>x | false=>.bad)::xl ts (i + 1) xs
def qO:List Nat→St→St
  | [],S=>S
  | d::ds,S=>qO ds (b4 d S)
def tM:Nat→Nat→List Nat
  | _,0=>[]
  | i,n + 1=>i::tM (i + 1) n
def wo:List Nat→St→St
  | [],S=>S
  | i::is,S=>wo is (bG i S)
def qP:List Ob→Bool
  | []=>true
  | .dead::os=>qP os
  | _=>false
def yk (n:Nat) (S:St):St :=
  match qP (S.o.drop n)&&Nat.ble S.b n with
  | true=>{ t:=S.t,l:=S.l,o:=S.o.take n,b:=S.b }
  | false=>S
def sj:List (Nat×Nat)→St→St
  | [],S=>S
  | (d,sz)::ps,S=>match S.t[d]? with
    | some .nilsl=>sj ps { t:=S.t.set d (.mf S.o.length),l:=S.l,o:=S.o++[.arr true sz []],b:=S.b }
    | _=>sj ps S
def pX:List (Nat×Nat×Nat)→St→St
  | [],S=>S
  | (d,j,sz)::ps,S=>match ap S.l d with
    | some row=>match row[j]? with
      | some .nilsl=>pX ps { t:=S.t,l:=jV S.l d (row.set j (.mf S.o.length)),o:=S.o++[.arr true sz []],b:=S.b }
      | _=>pX ps S
    | none=>pX ps S
def yl (ids:List Nat) (d j:Nat) (b:AV) (S:St):St :=
  match ap (b5 ids S).l d with
  | some row=>{ t:=(b5 ids S).t,l:=jV (b5 ids S).l d (row.set j b),o:=(b5 ids S).o,b:=(b5 ids S).b }
  | none=>b5 ids S
def mc:List Nat→St→St
  | [],S=>S
  | d::ds,S=>match Nat.ble 10000 d with
    | true=>match ap S.l ((d - 10000) / 100) with
      | some row=>match row[d % 100]? with
        | some a=>match sK S.o 6 a with
          | some b=>mc ds (yl (bE S.o 6 a) ((d - 10000) / 100) (d % 100) b S)
          | none=>mc ds S
        | none=>mc ds S
      | none=>mc ds S
    | false=>match S.t[d]? with
      | some a=>match sK S.o 6 a with
        | some b=>mc ds { t:=(b5 (bE S.o 6 a) S).t.set d b,l:=(b5 (bE S.o 6 a) S).l,o:=(b5 (bE S.o 6 a) S).o,b:=(b5 (bE S.o 6 a) S).b }
        | none=>mc ds S
      | none=>mc ds S
def zG (W:Wk) (S:St):St :=
  pX W.pl (sj W.pr (yk W.no (wo (tM W.no (S.o.length - W.no)) (qO W.ls { t:=xl W.ts 0 S.t,l:=S.l,o:=S.o,b:=S.b }))))
def wk (W:Wk) (S:St):St:=zG W (mc W.fz S)
def iB (a b:AV):Prop:=∀ E u,VR E a u→VR E b u
def gK (r r':List AV):Prop:=r.length=r'.length∧∀ (i:Nat) (a b:AV),r[i]?=some a→r'[i]?=some b→iB a b
def f8 (r r':List (List AV)):Prop:=r.length=r'.length∧∀ (i:Nat) (a b:List AV),r[i]?=some a→r'[i]?=some b→gK a b
structure Le where
  ts:List (Nat×AV)
  ls:List (Nat×List AV)
  os:List (Nat×List (List AV))
def ym:List (Nat×AV)→St→(St→Prop)→Prop
  | [],S,K=>K S
  | (d,v)::xs,S,K=>ji S.t d fun a=>iB a v∧kJ S.t d v fun t=>ym xs { t:=t,l:=S.l,o:=S.o,b:=S.b } K
def xm:List (Nat×List AV)→St→(St→Prop)→Prop
  | [],S,K=>K S
  | (d,r)::xs,S,K=>match ap S.l d with
    | some row=>gK row r∧gY (jV S.l d r) fun l=>xm xs { t:=S.t,l:=l,o:=S.o,b:=S.b } K
    | none=>ac 450
def xn:List (Nat×List (List AV))→St→(St→Prop)→Prop
  | [],S,K=>K S
  | (i,R)::xs,S,K=>match S.o[i]? with
    | some (.arr fl sz rows)=>f8 rows R∧ay (S.o.set i (.arr fl sz R)) fun o=>xn xs { t:=S.t,l:=S.l,o:=o,b:=S.b } K
    | _=>ac 451
def wq (L:Le) (S:St) (K:St→Prop):Prop:=ym L.ts S fun S=>xm L.ls S fun S=>xn L.os S K
structure oM where
  at_:Option Nat
  row:Option (List (List AV))
  ks:List AV
  cs:List (Option (List (List AV)))
structure bP where
  dem:List Nat
  chk:List Nat
  row:List (Nat×List AV)
  val:List (Nat×AV)
  call:List (Nat×AV)
  sto:List (Nat×(AV×List Ob))
  obr:List (Nat×(Nat×List (List AV)))
  mpr:List (Nat×List (AV×AV))
  own:List (Nat×oM)
inductive PT where
  | done
  | go (i:Nat) (t:PT)
  | alt (i:Nat) (t r:PT)
def xM:List Nat→PT
  | []=>.done
  | i::is=>.go i (xM is)
def tN:PT→PT→Bool
  | .done,.done=>true
  | .go i t,.go j u=>Nat.beq i j&&tN t u
  | .alt i t r,.alt j u s=>Nat.beq i j&&(tN t u&&tN r s)
  | _,_=>false
structure yn where
  ord:List (Nat×PT)
  reg:List (Nat×bP)
  wr:List (Nat×Le)
  lps:List (Nat×(Wk×Le×Ex×St))
  cut:List (Nat×(Wk×Le×Ex×St))
def vf (A:yn) (id:Nat):bP :=
  match jQ A.reg id with
  | some R=>R
  | none=>⟨[],[],[],[],[],[],[],[],[]⟩
def keyOf (o:Oper):Nat :=
  match o.dst with
  | some d=>d
  | none=>match o.op with
    | .store _ (.tmp t) _=>t + 1000000
    | .mapUpdate _ (.tmp t) _ _=>t + 1000000
    | .insert _ (.tmp t) _ _=>t + 1000000
    | _=>0
def yo (rows:List (List AV)) (i:Int):Option (List AV):=if 0≤i then rows[i.toNat]? else none
def wt (op:BinOp) (x y:Value) (K:Value→Prop):Prop :=
  match op,x,y with
  | .quo,.int k a,.int k' b=>(decide (k=k')&&!(b==0))=true∧K (.int k (k.wrap (a.tdiv b)))
  | .rem,.int k a,.int k' b=>(decide (k=k')&&!(b==0))=true∧K (.int k (a.tmod b))
  | .shl,.int k a,.int _ b=>decide (0≤b)=true∧K (.int k (k.wrap (a * 2 ^ (min b.toNat k.bits))))
  | .shr,.int k a,.int _ b=>decide (0≤b)=true∧K (.int k (a.fdiv (2 ^ (min b.toNat k.bits))))
  | .add,.string a,.string b=>decide (((a.size + b.size:Nat):Int)≤9223372036854775807)=true∧K (.string (a++b))
  | _,_,_=>ac 20
def wu (C:Ctx) (A:bP) (o:Oper) (op:BinOp) (t:TypeId) (x y:AV) (k:AV→Prop):Prop :=
  match x,y with
  | .v a,.v b=>match wS op a b with
    | none=>match a,b with
      | .bool x,.bool y=>ra C.P op t x y k
      | a,b=>wt op a b fun c=>k (.v c)
    | some c=>k (.v c)
  | .agg as,.agg bs=>match lX as,lX bs with
    | some xs,some ys=>match jQ A.val (keyOf o) with
      | some (.v (.bool b))=>vH C.P op t xs ys=some (.bool b)∧k (.v (.bool b))
      | _=>ac 400
    | _,_=>ac 401
  | _,_=>ac 402
def qQ (C:Ctx) (A:bP) (o:Oper) (t:TypeId) (x ix:AV) (k:AV→Prop):Prop :=
  intOf ix fun i =>
  match C.P.underlying t,x with
  | some .string,.v (.string s)=>match jQ A.val (keyOf o) with
    | some (.v (.int .u8 n))=>(if 0≤i then s[i.toNat]? else none)=some (UInt8.ofNat n.toNat)∧(n=((UInt8.ofNat n.toNat).toNat:Int)∧k (.v (.int .u8 n)))
    | _=>ac 403
  | some (.array len e),.agg cs=>match C.P.info? e with
    | some inf=>(decide (0≤i)&&decide (i<len))=true∧dJ C.P e cs (i.toNat * inf.size) k
    | none=>ac 404
  | _,_=>ac 405
def yp (C:Ctx) (A:bP) (pl:aD) (o:Oper) (vs:List AV) (k:AV→Prop):Prop :=
  match bh A.chk (keyOf o) with
  | false=>pop C pl o vs k
  | true=>match o.op,vs with
    | .binOp op t _ _ _,[a,b]=>wu C A o op t a b k
    | .index t _ _,[a,i]=>qQ C A o t a i k
    | _,_=>ac 406
def pY (len cap:Nat) (lo hi mx:Option Int) (k:Nat→Nat→Nat→Prop):Prop :=
  match lo,hi,mx with
  | none,none,none=>k 0 len cap
  | some l,none,none=>(decide (0≤l)&&decide (l≤len))=true∧k l.toNat len cap
  | none,some h,none=>(decide (0≤h)&&decide (h≤cap))=true∧k 0 h.toNat cap
  | some l,some h,none=>(decide (0≤l)&&decide (l≤h)&&decide (h≤cap))=true∧k l.toNat h.toNat cap
  | none,some h,some m=>(decide (0≤h)&&decide (h≤m)&&decide (m≤cap))=true∧k 0 h.toNat m.toNat
  | some l,some h,some m=>(decide (0≤l)&&decide (l≤h)&&decide (h≤m)&&decide (m≤cap))=true∧k l.toNat h.toNat m.toNat
  | _,_,_=>ac 63
def zr (mx hi:Option Int) (k:Bool→Prop):Prop :=
  match mx with
  | none=>k false
  | some _=>(dz mx&&dz hi)=false∧k false
def fR (C:Ctx) (t:TypeId) (x:AV) (lo hi mx:Option Int) (S:St) (k:AV→Prop):Prop :=
  match C.P.underlying t with
  | some .string =>
    match x,mx with
    | .v (.string s),none=>pY s.size s.size lo hi none fun l h _=>k (.v (.string (s.extract l h)))
    | _,_=>ac 64
  | some (.slice e) =>
    match C.P.info? e with
    | some i=>aB (Nat.blt 0 i.size) (
      match x with
      | .sl rows=>q_ i.size rows=true∧zr mx hi fun zz=>pY rows.length rows.length lo hi mx fun l h _ =>
        match lo,hi,zz with
        | _,_,true=>k .esl
        | none,none,_=>k (.sl rows)
        | _,none,_=>k (.sl (rows.drop l))
        | none,_,_=>k (.sl (rows.take h))
        | _,_,_=>k (.sl ((rows.drop l).take (h - l)))
      | .mf id=>match S.o[id]? with
        | some (.arr _ sz rows)=>aB (Nat.beq sz i.size) (zr mx hi fun zz=>pY rows.length rows.length lo hi mx fun l h m =>
          match lo,hi,zz with
          | _,_,true=>k .esl
          | none,none,_=>k (.mf id)
          | _,none,_=>k (.msl id l (rows.length - l) 0)
          | _,_,_=>k (.msl id l (h - l) (m - h)))
        | _=>ac 65
      | .msl id off len ext=>match S.o[id]? with
        | some (.arr _ sz _)=>aB (Nat.beq sz i.size) (zr mx hi fun zz=>pY len (len + ext) lo hi mx fun l h m =>
          match zz with
          | true=>k .esl
          | false=>k (.msl id (l + off) (h - l) (m - h)))
        | _=>ac 66
      | _=>ac 67)
    | none=>ac 68
  | _=>ac 69
def iC (C:Ctx) (row:List AV) (t:TypeId) (x ix:AV) (S:St) (k:AV→Prop):Prop :=
  intOf ix fun i =>
  match C.P.underlying t with
  | some (.slice e) =>
    match C.P.info? e with
    | some inf =>
      match x with
      | .sl rows=>yo rows i=some row∧aB (Nat.beq row.length inf.size&&Nat.blt 0 inf.size) (k (.fptr row 0))
      | .mf id=>match S.o[id]? with
        | some (.arr _ _ rows)=>yo rows i=some row∧aB (Nat.beq row.length inf.size&&Nat.blt 0 inf.size) (k (.ptr (.O id) i.toNat 0))
        | some (.own none _ cells _)=>aB (Nat.beq inf.size 1) ((decide (0≤i)&&Nat.blt i.toNat cells.length)=true∧k (.ptr (.O id) i.toNat 0))
        | _=>ac 72
      | .msl id off len _=>match S.o[id]? with
        | some (.arr _ _ rows)=>(decide (0≤i)&&decide (i<len))=true∧(rows[i.toNat + off]?=some row∧aB (Nat.beq row.length inf.size&&Nat.blt 0 inf.size) (k (.ptr (.O id) (i.toNat + off) 0)))
        | _=>ac 74
      | _=>ac 75
    | none=>ac 76
  | some (.array len e) =>
    match C.P.info? e with
    | some inf=>(decide (0≤i)&&decide (i<len))=true∧(
      match x with
      | .ptr key a j=>k (.ptr key a (i.toNat * inf.size + j))
      | .fptr row j=>k (.fptr row (i.toNat * inf.size + j))
      | _=>ac 77)
    | none=>ac 78
  | _=>ac 79
def mq (C:Ctx) (A:bP) (o:Oper) (fid:Nat) (as:List AV) (k:AV→Prop):Prop :=
  match jQ A.call (keyOf o) with
  | some r=>(C.pcall fid as fun x=>x=r)∧k r
  | none=>C.pcall fid as k
def tO (P:Program) (op:BinOp) (t:TypeId) (x y:AV) (S:St) (k:AV→Prop):Prop :=
  match x,y with
  | .mf id,.nilsl=>match S.o[id]? with
    | some (.arr _ _ rows)=>xF rows=true∧(match P.underlying t,op with
      | some (.slice _),.eql=>k (.v (.bool false))
      | some (.slice _),.neq=>k (.v (.bool true))
      | _,_=>ac 265)
    | _=>ac 472
  | .sl rows,.nilsl=>xF rows=true∧(match P.underlying t,op with
      | some (.slice _),.eql=>k (.v (.bool false))
      | some (.slice _),.neq=>k (.v (.bool true))
      | _,_=>ac 265)
  | _,_=>ac 473
def lc (size:Nat) (S:St) (x:AV) (k:Bool→List (List AV)→Prop):Prop :=
  match x with
  | .nilsl | .esl=>k true []
  | .sl rows=>q_ size rows=true∧k true rows
  | .mf id=>match S.o[id]? with | some (.arr fl sz rows)=>aB (Nat.beq sz size) (k fl rows) | _=>ac 45
  | .msl id off len _=>match S.o[id]? with | some (.arr fl sz rows)=>aB (Nat.beq sz size) (k fl ((rows.drop off).take len)) | _=>ac 46
  | .v (.string s)=>aB (Nat.beq size 1) (k true (s.data.toList.map fun b=>[.v (.int .u8 b.toNat)]))
  | x=>eq size S x k
def qR (P:Program) (src dst:TypeId) (x:AV) (S:St) (s:ByteArray) (k:AV→Prop):Prop :=
  match P.underlying src,P.underlying dst with
  | some (.slice e),some .string =>
    match P.underlying e with
    | some (.int .u8)=>aB (!(yJ x)) (lc 1 S x fun _ rows=>bytesOf rows=some s.data.toList∧k (.v (.string s)))
    | _=>ac 481
  | _,_=>ac 482
def yq (C:Ctx) (A:bP) (o:Oper) (vs:List AV) (M:St) (k:AV→Prop):Prop :=
  match o.op,vs with
  | .load t _,[p]=>match jQ A.row (keyOf o) with
    | some row=>match p with
      | .ptr (.O id) i j=>match M.o[id]? with
        | some (.arr _ _ rows)=>rows[i]?=some row∧dJ C.P t row j k
        | _=>ac 410
      | _=>ac 411
    | none=>iT C o vs M k
  | .slice t _ lo hi mx,a::rest=>match bh A.chk (keyOf o) with
    | false=>iT C o vs M k
    | true=>match lo,hi,mx,rest with
      | none,none,none,[]=>fR C t a none none none M k
      | some _,none,none,[x]=>intOf x fun x=>fR C t a (some x) none none M k
      | none,some _,none,[y]=>intOf y fun y=>fR C t a none (some y) none M k
      | some _,some _,none,[x,y]=>intOf x fun x=>intOf y fun y=>fR C t a (some x) (some y) none M k
      | none,some _,some _,[y,z]=>intOf y fun y=>intOf z fun z=>fR C t a none (some y) (some z) M k
      | some _,some _,some _,[x,y,z]=>intOf x fun x=>intOf y fun y=>intOf z fun z=>fR C t a (some x) (some y) (some z) M k
      | _,_,_,_=>ac 202
  | .indexAddr t _ _,[a,i]=>match jQ A.row (keyOf o) with
    | some row=>iC C row t a i M k
    | none=>iT C o vs M k
  | .lookup t _ _ ok,[m,key]=>match jQ A.call (keyOf o) with
    | some a=>match C.P.underlying t,m with
      | some (.map kt e),.mp id=>match M.o[id]? with
        | some (.mapo _ es)=>(∀ k':AV→Prop,k' a→fI C.P kt key es fun _ r=>iH C.P e ok es r k')∧k a
        | _=>ac 412
      | _,_=>ac 413
    | none=>iT C o vs M k
  | .binOp op t _ _ _,[a,b]=>match bh A.chk (keyOf o) with
    | false=>iT C o vs M k
    | true=>tO C.P op t a b M k
  | .convert src dst _,[x]=>match jQ A.call (keyOf o) with
    | some (.v (.string s))=>qR C.P src dst x M s k
    | _=>iT C o vs M k
  | .call c,vs=>match c.callee with
    | .value _=>match vs with
      | .fn fid first cap::as=>aB (C.pure fid) (dV M.o (first++as++cap) fun bs=>mq C A o fid bs fun r=>aB (mC 4 r||((first++as++cap).flatMap (bE M.o 6)).isEmpty) (k r))
      | _=>ac 205
    | _=>iT C o vs M k
  | _,_=>iT C o vs M k
def qS (S:St) (row:List AV) (a:AV) (cs:List AV) (K:St→Prop):Prop :=
  match a with
  | .ptr (.O id) i j =>
    match S.o[id]? with
    | some (.arr fl sz rows)=>rows[i]?=some row∧aB (Nat.ble (j + cs.length) row.length&&cs.all (jU 4)) (dI (splice row j cs) fun row'=>ay (S.o.set id (.arr (fl&&cs.all (bD 4)) sz (rows.set i row'))) fun o=>K { t:=S.t,l:=S.l,o:=o,b:=S.b })
    | _=>ac 18
  | _=>ac 19
def xo (C:Ctx) (A:bP) (o:Oper) (vs:List AV) (M:St) (k:AV→St→Prop):Prop :=
  match jQ A.row (keyOf o) with
  | none=>oZ C o vs M k
  | some row=>match o.op,vs with
    | .store t _ _,[p,y]=>match p with
      | .ptr (.O _) _ _=>gm y fun cs=>match C.P.info? t with
        | some i=>aB (Nat.beq cs.length i.size) (qS M row p cs fun M'=>k .bad M')
        | none=>ac 208
      | _=>oZ C o vs M k
    | _,_=>oZ C o vs M k
def kx (P:Program) (ts:List TypeId) (base x:AV) (S:St) (k:St→AV→Prop):Prop :=
  match ts with
  | [t0,t1] =>
    match P.underlying t0 with
    | some (.slice e) =>
      match P.info? e with
      | some i=>aB (Nat.blt 0 i.size&&Nat.blt 0 i.bytes&&xH i&&(match P.underlying t1 with | some (.slice _) | some .string=>true | _=>false)) (lc i.size S x fun fl src=>e5 src=true∧(
          match base with
          | .nilsl | .esl=>Nat.ble (src.length * i.bytes) 140737488355328=true∧(ay (S.o++[.arr fl i.size src]) fun o=>k { t:=S.t,l:=S.l,o:=o,b:=S.b } (.mf S.o.length))
          | .mf id=>match S.o[id]? with
            | some (.arr fl' sz rows)=>aB (Nat.beq sz i.size&&(fl||!fl')) (Nat.ble ((rows.length + src.length) * i.bytes) 140737488355328=true∧iW S id (.arr (fl'&&fl) sz (rows++src)) fun S' id'=>k S' (.mf id'))
            | _=>ac 48
          | .msl id off len ext=>match S.o[id]? with
            | some (.arr fl' sz rows)=>aB (Nat.beq sz i.size&&(fl||!fl')) (Nat.ble src.length ext=true∧(Nat.ble (off + len + ext) rows.length=true ∧
                ay (S.o.set id (.arr (fl'&&fl) sz (rows.take (off + len)++(src++rows.drop (off + len + src.length))))) fun o=>k { t:=S.t,l:=S.l,o:=o,b:=S.b } (.msl id off (len + src.length) (ext - src.length))))
            | _=>ac 49
          | _=>ac 50))
      | none=>ac 51
    | _=>ac 52
  | _=>ac 53
def lf (P:Program) (ts:List TypeId) (base x:AV) (k:AV→Prop):Prop :=
  match ts with
  | [t0,t1] =>
    match P.underlying t0 with
    | some (.slice e) =>
      match P.info? e with
      | some i=>aB (Nat.blt 0 i.size&&Nat.blt 0 i.bytes&&xH i&&(match P.underlying t1 with | some (.slice _) | some .string=>true | _=>false)) (lc i.size yI x fun fl src=>aB fl (e5 src=true∧(Nat.ble (src.length * i.bytes) 140737488355328=true∧(
          match base with
          | .nilsl | .esl=>k (.sl src)
          | _=>ac 254))))
      | none=>ac 255
    | _=>ac 256
  | _=>ac 257
def eC (P:Program) (t:TypeId) (l c:AV) (S:St) (k:St→AV→Prop):Prop :=
  match P.underlying t with
  | some (.slice e) =>
    match P.info? e with
    | some i=>intOf l fun l=>intOf c fun c=>(decide (0≤l)&&decide (l≤c)&&decide (i.bytes * c≤140737488355328)&&decide (c≤140737488355328)&&Nat.blt 0 i.size)=true ∧
        (a9 P e fun z=>aB (z.all (bD 2)) (ay (S.o++[.arr true i.size (List.replicate l.toNat z)]) fun o=>k { t:=S.t,l:=S.l,o:=o,b:=S.b } (.mf S.o.length)))
    | none=>ac 61
  | _=>ac 62
def xp (P:Program) (t:TypeId) (l c:AV) (k:AV→Prop):Prop :=
  eC P t l c yI fun S' _=>match S'.o with
    | [.arr _ _ rows]=>k (.sl rows)
    | _=>ac 312
def yr (C:Ctx) (o:Oper) (vs:List AV) (k:AV→Prop):Prop :=
  match o.op,vs with
  | .call c,[x,y]=>match c.callee with
    | .builtin .append=>lf C.P c.argTypes.toList x y k
    | _=>ac 258
  | .makeSlice t _ _,[l,c]=>xp C.P t l c k
  | _,_=>ac 259
def lg (P:Program) (ts:List TypeId) (base:AV) (n:Int) (S:St) (k:St→AV→Prop):Prop :=
  match ts with
  | [t0,t1] =>
    match P.underlying t0,P.underlying t1 with
    | some (.slice e),some (.int _) =>
      match P.info? e with
      | some i=>(Nat.blt 0 i.size&&Nat.blt 0 i.bytes&&decide (0<n)&&decide (n * i.bytes≤140737488355328)&&decide (n≤140737488355328))=true∧(a9 P e fun z=>aB (z.all (bD 2)) (
          match base with
          | .nilsl | .esl=>ay (S.o++[.arr true i.size (List.replicate n.toNat z)]) fun o=>k { t:=S.t,l:=S.l,o:=o,b:=S.b } (.mf S.o.length)
          | _=>ac 250))
      | none=>ac 251
    | _,_=>ac 252
  | _=>ac 253
def tQ (P:Program) (ts:List TypeId) (x y:AV) (M:St) (k:AV→St→Prop):Prop :=
  match ts with
  | t::_ =>
    match P.underlying t with
    | some (.slice e) =>
      match P.info? e with
      | some i=>aB (Nat.blt 0 i.size) (lc i.size M y fun fl src=>e5 src=true∧aB (!(yJ y)) (
          match x with
          | .mf id=>match M.o[id]? with
            | some (.arr fl' sz rows)=>aB (Nat.beq sz i.size) (ay (M.o.set id (.arr (fl'&&fl) sz (src.take rows.length++rows.drop src.length))) fun o=>k (.v (.int .i64 ((min src.length rows.length:Nat):Int))) { t:=M.t,l:=M.l,o:=o,b:=M.b })
            | _=>ac 243
          | .msl id off len _=>match M.o[id]? with
            | some (.arr fl' sz rows)=>aB (Nat.beq sz i.size) (Nat.ble (off + len) rows.length=true∧(ay (M.o.set id (.arr (fl'&&fl) sz (rows.take off++(src.take len++rows.drop (off + min src.length len))))) fun o=>k (.v (.int .i64 ((min src.length len:Nat):Int))) { t:=M.t,l:=M.l,o:=o,b:=M.b }))
            | _=>ac 244
          | _=>ac 245))
      | none=>ac 246
    | _=>ac 247
  | []=>ac 248
def tS (C:Ctx) (A:bP) (o:Oper) (f:AV) (args:List AV) (S:St) (k:St→AV→Prop):Prop :=
  match f with
  | .fn fid first cap =>
    match C.pure fid with
    | true=>dV S.o (first++args++cap) fun as=>mq C A o fid as fun r =>
        match mC 4 r with
        | true=>k S r
        | false=>b_ ((first++args++cap).flatMap (bE S.o 6)) S fun S'=>k S' r
    | false=>aB ((first++args++cap).all (jU 4)) (match jQ A.sto (keyOf o) with
      | some (r,o')=>(C.scall fid (first++args++cap) S.o fun r' o''=>r'=r∧o''=o')∧dq (aF S.o o' 0) S.t S.l fun t l=>k { t:=t,l:=l,o:=o',b:=S.b } r
      | none=>C.scall fid (first++args++cap) S.o fun r o'=>dq (aF S.o o' 0) S.t S.l fun t l=>k { t:=t,l:=l,o:=o',b:=S.b } r)
  | _=>ac 97
def fS (P:Program) (R:List (AV×AV)) (t:TypeId) (m key x:AV) (S:St) (K:St→Prop):Prop :=
  match P.underlying t with
  | some (.map kt _) =>
    match m with
    | .mp id=>match S.o[id]? with
      | some (.mapo fl es)=>aB (jU 4 x) ((∀ K':List (AV×AV)→Prop,K' R→fI P kt key es fun kv r=>aB (uG P kt kv) (
          match r with
          | some i=>aB (Instr.sameBits 10000 ((es[i]?.bind fun e=>sL e.1).getD (.bool false)) kv) (K' (es.set i (key,x)))
          | none=>K' (es++[(key,x)])))∧ay (S.o.set id (.mapo (fl&&bD 4 x) R)) fun o=>K { t:=S.t,l:=S.l,o:=o,b:=S.b })
      | _=>ac 106
    | _=>ac 107
  | _=>ac 108
def qT (P:Program) (ts:List TypeId) (x:AV) (S:St) (K:St→Prop):Prop :=
  match ts with
  | t::_ =>
    match P.underlying t with
    | some (.slice e) =>
      match P.info? e with
      | some i=>aB (Nat.blt 0 i.size) (
          match x with
          | .msl id off len _=>match S.o[id]? with
            | some (.arr fl sz rows)=>aB (Nat.beq sz i.size) (Nat.ble (off + len) rows.length=true∧a9 P e fun z=>aB (z.all (bD 2)&&z.all gl) (ay (S.o.set id (.arr (fl&&true) sz (rows.take off++(List.replicate len z++rows.drop (off + len))))) fun o=>K { t:=S.t,l:=S.l,o:=o,b:=S.b }))
            | _=>ac 267
          | _=>ac 268)
      | none=>ac 269
    | _=>ac 270
  | []=>ac 271
def xr (C:Ctx) (A:bP) (pl:aD) (o:Oper) (S:St) (K:St→Prop):Prop :=
  match o.op with
  | .mapUpdate t m key x=>match jQ A.mpr (keyOf o) with
    | some R=>a_ S m fun m=>a_ S key fun key=>a_ S x fun x=>fS C.P R t m key x S fun S'=>aA o.dst .bad S' K
    | none=>mJ C pl o S K
  | .insert t m key x=>match jQ A.mpr (keyOf o) with
    | some R=>a_ S m fun m=>a_ S key fun key=>a_ S x fun x=>fS C.P R t m key x S fun S'=>aA o.dst .bad S' K
    | none=>mJ C pl o S K
  | .makeSlice t l c=>match bh A.chk (keyOf o) with
    | true=>a_ S l fun l=>a_ S c fun c=>eC C.P t l c S fun S' a=>aA o.dst (zk (bh pl.nn (o.dst.getD 0)) a) S' K
    | false=>mJ C pl o S K
  | .call c=>match c.callee with
    | .builtin .append=>match bh A.chk (keyOf o) with
      | true=>bC S c.args.toList fun as=>match as with
        | [x,.v (.int _ n)]=>lg C.P c.argTypes.toList x n S fun S' r=>aA o.dst r S' K
        | [.ene,y]=>aB (bh pl.nn (o.dst.getD 0)) (kx C.P c.argTypes.toList .esl y S fun S' r=>aA o.dst (yO r) S' K)
        | [x,y]=>kx C.P c.argTypes.toList x y S fun S' r=>aA o.dst r S' K
        | _=>ac 210
      | false=>mJ C pl o S K
    | .builtin .copy=>bC S c.args.toList fun as=>match as with
        | [x,y]=>tQ C.P c.argTypes.toList x y S fun r S'=>aA o.dst r S' K
        | _=>ac 249
    | .builtin .clear=>match bh A.chk (keyOf o) with
      | true=>bC S c.args.toList fun as=>match as with
        | [x]=>qT C.P c.argTypes.toList x S fun S'=>aA o.dst (.tup []) S' K
        | _=>ac 249
      | false=>mJ C pl o S K
    | .value f=>a_ S f fun fv=>bC S c.args.toList fun as=>tS C A o fv as S fun S' r=>aA o.dst r S' K
    | _=>mJ C pl o S K
  | _=>mJ C pl o S K
def xN (A:bP) (dst:Option Tmp) (S:St) (K:St→Prop):Prop :=
  match dst with
  | none=>K S
  | some d=>match jQ A.val d with
    | none=>K S
    | some v=>ji S.t d fun a=>a=v∧kJ S.t d v fun t=>K { t:=t,l:=S.l,o:=S.o,b:=S.b }
def wv (A:bP) (key:Nat) (S:St) (K:St→Prop):Prop :=
  match jQ A.obr key with
  | none=>K S
  | some (id,R)=>match S.o[id]? with
    | some (.arr fl sz rows)=>rows=R∧ay (S.o.set id (.arr fl sz R)) fun o=>K { t:=S.t,l:=S.l,o:=o,b:=S.b }
    | _=>ac 430
def ww (C:Ctx) (A:bP) (pl:aD) (o:Oper) (S:St) (K:St→Prop):Prop :=
  bC S o.op.operands.toList fun vs=>yp C A pl o vs fun r=>aA o.dst r S K
def wx (C:Ctx) (A:bP) (o:Oper) (S:St) (K:St→Prop):Prop :=
  bC S o.op.operands.toList fun vs=>yq C A o vs (bp S) fun r=>aA o.dst r S K
def xO (C:Ctx) (A:bP) (o:Oper) (S:St) (K:St→Prop):Prop :=
  bC S o.op.operands.toList fun vs=>xo C A o vs (bp S) fun r M=>aA o.dst r (cq S M) K
def iP (row:Option (List (List AV))) (M:St) (pk:Bool) (id i:Nat) (k:AV→St→Prop):Prop :=
  match M.o[id]? with
  | some (.own ks sz cells none)=>match row with
    | none=>cells[i]?=some none∧k .nilsl M
    | some rows=>cells[i]?=some (some rows)∧match pk&&q6 sz with | true=>k .nn M | false=>dX (vB sz M.o.length) fun h=>ay (M.o.set id (.own ks sz cells (some (i,h)))++[.arr true (mB sz) rows]) fun o=>k (.mf M.o.length) { t:=M.t,l:=M.l,o:=o,b:=M.b }
  | _=>ac 323
def lh (P:Program) (a:oM) (t:TypeId) (same pk:Bool) (M:St) (id i:Nat) (k:AV→St→Prop):Prop :=
  match same with
  | true=>match M.o[id]? with
    | some (.own none _ cells (some (j,a)))=>(Nat.beq i j&&Nat.blt j cells.length)=true∧dJ P t [zC a] 0 fun r=>k r M
    | _=>ac 324
  | false=>iP a.row M pk id i fun a M'=>dJ P t [a] 0 fun r=>k r M'
def jK (P:Program) (t:TypeId) (M:St) (id i:Nat) (v:AV) (K:St→Prop):Prop :=
  match P.info? t,M.o[id]? with
  | some inf,some (.own none sz cells hole)=>aB (wT sz v&&Nat.beq inf.size 1) ((Nat.blt i cells.length&&g7 hole i)=true∧(ay (M.o.set id (.own none sz cells (some (i,v)))) fun o=>K { t:=M.t,l:=M.l,o:=o,b:=M.b }))
  | _,_=>ac 325
def li (P:Program) (nw:Bool) (j:Nat) (a:oM) (t:TypeId) (l c:AV) (M:St) (k:AV→St→Prop):Prop :=
  match P.underlying t with
  | some (.slice e) =>
    match P.info? e,P.underlying e with
    | some i,some (.slice e2)=>match P.info? e2 with
      | some i2=>intOf l fun l=>intOf c fun c=>(decide (0≤l)&&decide (l≤c)&&decide (i.bytes * c≤140737488355328)&&decide (c≤140737488355328)&&Nat.blt 0 i.size)=true∧aB (Nat.beq i.size 1&&(Nat.blt 0 i2.size&&Nat.blt i2.size 65536))
          (a9 P e fun z=>match z with
            | [.nilsl]=>List.replicate l.toNat none=a.cs∧gZ j M.o M.b (.own none (match nw with | true=>i2.size + 65536 | false=>i2.size) a.cs none) fun o=>k (.mf j) { t:=M.t,l:=M.l,o:=o,b:=M.b }
            | _=>ac 325)
      | none=>ac 326
    | _,_=>ac 61
  | _=>ac 62
def lj (P:Program) (a:oM) (t:TypeId) (m key:AV) (ok:Bool) (M:St) (k:AV→St→Prop):Prop :=
  match P.underlying t with
  | some (.map kt e)=>match m with
    | .mp id=>match M.o[id]? with
      | some (.own (some ks) _ _ none)=>match a.at_ with
        | some i=>(∀ K':Option Nat→Prop,K' (some i)→fI P kt key (fJ ks) fun _ r=>K' r)∧iP a.row M false id i fun a M'=>g5 ok a true fun r=>k r M'
        | none=>(∀ K':Option Nat→Prop,K' none→fI P kt key (fJ ks) fun _ r=>K' r)∧eD P e ok fun r=>k r M
      | _=>ac 333
    | _=>ac 334
  | _=>ac 335
def yX (M:St) (id sz:Nat) (cells:List (Option (List (List AV)))) (hole:Option (Nat×AV)) (x:AV) (K:St→Prop) (r:Option Nat) (ks:List AV):Prop :=
  match r with
  | some i=>g7 hole i=true∧(ay (M.o.set id (.own (some ks) sz cells (some (i,x)))) fun o=>K { t:=M.t,l:=M.l,o:=o,b:=M.b })
  | none=>match hole with
    | none=>ay (M.o.set id (.own (some ks) sz (cells++[none]) (some (cells.length,x)))) fun o=>K { t:=M.t,l:=M.l,o:=o,b:=M.b }
    | some _=>ac 339
def ky (P:Program) (a:oM) (t:TypeId) (m key x:AV) (M:St) (K:St→Prop):Prop :=
  match P.underlying t with
  | some (.map kt _)=>match m with
    | .mp id=>match M.o[id]? with
      | some (.own (some ks) sz cells hole)=>aB (sQ x&&!q6 sz) ((∀ K':Option Nat→List AV→Prop,K' a.at_ a.ks→fI P kt key (fJ ks) fun kv r=>aB (uG P kt kv) (match r with
          | some i=>aB (Instr.sameBits 10000 ((ks[i]?.bind sL).getD (.bool false)) kv) (K' (some i) (ks.set i key))
          | none=>K' none (ks++[key])))∧yX M id sz cells hole x K a.at_ a.ks)
      | _=>ac 340
    | _=>ac 341
  | _=>ac 342
def ul (P:Program) (A:bP) (pl:aD) (o:Oper) (vs:List AV) (M:St) (k:AV→St→Prop):Prop :=
  match jQ A.own (keyOf o) with
  | none=>fF P pl o vs M k
  | some a=>match o.op,vs with
    | .load t _,[p]=>dZ M p fun id i=>lh P a t (t7 pl o) (bh pl.pk (o.dst.getD 0)) M id i k
    | .store t _ _,[p,v]=>dZ M p fun id i=>jK P t M id i v fun M'=>k .bad M'
    | .makeSlice t _ _,[l,c]=>li P (bh pl.nw (o.dst.getD 0)) (mE pl.ix o.dst M.o.length) a t l c M k
    | .lookup t _ _ ok,[m,key]=>lj P a t m key ok M k
    | .mapUpdate t _ _ _,[m,key,x]=>ky P a t m key x M fun M'=>k .bad M'
    | .insert t _ _ _,[m,key,x]=>ky P a t m key x M fun M'=>k .bad M'
    | _,_=>ac 343
def iQ (A:bP) (S:St) (id:Nat) (K:St→Prop):Prop :=
  match jQ A.own (id + 2000000) with
  | none=>dK S id K
  | some a=>match S.o[id]? with
    | some (.own ks sz cells (some (j,.mf k)))=>match S.o[k]? with
      | some (.arr true sz' rows)=>aB (Nat.beq sz' (mB sz)&&!q6 sz) (Nat.blt j cells.length=true∧(cells.set j (some rows)=a.cs∧b_ [k] S fun S1=>ay (S1.o.set id (.own ks sz a.cs none)) fun o=>K { t:=S1.t,l:=S1.l,o:=o,b:=S1.b }))
      | _=>ac 320
    | some (.own ks sz cells (some (j,.mfx k)))=>match S.o[k]? with
      | some (.arr true sz' rows)=>aB (Nat.beq sz' (mB sz)) (Nat.blt j cells.length=true∧(cells.set j (some rows)=a.cs∧b_ [k] S fun S1=>ay (S1.o.set id (.own ks sz a.cs none)) fun o=>K { t:=S1.t,l:=S1.l,o:=o,b:=S1.b }))
      | _=>ac 320
    | some (.own ks sz cells (some (j,.nilsl)))=>Nat.blt j cells.length=true∧(cells.set j none=a.cs∧(ay (S.o.set id (.own ks sz a.cs none)) fun o=>K { t:=S.t,l:=S.l,o:=o,b:=S.b }))
    | _=>ac 321
def nQ (A:bP):List Nat→St→(St→Prop)→Prop
  | [],S,K=>K S
  | id::ids,S,K=>iQ A S id fun S'=>nQ A ids S' K
def kz (A:bP) (S:St) (id:Nat) (K:St→Prop):Prop :=
  match jQ A.mpr (id + 2000000) with
  | none=>eL S id K
  | some R=>match S.o[id]? with
    | some (.own (some ks) _ cells none)=>g6 ks cells=R∧(ay (S.o.set id (.mapo true R)) fun o=>K { t:=S.t,l:=S.l,o:=o,b:=S.b })
    | _=>ac 344
def lk (A:bP):List Nat→St→(St→Prop)→Prop
  | [],S,K=>K S
  | id::ids,S,K=>kz A S id fun S'=>lk A ids S' K
def nR (A:bP) (pl:aD) (id:Nat) (S:St) (K:St→Prop):Prop :=
  match bh pl.cl id with
  | false=>K S
  | true=>nQ A (sO S.o.length) S fun S1=>match bh pl.fr id with
    | false=>K S1
    | true=>lk A (sO S1.o.length) S1 K
def tU (C:Ctx) (A:bP) (o:Oper) (vs:List AV) (M:St) (k:AV→St→Prop):Prop :=
  match o.op,vs with
  | .makeSlice t _ _,[l,c]=>match bh A.chk (keyOf o) with
    | true=>eC C.P t l c M fun M' r=>k r M'
    | false=>fK C o vs M k
  | .call c,.fn fid first cap::as=>match c.callee with
    | .value _=>aB (!(C.pure fid)&&(first++as++cap).all (jU 4)) (match jQ A.sto (keyOf o) with
      | some (r,o')=>(C.scall fid (first++as++cap) M.o fun r' o''=>r'=r∧o''=o')∧aB (aF M.o o' 0).isEmpty (k r { t:=M.t,l:=M.l,o:=o',b:=M.b })
      | none=>C.scall fid (first++as++cap) M.o fun r o'=>aB (aF M.o o' 0).isEmpty (k r { t:=M.t,l:=M.l,o:=o',b:=M.b }))
    | _=>ac 310
  | _,_=>xo C A o vs M k
def wy (C:Ctx) (A:bP) (pl:aD) (o:Oper) (vs:List AV) (M:St) (k:AV→St→Prop):Prop :=
  match cK pl o with
  | true=>ul C.P A pl o vs M k
  | false=>tU C A o vs M k
def xP (C:Ctx) (A:bP) (pl:aD) (o:Oper) (S:St) (K:St→Prop):Prop :=
  bC S o.op.operands.toList fun vs=>ul C.P A pl o vs (bp S) fun r M=>aA o.dst r (cq S M) K
def wz (C:Ctx) (A:bP) (pl:aD) (o:Oper) (S:St) (K:St→Prop):Prop :=
  bC S o.op.operands.toList fun vs=>wy C A pl o vs (bp S) fun r M=>aA o.dst r (cq S M) K
def xQ (C:Ctx) (o:Oper) (S:St) (K:St→Prop):Prop :=
  bC S o.op.operands.toList fun vs=>yr C o vs fun r=>aA o.dst r S K
def gW (A:bP) (o:Oper) (K:St→Prop) (S:St):Prop:=xN A o.dst S fun S'=>wv A (keyOf o) S' K
def yu (C:Ctx) (A:bP) (pl:aD) (o:Oper) (S:St) (K:St→Prop):Prop :=
  match vM o with
  | 0=>ww C A pl o S (gW A o K)
  | 1=>wx C A o S (gW A o K)
  | 2=>xO C A o S (gW A o K)
  | _=>xr C A pl o S (gW A o K)
def xR (C:Ctx) (A:bP) (pl:aD) (o:Oper) (S:St) (K:St→Prop):Prop :=
  match cK pl o with
  | true=>xP C A pl o S (gW A o K)
  | false=>yu C A pl o S K
def sk (C:Ctx) (A:bP) (pl:aD) (o:Oper) (S:St) (K:St→Prop):Prop :=
  match cC pl o with
  | 0=>ww C A pl o S (gW A o K)
  | 1=>wx C A o S (gW A o K)
  | 2=>wz C A pl o S (gW A o K)
  | 4=>match o.dst with
    | some d=>aA o.dst (.ptr (.L d) 0 0) S K
    | none=>ac 217
  | 5=>xQ C o S (gW A o K)
  | _=>match rc pl o with
    | true=>ac 219
    | false=>xr C A pl o S (gW A o K)
def yv (op:BinOp):Bool :=
  match op with
  | .eql | .neq=>true
  | _=>false
def pZ (op:BinOp):Bool :=
  match op with
  | .eql=>true
  | _=>false
def xS (P:Program) (o:Oper) (S:St) (K:St→Prop):Prop :=
  match o.op with
  | .binOp op t x (.const (.slice none 0 0)) _=>match P.underlying t with
    | some (.slice _)=>a_ S x fun a=>match a with
      | .sl rows=>aB (yv op) ((rows=[]→aA o.dst (.v (.bool (pZ op))) S K)∧aA o.dst (.v (.bool (!(pZ op)))) S K)
      | _=>ac 460
    | _=>ac 461
  | _=>ac 462
def qU (C:Ctx) (A:bP) (pl:aD) (all:Array Oper):List Oper→St→(St→Prop)→Prop
  | [],S,K=>K S
  | o::rest,S,K =>
    match o.guard with
    | none=>match bh A.dem (keyOf o) with
      | true=>xS C.P o S fun S'=>qU C A pl all rest S' K
      | false=>xR C A pl o S fun S'=>qU C A pl all rest S' K
    | some (j,want) =>
      match jX all j with
      | none=>ac 218
      | some d=>cW d S fun b S1=>gsel b want (xR C A pl o S1 fun S'=>qU C A pl all rest S' K) (aA o.dst (.tup []) S1 fun S'=>qU C A pl all rest S' K)
def zH (C:Ctx) (A:bP) (pl:aD) (all:Array Oper) (o:Oper) (S:St) (K:St→Prop):Prop :=
  match o.guard with
  | none=>aB (d7 pl all o S) (sk C A pl o S K)
  | some (j,want) =>
    match jX all j with
    | none=>ac 218
    | some d=>cW d S fun b S1=>gsel b want (aB (d7 pl all o S1) (sk C A pl o S1 K)) (aA o.dst (.tup []) S1 K)
def yL (C:Ctx) (A:bP) (pl:aD) (ops:Array Oper) (i:Nat) (S:St) (K:St→Prop):Prop :=
  match ops[i]? with
  | none=>ac 303
  | some o=>zH C A pl ops o S K
def oT (C:Ctx) (A:bP) (pl:aD) (ops:Array Oper):PT→Option (St×Prop)→St→(St→Prop)→Prop
  | .done,m,S,K=>match m with
    | none=>K S
    | some (_,X)=>X
  | .go i t,m,S,K=>match m with
    | none=>yL C A pl ops i S fun S'=>oT C A pl ops t none S' K
    | some (_,_)=>ac 305
  | .alt i t r,m,S,K=>match m with
    | none=>yL C A pl ops i S fun S'=>oT C A pl ops t none S' fun S1=>oT C A pl ops r (some (S1,K S1)) S K
    | some (S1,X)=>yL C A pl ops i S fun S'=>oT C A pl ops t none S' fun S2=>S2=S1∧oT C A pl ops r (some (S1,X)) S K
def jc (f:Nat→Option PT):List Nat→Option PT
  | []=>some .done
  | i::is=>match f i with
    | some t=>match jc f is with
      | some r=>some (.alt i t r)
      | none=>none
    | none=>none
def zV:List Nat→Bool
  | [_,_] | [_,_,_] | [_,_,_,_]=>true
  | _=>false
def eK (pl:aD) (ops:Array Oper) (ws:List Nat):Nat→Nat→Array Bool→Option PT
  | 0,_,listed=>match Region.ready .any ops listed with
    | []=>some .done
    | _::_=>none
  | n + 1,a,listed =>
    match Region.ready .any ops listed with
    | []=>some .done
    | r::rs=>match g9 pl ops ws listed (r::rs) with
      | some k=>match eK pl ops ws n a (listed.setIfInBounds k true) with | some t=>some (.go k t) | none=>none
      | none=>match rs with
        | []=>match eK pl ops ws n a (listed.setIfInBounds r true) with | some t=>some (.go r t) | none=>none
        | _::_=>match zV (r::rs),a with
          | true,a + 1=>jc (fun i=>eK pl ops ws n a (listed.setIfInBounds i true)) (r::rs)
          | _,_=>none
def p0 (pl:aD) (ops:Array Oper) (ws:List Nat):Nat→Array Bool→Option PT
  | 0,listed=>eK pl ops ws 0 6 listed
  | n + 1,listed=>match hH ops listed (Region.ready .any ops listed) with
    | some i=>match p0 pl ops ws n (listed.setIfInBounds i true) with | some t=>some (.go i t) | none=>none
    | none=>eK pl ops ws (n + 1) 6 listed
def nS (pl:aD) (ops:Array Oper):Option PT :=
  match zn ops with
  | false=>none
  | true=>match pl.cl with
    | []=>eK pl ops (aM ops.toList []) ops.size 3 (Array.replicate ops.size false)
    | _::_=>p0 pl ops (aM ops.toList []) ops.size (Array.replicate ops.size false)
def fG (pl:aD) (ord:List (Nat×PT)):Code→Bool
  | .region id ops true=>match jQ ord id,nS pl ops with
    | some is,some js=>tN is js
    | _,_=>false
  | .seq a b=>fG pl ord a&&fG pl ord b
  | .cond _ a b=>fG pl ord a&&fG pl ord b
  | .block _ c=>fG pl ord c
  | .loop c=>fG pl ord c
  | _=>true
def jd:Code→Nat
  | .region id _ _=>id
  | .seq a _=>jd a
  | .cond _ a _=>jd a
  | .block _ c=>jd c
  | .loop c=>jd c
  | _=>0
def vg (A:yn) (id:Nat) (S:St) (K:St→Prop):Prop :=
  match jQ A.wr id with
  | some L=>wq L S K
  | none=>K S
def xt:Type:=Code→St→(Ex→St→Prop)→Prop
def nT (C:Ctx) (cd:xt) (A:yn) (pl:aD):Code→St→(Ex→St→Prop)→Prop
  | .skip,S,K=>K .nrm S
  | .region id ops draw,S,K =>
    match draw with
    | false=>qU C (vf A id) pl ops ops.toList S fun S'=>nR (vf A id) pl id S' fun S''=>vg A id S'' (K .nrm)
    | true=>match jQ A.ord id with
      | some is=>aB (lq pl ops) (ot C.P (a7 ops.toList) S fun S1=>oT C (vf A id) pl ops is none S1 fun S'=>e_ (a7 ops.toList) S' (nR (vf A id) pl id S' fun S''=>vg A id S'' (K .nrm)))
      | none=>ac 440
  | .seq a b,S,K=>nT C cd A pl a S fun e S'=>match e with
    | .nrm=>match jQ A.cut (jd b) with
      | some (W,L,e1,S1)=>wq L (wk W S') fun S2=>cd b S2 (fun e' S3=>e'=e1∧S3=S1)∧K e1 S1
      | none=>nT C cd A pl b S' K
    | .ex i=>K (.ex i) S'
    | .ret=>K .ret S'
  | .cond c x y,S,K=>gX c S fun b S'=>match b with
    | true=>nT C cd A pl x S' K
    | false=>nT C cd A pl y S' K
  | .block id c,S,K=>nT C cd A pl c S fun e S'=>match e with
    | .ex i=>match Nat.beq i id with | true=>K .nrm S' | false=>K (.ex i) S'
    | .nrm=>K .nrm S'
    | .ret=>K .ret S'
  | .loop c,S,K=>match jQ A.lps (jd c) with
    | some (W,L,e,S1)=>wq L (wk W S) fun S2=>(C.loop pl c S2 fun e' S'=>e'=e∧S'=S1)∧K e S1
    | none=>C.loop pl c S K
  | .exit id,S,K=>K (.ex id) S
  | .ret,S,K=>K .ret S
  | _,_,_=>ac 119
def sub:Code→List Nat→Code
  | c,[]=>c
  | .seq a _,0::p=>sub a p
  | .seq _ b,_::p=>sub b p
  | .cond _ a _,0::p=>sub a p
  | .cond _ _ b,_::p=>sub b p
  | .block _ c,_::p=>sub c p
  | .loop c,_::p=>sub c p
  | c,_=>c
def iD (P:Program) (f:Nat):Code :=
  match P.funcs[f]? with
  | some fn=>fn.body.getD .skip
  | none=>.skip
def bQ (S S':St):Prop:=∀ (G:Gh) (E:Env) (a:Act) (w:World),ad G pn E S w→TR G E S.t a→∃ E',ad G pn E' S' w∧TR G E' S'.t a
def yw:Ex→Nat
  | .nrm=>0
  | .ret=>1
  | .ex i=>i + 2
def yx (C:Ctx) (cd:xt) (A:yn) (pl:aD) (we:List (Nat×(Wk×Le))) (c:Code) (S:St) (K:Ex→St→Prop):Prop :=
  nT C cd A pl c S fun e S'=>match jQ we (yw e) with
    | some (W,L)=>wq L (wk W S') (K e)
    | none=>K e S'
def zP:List (Nat×AV)→Nat→Nat→List AV
  | _,_,0=>[]
  | xs,i,n + 1=>(match jQ xs i with | some a=>a | none=>.bad)::zP xs (i + 1) n
def yy (n:Nat) (ts:List (Nat×AV)) (l:List (Nat×List AV)) (o:List Ob) (b:Nat):St:={ t:=zP ts 0 n,l:=l,o:=o,b:=b }
theorem bQ.refl (S:St):bQ S S:=fun _ E _ _ h k=>⟨E,h,k⟩
theorem bQ.trans {S S' S'':St} (h:bQ S S') (k:bQ S' S''):bQ S S'':=fun G E a w hM ht=>by
  obtain ⟨E1,h1,h2⟩:=h G E a w hM ht
  exact k G E1 a w h1 h2
theorem iB.refl (a:AV):iB a a:=fun _ _ h=>h
theorem iB.trans {a b c:AV} (h:iB a b) (k:iB b c):iB a c:=fun _ _ hv=>k _ _ (h _ _ hv)
theorem iB.bad (a:AV):iB a .bad:=fun _ _ _=>.bad _ _
theorem iB.nil:iB .nilsl (.sl []):=fun E u h=>by cases h; exact .sln E
theorem iB.esl:iB .esl (.sl []):=fun E u h=>by
  cases h with
  | esln=>exact .sln E
  | esl _ a=>exact .sle E a 0
theorem gK.refl (r:List AV):gK r r:=⟨rfl,fun _ _ _ h k=>by rw [h] at k; cases k; exact .refl _⟩
theorem gK.nil:gK [] []:=.refl _
theorem gK.cons {a b:AV} {r r':List AV} (h:iB a b) (k:gK r r'):gK (a::r) (b::r') :=
  ⟨by simp [k.1],fun i x y h1 h2=>by
    cases i with
    | zero=>simp at h1 h2; subst h1 h2; exact h
    | succ i=>exact k.2 i x y (by simpa using h1) (by simpa using h2)⟩
theorem gK.vrs {r r':List AV} {E:Env} {us:List Value} (h:gK r r') (hv:aO E r us):aO E r' us :=
  ⟨by rw [← h.1]; exact hv.1,fun m c u h1 h2=>by
    have hm:m<r.length:=by rw [h.1]; exact (List.getElem?_eq_some_iff.1 h1).1
    exact h.2 m _ c (List.getElem?_eq_getElem hm) h1 _ _ (hv.2 m _ u (List.getElem?_eq_getElem hm) h2)⟩
theorem iB.agg {r r':List AV} (h:gK r r'):iB (.agg r) (.agg r'):=fun E u hv=>by
  obtain ⟨us,rfl,h1⟩:=hv.aggI
  exact aO.aggV (h.vrs h1)
theorem iB.tup {r r':List AV} (h:gK r r'):iB (.tup r) (.tup r'):=fun E u hv=>by
  obtain ⟨us,rfl,h1⟩:=hv.tupI
  have:=h.vrs h1
  exact .tup us (by simpa using this.1) (fun m c u h1 h2=>this.2 m c u h1 (by simpa using h2))
theorem iB.fptr {r r':List AV} {j:Nat} (h:gK r r'):iB (.fptr r j) (.fptr r' j):=fun E u hv=>by
  cases hv with
  | fptr j us h1 h2 h3 h4 =>
    have:=h.vrs (E:=E.fz) (us:=us) ⟨h1.symm,h2⟩
    exact .fptr j us this.1.symm this.2 h3 h4
theorem f8.refl (r:List (List AV)):f8 r r:=⟨rfl,fun _ _ _ h k=>by rw [h] at k; cases k; exact .refl _⟩
theorem f8.nil:f8 [] []:=.refl _
theorem f8.cons {a b:List AV} {r r':List (List AV)} (h:gK a b) (k:f8 r r'):f8 (a::r) (b::r') :=
  ⟨by simp [k.1],fun i x y h1 h2=>by
    cases i with
    | zero=>simp at h1 h2; subst h1 h2; exact h
    | succ i=>exact k.2 i x y (by simpa using h1) (by simpa using h2)⟩
theorem f8.app {a b r r':List (List AV)} (h:f8 a b) (k:f8 r r'):f8 (a++r) (b++r'):=by
  induction a generalizing b with
  | nil =>
    have:b=[]:=List.eq_nil_of_length_eq_zero h.1.symm
    subst this
    exact k
  | cons x a ih =>
    cases b with
    | nil=>exact absurd h.1 (by simp)
    | cons y b=>exact .cons (h.2 0 x y rfl rfl) (ih ⟨by simpa using h.1,fun i p q h1 h2=>h.2 (i + 1) p q (by simpa using h1) (by simpa using h2)⟩)
theorem gK.app {a b r r':List AV} (h:gK a b) (k:gK r r'):gK (a++r) (b++r'):=by
  induction a generalizing b with
  | nil =>
    have:b=[]:=List.eq_nil_of_length_eq_zero h.1.symm
    subst this
    exact k
  | cons x a ih =>
    cases b with
    | nil=>exact absurd h.1 (by simp)
    | cons y b=>exact .cons (h.2 0 x y rfl rfl) (ih ⟨by simpa using h.1,fun i p q h1 h2=>h.2 (i + 1) p q (by simpa using h1) (by simpa using h2)⟩)
theorem f8.flat {r r':List (List AV)} (h:f8 r r'):gK r.flatten r'.flatten:=by
  induction r generalizing r' with
  | nil =>
    have:r'=[]:=List.eq_nil_of_length_eq_zero h.1.symm
    subst this
    exact .refl _
  | cons x a ih =>
    cases r' with
    | nil=>exact absurd h.1 (by simp)
    | cons y b =>
      have h1:=h.2 0 x y rfl rfl
      have h2:=ih (r':=b) ⟨by simpa using h.1,fun i p q h1 h2=>h.2 (i + 1) p q (by simpa using h1) (by simpa using h2)⟩
      rw [List.flatten_cons,List.flatten_cons]
      have app:∀ {a b r r':List AV},gK a b→gK r r'→gK (a++r) (b++r'):=by
        intro a b r r' h k
        induction a generalizing b with
        | nil =>
          have:b=[]:=List.eq_nil_of_length_eq_zero h.1.symm
          subst this
          exact k
        | cons x a ih =>
          cases b with
          | nil=>exact absurd h.1 (by simp)
          | cons y b=>exact .cons (h.2 0 x y rfl rfl) (ih ⟨by simpa using h.1,fun i p q h1 h2=>h.2 (i + 1) p q (by simpa using h1) (by simpa using h2)⟩)
      exact app h1 h2
theorem f8.lens {r r':List (List AV)} {sz:Nat} (h:f8 r r') (hl:∀ x∈r,x.length=sz):∀ x∈r',x.length=sz:=by
  intro x hx
  obtain ⟨i,hi⟩:=List.getElem?_of_mem hx
  have hlt:i<r.length:=by rw [h.1]; exact (List.getElem?_eq_some_iff.1 hi).1
  rw [← (h.2 i _ x (List.getElem?_eq_getElem hlt) hi).1]
  exact hl _ (List.getElem_mem hlt)
theorem iB.sl {r r':List (List AV)} (h:f8 r r'):iB (.sl r) (.sl r'):=fun E u hv=>by
  cases hv with
  | sln =>
    have:r'=[]:=List.eq_nil_of_length_eq_zero h.1.symm
    subst this
    exact .sln E
  | sle _ a cap =>
    have:r'=[]:=List.eq_nil_of_length_eq_zero h.1.symm
    subst this
    exact .sle E a cap
  | sl us h1 h2 h3 h4 h5 h6 h7 =>
    have hf:=h.flat
    have:=hf.vrs (E:=E.fz) (us:=us) ⟨h3.symm,h4⟩
    rw [h.1]
    exact .sl us h1 (h.lens h2) this.1.symm this.2 h5 h6 (by rw [← h.1]; exact h7)
theorem uo {ts:List Nat}:∀ {t:List AV} {i j:Nat} {c:AV},(xl ts i t)[j]?=some c→c=.bad∨t[j]?=some c
  | [],_,_,_,h=>by simp [xl] at h
  | x::xs,i,0,c,h=>by
    simp only [xl,List.getElem?_cons_zero,Option.some.injEq] at h
    split at h
    · exact .inr (by rw [← h]; rfl)
    · exact .inl h.symm
  | x::xs,i,j + 1,c,h=>by
    simp only [xl,List.getElem?_cons_succ] at h
    rw [List.getElem?_cons_succ]
    exact uo h
theorem uq {ts:List Nat}:∀ {t:List AV} {i:Nat},(xl ts i t).length=t.length
  | [],_=>rfl
  | x::xs,i=>by simp [xl,uq]
theorem wA (ts:List Nat) (S:St):bQ S { t:=xl ts 0 S.t,l:=S.l,o:=S.o,b:=S.b }:=fun _ E _ _ hM ht =>
  ⟨E,hM.congr rfl rfl rfl,by rw [uq]; exact ht.len,fun n c u h1 h2=>by
    rcases uo h1 with h | h
    · rw [h]; exact .bad _ _
    · exact ht.val n c u h h2,ht.df,ht.gt⟩
theorem qV (d:Nat) (S:St):bQ S (b4 d S):=fun G E a w hM ht=>by
  obtain ⟨E1,h1,h2,_⟩:=jt hM ht d rfl
  exact ⟨E1,h1,h2⟩
theorem kA:∀ (ds:List Nat) (S:St),bQ S (qO ds S)
  | [],S=>.refl S
  | d::ds,S=>(qV d S).trans (kA ds _)
theorem p1 (i:Nat) (S:St):bQ S (bG i S):=fun _ _ _ _ hM ht =>
  let ⟨h1,h2⟩:=fM hM ht i
  ⟨_,h1,h2⟩
theorem nU:∀ (ds:List Nat) (S:St),bQ S (wo ds S)
  | [],S=>.refl S
  | d::ds,S=>(p1 d S).trans (nU ds _)
theorem iE:∀ {os:List Ob} {i:Nat} {x:Ob},qP os=true→os[i]?=some x→x=.dead
  | [],i,x,_,h=>by simp at h
  | .dead::os,0,x,_,h=>by simp at h; exact h.symm
  | .dead::os,i + 1,x,h,h1=>iE (os:=os) (i:=i) h (by simpa using h1)
  | .arr _ _ _::os,_,_,h,_=>by cases h
  | .mapo _ _::os,_,_,h,_=>by cases h
  | .own _ _ _ _::os,_,_,h,_=>by cases h
theorem vh (n:Nat) (S:St):bQ S (yk n S):=fun _ E _ _ hM ht=>by
  unfold yk
  split
  · rename_i h
    rw [Bool.and_eq_true] at h
    have hb:=Nat.le_of_ble_eq_true h.2
    have hbl:=hM.bl
    refine ⟨E,⟨hM.hp,hM.os,hM.tape,hM.output,hM.size,hM.keep,hM.F0,hM.Flt,hM.Fnew,hM.own,hM.inj,hM.loc,fun id=>?_,fun id hid=>?_,?_,hM.szs,hM.pk,fun id=>?_⟩,ht⟩
    · have h0:=hM.obj id
      show b9 E (S.o.take n)[id]? _
      rw [List.getElem?_take]
      split
      · exact h0
      · rename_i hn
        cases hx:S.o[id]? with
        | none=>rw [hx] at h0; exact h0
        | some x =>
          have:x=.dead:=iE h.1 (i:=id - n) (by rw [List.getElem?_drop]; rw [show n + (id - n)=id by omega]; exact hx)
          rw [hx,this] at h0
          revert h0
          cases E.mu (.O id) with
          | none=>exact fun _=>trivial
          | some _=>exact fun h=>h.elim
    · show (S.o.take n)[id]?=some .dead∨_
      have hid':id<S.b:=hid
      rw [List.getElem?_take,if_pos (by omega)]
      exact hM.old id hid
    · show S.b≤(S.o.take n).length
      rw [List.length_take]
      omega
    · have h0:=hM.ow id
      show bi E id (S.o.take n)[id]?
      rw [List.getElem?_take]
      split
      · exact h0
      · rename_i hn
        cases hx:S.o[id]? with
        | none=>rw [hx] at h0; exact h0
        | some x =>
          have:x=.dead:=iE h.1 (i:=id - n) (by rw [List.getElem?_drop]; rw [show n + (id - n)=id by omega]; exact hx)
          rw [hx,this] at h0
          exact h0
  · exact ⟨E,hM,ht⟩
theorem nV {G:Gh} {E:Env} {S:St} {w:World} (hM:ad G pn E S w):E.mu (.O S.o.length)=none:=by
  have:=hM.obj S.o.length
  rw [List.getElem?_eq_none (Nat.le_refl _)] at this
  revert this
  cases E.mu (.O S.o.length) with
  | none=>exact fun _=>rfl
  | some _=>exact fun h=>h.elim
theorem sn {G:Gh} {E:Env} {S:St} {w:World} (hM:ad G pn E S w) (sz:Nat) (t:List AV):ad G pn ⟨E.F,ai E.mu (.O S.o.length) .virt,E.h⟩ { t:=t,l:=S.l,o:=S.o++[.arr true sz []],b:=S.b } w:=by
  have hbl:=hM.bl
  refine hM.addkey' (key:=.O S.o.length) (mv:=.virt) (fun _ _=>rfl) (fun _ h=>by cases h) (nV hM) (fun _ _ _ _ h=>by cases h) (fun _ _=>rfl) (fun id hid=>?_) rfl ?_ (fun id h=>?_) (fun _ h=>by cases h) (fun id h=>?_) ?_
  · show (S.o++[_])[id]?=_
    by_cases h:id<S.o.length
    · rw [List.getElem?_append_left h]
    · have hne:id≠S.o.length:=fun e=>hid (by rw [e])
      rw [List.getElem?_eq_none (by simp; omega),List.getElem?_eq_none (by omega)]
  · show S.b≤(S.o++[_]).length
    simp
    omega
  · cases h
    exact hbl
  · cases h
    show b9 _ (S.o++[_])[S.o.length]? _
    rw [List.getElem?_append_right (Nat.le_refl _),Nat.sub_self]
    rfl
  · exact hM.ow_push rfl rfl
theorem jL:∀ (ps:List (Nat×Nat)) (S:St),bQ S (sj ps S)
  | [],S=>.refl S
  | (d,sz)::ps,S=>by
    unfold sj
    split
    · rename_i hd
      refine bQ.trans ?_ (jL ps _)
      intro G E a w hM ht
      refine ⟨_,sn hM sz _,?_⟩
      have hle:LE E ⟨E.F,ai E.mu (.O S.o.length) .virt,E.h⟩:=dQ (nV hM)
      refine ⟨by simpa using ht.len,fun n c u h1 h2=>?_,ht.df,ht.gt.mono hle⟩
      have h1':(S.t.set d (.mf S.o.length))[n]?=some c:=h1
      rw [List.getElem?_set] at h1'
      split at h1'
      · rename_i e
        subst e
        split at h1'
        · cases h1'
          have hv:=ht.val d _ u hd h2
          cases hv
          exact .mfn (by show ai _ _ _ _=_; unfold ai; rw [if_pos rfl])
        · cases h1'
      · exact (ht.val n c u h1' h2).mono hle
    · exact jL ps S
theorem gL:∀ (ps:List (Nat×Nat×Nat)) (S:St),bQ S (pX ps S)
  | [],S=>.refl S
  | (d,j,sz)::ps,S=>by
    unfold pX
    split
    · rename_i row hd
      split
      · rename_i hj
        refine bQ.trans ?_ (gL ps _)
        intro G E a w hM ht
        have hle:LE E ⟨E.F,ai E.mu (.O S.o.length) .virt,E.h⟩:=dQ (nV hM)
        refine ⟨_,?_,ht.mono hle⟩
        have h0:=sn hM sz S.t
        refine ⟨h0.hp,h0.os,h0.tape,h0.output,h0.size,h0.keep,h0.F0,h0.Flt,h0.Fnew,h0.own,h0.inj,fun e=>?_,h0.obj,h0.old,h0.bl,h0.szs,(fun _ _ h=>by cases h),h0.ow⟩
        have h1:=h0.loc e
        show c_ pn _ (ap (jV S.l d (row.set j (.mf S.o.length))) e) e
        rw [ea hd]
        split
        · rename_i e'
          subst e'
          have h1':c_ pn ⟨E.F,ai E.mu (.O S.o.length) .virt,E.h⟩ (ap S.l d) d:=h1
          rw [hd] at h1'
          rcases h1' with ⟨b,h2,h3,h4,us,ty,h5,h6,h7⟩ | ⟨_,h2,_⟩
          · refine .inl ⟨b,by simpa using h2,by simpa using h3,by simp,us,ty,h5,by simpa using h6,fun m c hc=>?_⟩
            have hf:[row.set j (.mf S.o.length)].flatten=row.set j (.mf S.o.length):=by simp
            have hf0:[row].flatten=row:=by simp
            rw [hf,List.getElem?_set] at hc
            split at hc
            · rename_i e'
              subst e'
              split at hc
              · cases hc
                obtain ⟨u,hu,hv⟩:=h7 j .nilsl (by rw [hf0]; exact hj)
                refine ⟨u,hu,?_⟩
                cases hv
                exact .mfn (by show ai _ _ _ _=_; unfold ai; rw [if_pos rfl])
              · cases hc
            · exact h7 m c (by rw [hf0]; exact hc)
          · cases h2
        · exact h1
      · exact gL ps S
    · exact gL ps S
theorem ut {G:Gh} {E:Env} {S:St} {w:World} {a:Act} (hM:ad G pn E S w) (ht:TR G E S.t a) (ids:List Nat):LE (E.fd ids) ⟨FD E ids,ed ids E.mu,E.h⟩∧ad G pn ⟨FD E ids,ed ids E.mu,E.h⟩ (b5 ids S) w∧TR G ⟨FD E ids,ed ids E.mu,E.h⟩ (b5 ids S).t a:=by
  obtain ⟨hS1,ht1⟩:=f3 (ids:=ids) hM ht
  obtain ⟨hle2,hS2⟩:=hS1.freeze (F':=FD E ids) (fun b h=>.inl h) (fun b h=>by
    rcases h with h | ⟨id,hid,o',s,n,hm⟩
    · exact .inl h
    · obtain ⟨h1,h2,h3⟩:=hM.own _ _ _ _ _ hm
      refine .inr ⟨h2,h3,fun k o'' s' n' h'=>?_⟩
      obtain ⟨h4,h5⟩:=dD h'
      exact h5 id hid (hM.inj _ _ _ _ _ _ _ _ _ h4 hm))
  exact ⟨⟨fun _ h=>h,fun _ _ _ h=>(by cases h),fun _ _=>rfl,fun _ _ _ _ _ _ h=>(by cases h)⟩,hS2,ht1.mono hle2⟩
theorem vi {S:St} {d j:Nat} {row:List AV} {x y:AV} (hr:ap S.l d=some row) (hj:row[j]?=some x) (hy:sK S.o 6 x=some y):bQ S (yl (bE S.o 6 x) d j y S):=by
  intro G E a w hM ht
  obtain ⟨hle,hS2,ht2⟩:=ut hM ht (bE S.o 6 x)
  unfold yl
  split
  · rename_i row' hr'
    refine ⟨_,⟨hS2.hp,hS2.os,hS2.tape,hS2.output,hS2.size,hS2.keep,hS2.F0,hS2.Flt,hS2.Fnew,hS2.own,hS2.inj,fun e=>?_,hS2.obj,hS2.old,hS2.bl,hS2.szs,(fun _ _ h=>by cases h),hS2.ow⟩,ht2⟩
    show c_ pn _ (ap (jV (b5 (bE S.o 6 x) S).l d (row'.set j y)) e) e
    rw [ea hr']
    split
    · rename_i e'
      subst e'
      have l1:=hM.loc d
      have l2:=hS2.loc d
      rw [hr] at l1
      rw [hr'] at l2
      rcases l1 with ⟨b,h2,h3,h4,us,ty,h5,h6,h7⟩ | ⟨_,h2,_⟩
      · rcases l2 with ⟨b',k2,k3,k4,us',ty',k5,k6,k7⟩ | ⟨_,k2,_⟩
        · have k2':=(dD k2).1
          rw [h2] at k2'
          injection k2' with k2'
          injection k2' with e1 _ _ _
          subst e1
          have k5':E.h[b]?=_:=k5
          rw [h5] at k5'
          cases k5'
          refine .inl ⟨b,by simpa using k2,by simpa using k3,by simp,us,ty,k5,by simpa using k6,fun m c hc=>?_⟩
          have hf:[row'.set j y].flatten=row'.set j y:=by simp
          have hf0:[row'].flatten=row':=by simp
          rw [hf,List.getElem?_set] at hc
          split at hc
          · rename_i e'
            subst e'
            split at hc
            · cases hc
              have hf1:[row].flatten=row:=by simp
              obtain ⟨u,hu,hv⟩:=h7 j x (by rw [hf1]; exact hj)
              exact ⟨u,hu,(cX hM 6 hy hv (ids:=bE S.o 6 x) (fun _ h=>h)).mono hle⟩
            · cases hc
          · exact k7 m c (by rw [hf0]; exact hc)
        · cases k2
      · cases h2
    · exact hS2.loc e
  · exact ⟨_,hS2,ht2⟩
theorem cz:∀ (ds:List Nat) (S:St),bQ S (mc ds S)
  | [],S=>.refl S
  | d::ds,S=>by
    unfold mc
    split
    · split
      · rename_i row hr
        split
        · rename_i x hx
          split
          · rename_i y hy
            exact (vi hr hx hy).trans (cz ds _)
          · exact cz ds S
        · exact cz ds S
      · exact cz ds S
    · split
      · rename_i x hx
        split
        · rename_i y hy
          refine bQ.trans ?_ (cz ds _)
          intro G E a w hM ht
          obtain ⟨hle,hS2,ht2⟩:=ut hM ht (bE S.o 6 x)
          refine ⟨_,hS2.congr rfl rfl rfl,by simpa using ht2.len,fun n c u h1 h2=>?_,ht2.df,ht2.gt⟩
          have h1':((b5 (bE S.o 6 x) S).t.set d y)[n]?=some c:=h1
          rw [List.getElem?_set] at h1'
          split at h1'
          · rename_i e
            subst e
            split at h1'
            · cases h1'
              exact (cX hM 6 hy (ht.val d _ u hx h2) (ids:=bE S.o 6 x) (fun _ h=>h)).mono hle
            · cases h1'
          · exact ht2.val n c u h1' h2
        · exact cz ds S
      · exact cz ds S
theorem wB (W:Wk) (S:St):bQ S (zG W S):=by
  unfold zG
  exact (wA W.ts S).trans ((kA W.ls _).trans ((nU _ _).trans ((vh _ _).trans ((jL _ _).trans (gL _ _)))))
theorem iR (W:Wk) (S:St):bQ S (wk W S):=(cz W.fz S).trans (wB W _)
theorem sq:∀ {xs:List (Nat×AV)} {S:St} {K:St→Prop},ym xs S K→∃ S',bQ S S'∧K S'
  | [],S,K,h=>⟨S,.refl S,h⟩
  | (d,v)::xs,S,K,h=>by
    obtain ⟨a,ha,hl,h⟩:=aY.1 h
    rw [bV] at h
    obtain ⟨S',h1,h2⟩:=sq h
    refine ⟨S',bQ.trans ?_ h1,h2⟩
    intro G E act w hM ht
    refine ⟨E,hM.congr rfl rfl rfl,by simpa using ht.len,fun n c u h1 h2=>?_,ht.df,ht.gt⟩
    have h1':(S.t.set d v)[n]?=some c:=h1
    rw [List.getElem?_set] at h1'
    split at h1'
    · rename_i e
      subst e
      split at h1'
      · cases h1'
        exact hl _ _ (ht.val d _ u ha h2)
      · cases h1'
    · exact ht.val n c u h1' h2
theorem sr:∀ {xs:List (Nat×List AV)} {S:St} {K:St→Prop},xm xs S K→∃ S',bQ S S'∧K S'
  | [],S,K,h=>⟨S,.refl S,h⟩
  | (d,r)::xs,S,K,h=>by
    unfold xm at h
    split at h
    · rename_i row hd
      obtain ⟨hl,h⟩:=h
      rw [dN] at h
      obtain ⟨S',h1,h2⟩:=sr h
      refine ⟨S',bQ.trans ?_ h1,h2⟩
      intro G E act w hM ht
      refine ⟨E,?_,ht⟩
      refine ⟨hM.hp,hM.os,hM.tape,hM.output,hM.size,hM.keep,hM.F0,hM.Flt,hM.Fnew,hM.own,hM.inj,fun e=>?_,hM.obj,hM.old,hM.bl,hM.szs,(fun _ _ h=>by cases h),hM.ow⟩
      have h1:=hM.loc e
      show c_ pn _ (ap (jV S.l d r) e) e
      rw [ea hd]
      split
      · rename_i e'
        subst e'
        rw [hd] at h1
        rcases h1 with ⟨b,h2,h3,h4,us,ty,h5,h6,h7⟩ | ⟨_,h2,_⟩
        · refine .inl ⟨b,by rw [← hl.1]; exact h2,by rw [← hl.1]; exact h3,by simp,us,ty,h5,by rw [← hl.1]; exact h6,fun m c hc=>?_⟩
          have hf:[r].flatten=r:=by simp
          have hf0:[row].flatten=row:=by simp
          rw [hf] at hc
          have hm:m<row.length:=by rw [hl.1]; exact (List.getElem?_eq_some_iff.1 hc).1
          obtain ⟨u,hu,hv⟩:=h7 m _ (by rw [hf0]; exact List.getElem?_eq_getElem hm)
          exact ⟨u,hu,hl.2 m _ c (List.getElem?_eq_getElem hm) hc _ _ hv⟩
        · cases h2
      · exact h1
    · exact False.elim h
theorem ss:∀ {xs:List (Nat×List (List AV))} {S:St} {K:St→Prop},xn xs S K→∃ S',bQ S S'∧K S'
  | [],S,K,h=>⟨S,.refl S,h⟩
  | (i,R)::xs,S,K,h=>by
    unfold xn at h
    split at h
    · rename_i fl sz rows hi
      obtain ⟨hl,h⟩:=h
      rw [ak] at h
      obtain ⟨S',h1,h2⟩:=ss h
      refine ⟨S',bQ.trans ?_ h1,h2⟩
      intro G E act w hM ht
      refine ⟨E,?_,ht⟩
      refine ⟨hM.hp,hM.os,hM.tape,hM.output,hM.size,hM.keep,hM.F0,hM.Flt,hM.Fnew,hM.own,hM.inj,hM.loc,fun id=>?_,fun id hid=>?_,by show S.b≤(S.o.set _ _).length; rw [List.length_set]; exact hM.bl,hM.szs,hM.pk,fun id=>?_⟩
      · have h1:=hM.obj id
        show b9 E (S.o.set i _)[id]? _
        rw [List.getElem?_set]
        split
        · rename_i e
          subst e
          rw [if_pos (List.getElem?_eq_some_iff.1 hi).1]
          rw [hi] at h1
          revert h1
          cases E.mu (.O i) with
          | none=>exact fun h=>h
          | some mv =>
            cases mv with
            | virt =>
              intro h
              have h:rows=[]:=h
              subst h
              exact List.eq_nil_of_length_eq_zero hl.1.symm
            | blk b o s n =>
              rintro ⟨⟨h1,h2⟩,h3,h4,us,ty,h5,h6,h7⟩
              refine ⟨⟨h1,by rw [← hl.1]; exact h2⟩,h3,hl.lens h4,us,ty,h5,by rw [← hl.1]; exact h6,fun m c hc=>?_⟩
              have hf:=hl.flat
              have hm:m<rows.flatten.length:=by rw [hf.1]; exact (List.getElem?_eq_some_iff.1 hc).1
              obtain ⟨u,hu,hv⟩:=h7 m _ (List.getElem?_eq_getElem hm)
              exact ⟨u,hu,hf.2 m _ c (List.getElem?_eq_getElem hm) hc _ _ hv⟩
        · exact h1
      · have h1:=hM.old id hid
        show (S.o.set i _)[id]?=some .dead∨_
        rw [List.getElem?_set]
        split
        · rename_i e
          subst e
          rcases h1 with h1 | h1
          · rw [hi] at h1; cases h1
          · exact .inr h1
        · exact h1
      · have h1:=hM.ow id
        show bi E id (S.o.set i _)[id]?
        rw [List.getElem?_set]
        split
        · rename_i e
          subst e
          rw [if_pos (List.getElem?_eq_some_iff.1 hi).1]
          rw [hi] at h1
          exact h1
        · exact h1
    · exact False.elim h
theorem fT {L:Le} {S:St} {K:St→Prop} (h:wq L S K):∃ S',bQ S S'∧K S':=by
  obtain ⟨S1,h1,h⟩:=sq h
  obtain ⟨S2,h2,h⟩:=sr h
  obtain ⟨S3,h3,h⟩:=ss h
  exact ⟨S3,h1.trans (h2.trans h3),h⟩
structure nW (C:Ctx):Prop where
  det:cE C
theorem aj.mono2 {α β:Type} {X:(α→β→Prop)→Prop} (h:ah X) {K K':α→β→Prop} (hx:X K) (hk:∀ r s,K r s→K' r s):X K':=by
  obtain ⟨r,s,h1,h2⟩:=h _ hx
  exact h2 _ (hk r s h1)
theorem aj.mono {α:Type} {X:(α→Prop)→Prop} (h:aj X) {K K':α→Prop} (hx:X K) (hk:∀ r,K r→K' r):X K':=by
  obtain ⟨r,h1,h2⟩:=h K hx
  exact h2 _ (hk r h1)
theorem ah.mono {α β:Type} {X:(α→β→Prop)→Prop} (h:ah X) {K K':α→β→Prop} (hx:X K) (hk:∀ a b,K a b→K' a b):X K':=by
  obtain ⟨a,b,h1,h2⟩:=h K hx
  exact h2 _ (hk a b h1)
theorem vj {op:BinOp} {x y:Value} {K:Value→Prop} (h:wt op x y K):mD op x y K:=by
  unfold wt at h
  unfold mD
  split at h <;> first
    | exact af h.1 h.2
    | exact False.elim h
section
variable {C:Ctx} {A:bP} {pl:aD} {o:Oper}
theorem vk {op:BinOp} {t:TypeId} {x y:AV} {k:AV→Prop} (h:wu C A o op t x y k):sM C.P op t x y k:=by
  unfold wu at h
  split at h
  · rename_i a b
    show oV C.P op t a b k
    unfold oV
    split at h
    · rename_i hn
      rw [hn]
      dsimp only
      split at h
      · exact h
      · rename_i a b hne
        split
        · exact (hne _ _ rfl rfl).elim
        · exact vj h
    · rename_i c hc
      rw [hc]
      exact h
  · rename_i as bs
    show (match lX as,lX bs with
    | some xs,some ys =>
      match vH C.P op t xs ys with
      | some (.bool b)=>k (.v (.bool b))
      | _=>ac 226
    | _,_=>ac 227)
    split at h
    · rename_i xs ys h1 h2
      try rw [h1,h2]
      try dsimp only
      split at h
      · rw [h.1]
        exact h.2
      · exact False.elim h
    · exact False.elim h
  · exact False.elim h
theorem su {t:TypeId} {x ix:AV} {k:AV→Prop} (h:qQ C A o t x ix k):jj C.P t x ix k:=by
  unfold qQ at h
  unfold jj
  refine aj.mono ax h (fun i h'=>?_)
  clear h
  split at h'
  · rename_i s hu
    rw [hu]
    dsimp only
    split at h'
    · rw [h'.1]
      dsimp only
      have h2:=h'.2.2
      rw [h'.2.1] at h2
      exact h2
    · exact False.elim h'
  · rename_i len e cs hu
    rw [hu]
    dsimp only
    have h:=h'
    split at h
    · rename_i inf hi
      rw [hi]
      exact af h.1 h.2
    · exact False.elim h
  · exact False.elim h'
theorem wC {vs:List AV} {k:AV→Prop} (h:yp C A pl o vs k):pop C pl o vs k:=by
  unfold yp at h
  split at h
  · exact h
  · split at h
    · rename_i ho
      unfold pop
      rw [ho]
      exact vk h
    · rename_i ho
      unfold pop
      rw [ho]
      exact su h
    · exact False.elim h
theorem iS {len cap:Nat} {lo hi mx:Option Int} {k:Nat→Nat→Nat→Prop} (h:pY len cap lo hi mx k):kK len cap lo hi mx k:=by
  unfold pY at h
  unfold kK
  split at h <;> first
    | exact h
    | exact af h.1 h.2
    | exact False.elim h
theorem qW {mx hi:Option Int} {k:Bool→Prop} (h:zr mx hi k):k (dz mx&&dz hi):=by
  cases mx with
  | none=>exact h
  | some m =>
    obtain ⟨h1,h2⟩:=h
    rw [h1]
    exact h2
theorem dG {t:TypeId} {x:AV} {lo hi mx:Option Int} {S:St} {k:AV→Prop} (h:fR C t x lo hi mx S k):dY C.P t x lo hi mx S k:=by
  unfold fR at h
  unfold dY
  split at h
  · rename_i hu
    rw [hu]
    dsimp only
    split at h
    · exact iS h
    · exact False.elim h
  · rename_i e hu
    rw [hu]
    dsimp only
    split at h
    · rename_i i hi
      rw [hi]
      dsimp only
      obtain ⟨h0,h⟩:=ab h
      refine af h0 ?_
      split at h
      · have h2:=qW h.2
        rw [Bool.and_comm (dz _) (dz _)] at h2
        exact af h.1 (iS h2)
      · split at h
        · rename_i ho
          dsimp only
          rw [ho]
          obtain ⟨h1,h⟩:=ab h
          have h2:=qW h
          rw [Bool.and_comm (dz _) (dz _)] at h2
          exact af h1 (iS h2)
        · exact False.elim h
      · split at h
        · rename_i ho
          dsimp only
          rw [ho]
          obtain ⟨h1,h⟩:=ab h
          have h2:=qW h
          rw [Bool.and_comm (dz _) (dz _)] at h2
          exact af h1 (iS h2)
        · exact False.elim h
      · exact False.elim h
    · exact False.elim h
  · exact False.elim h
theorem md {row:List AV} {t:TypeId} {x ix:AV} {S:St} {k:AV→Prop} (h:iC C row t x ix S k):dp C.P t x ix S k:=by
  unfold iC at h
  unfold dp
  refine aj.mono ax h (fun i h=>?_)
  split at h
  · rename_i e hu
    rw [hu]
    dsimp only
    split at h
    · rename_i inf hi
      rw [hi]
      dsimp only
      split at h
      · have h1:=h.1
        unfold yo at h1
        dsimp only
        rw [h1]
        exact h.2
      · split at h
        · rename_i ho
          dsimp only
          rw [ho]
          dsimp only
          have h1:=h.1
          unfold yo at h1
          rw [h1]
          exact h.2
        · rename_i ho
          dsimp only
          rw [ho]
          obtain ⟨h1,h2,h3⟩:=ab h
          refine af ?_ h3
          rw [Bool.and_eq_true]
          exact ⟨h2,h1⟩
        · exact False.elim h
      · split at h
        · rename_i ho
          dsimp only
          rw [ho]
          dsimp only
          refine af h.1 ?_
          rw [h.2.1]
          exact h.2.2
        · exact False.elim h
      · exact False.elim h
    · exact False.elim h
  · rename_i len e hu
    rw [hu]
    dsimp only
    split at h
    · rename_i inf hi
      rw [hi]
      exact af h.1 h.2
    · exact False.elim h
  · exact False.elim h
theorem lQ (hC:nW C) {fid:Nat} {as:List AV} {k:AV→Prop} (h:mq C A o fid as k):C.pcall fid as k:=by
  unfold mq at h
  split at h
  · exact aj.mono (hC.det.pcall _ _) h.1 (fun _ e=>by rw [e]; exact h.2)
  · exact h
theorem tV {P:Program} {op:BinOp} {t:TypeId} {x y:AV} {S:St} {k:AV→Prop} (h:tO P op t x y S k):lm P op t x y S k:=by
  unfold tO at h
  split at h
  · rename_i id
    split at h
    · rename_i rows hob
      obtain ⟨h1,h⟩:=h
      have:jk S (.mf id)=true:=by
        unfold jk
        dsimp only
        rw [hob]
        cases rows with
        | nil=>cases h1
        | cons _ _=>rfl
      unfold lm
      rw [this]
      exact h
    · exact False.elim h
  · rename_i rows
    obtain ⟨h1,h⟩:=h
    have:jk S (.sl rows)=true:=by
      unfold jk
      cases rows with
      | nil=>cases h1
      | cons _ _=>rfl
    unfold lm
    rw [this]
    exact h
  · exact False.elim h
theorem gM {size:Nat} {S:St} {x:AV} {k:Bool→List (List AV)→Prop} (h:lc size S x k):eq size S x k:=by
  unfold lc at h
  unfold eq
  split at h <;> first
    | exact af h.1 h.2
    | exact h
    | exact False.elim h
theorem sv {src dst:TypeId} {x:AV} {S:St} {s:ByteArray} {k:AV→Prop} (h:qR C.P src dst x S s k):cw C.P src dst x S k:=by
  unfold qR at h
  unfold cw
  split at h
  · rename_i hu hd
    rw [hu,hd]
    dsimp only
    split at h
    · rename_i he
      rw [he]
      dsimp only
      obtain ⟨h1,h⟩:=ab h
      refine af h1 (ah.mono bJ (gM h) (fun fl rows h=>?_))
      rw [h.1]
      show k (.v (.string ⟨s.data.toList.toArray⟩))
      have:(⟨s.data.toList.toArray⟩:ByteArray)=s:=by cases s; simp
      rw [this]
      exact h.2
    · exact False.elim h
  · exact False.elim h
theorem wD (hC:nW C) {vs:List AV} {M:St} {k:AV→Prop} (h:yq C A o vs M k):iT C o vs M k:=by
  unfold yq at h
  split at h
  · rename_i ho
    split at h
    · split at h
      · split at h
        · rename_i hob
          unfold iT
          rw [ho]
          dsimp only
          unfold vC
          dsimp only
          unfold om
          dsimp only
          rw [hob]
          dsimp only
          rw [h.1]
          exact h.2
        · exact False.elim h
      · exact False.elim h
    · exact h
  · rename_i ho
    split at h
    · exact h
    · unfold iT
      rw [ho]
      split at h
      · exact dG h
      · exact aj.mono ax h (fun _ h=>dG h)
      · exact aj.mono ax h (fun _ h=>dG h)
      · exact aj.mono ax h (fun _ h=>aj.mono ax h (fun _ h=>dG h))
      · exact aj.mono ax h (fun _ h=>aj.mono ax h (fun _ h=>dG h))
      · exact aj.mono ax h (fun _ h=>aj.mono ax h (fun _ h=>aj.mono ax h (fun _ h=>dG h)))
      · exact False.elim h
  · rename_i ho
    split at h
    · unfold iT
      rw [ho]
      exact md h
    · exact h
  · rename_i ho
    split at h
    · split at h
      · rename_i hu
        split at h
        · rename_i hob
          unfold iT
          rw [ho]
          dsimp only
          unfold iI
          rw [hu]
          dsimp only
          rw [hob]
          exact h.1 _ h.2
        · exact False.elim h
      · exact False.elim h
    · exact h
  · rename_i ho
    split at h
    · exact h
    · unfold iT
      rw [ho]
      exact tV h
  · rename_i ho
    split at h
    · unfold iT
      rw [ho]
      exact sv h
    · exact h
  · rename_i c ho
    split at h
    · rename_i hcal
      split at h
      · unfold iT
        rw [ho]
        dsimp only
        rw [hcal]
        dsimp only
        obtain ⟨h1,h⟩:=ab h
        exact af h1 (aj.mono (bK _ _) h (fun bs hb=>lQ hC hb))
      · exact False.elim h
    · exact h
  · exact h
theorem sw {S:St} {row:List AV} {a:AV} {cs:List AV} {K:St→Prop} (h:qS S row a cs K):fV S a cs K:=by
  unfold qS at h
  split at h
  · unfold fV
    split at h
    · rename_i ho
      dsimp only
      rw [ho]
      dsimp only
      rw [h.1]
      exact h.2
    · exact False.elim h
  · exact False.elim h
theorem sB {vs:List AV} {M:St} {k:AV→St→Prop} (h:xo C A o vs M k):oZ C o vs M k:=by
  unfold xo at h
  split at h
  · exact h
  · split at h
    · rename_i ho
      split at h
      · unfold oZ
        rw [ho]
        refine aj.mono aT h (fun cs h=>?_)
        split at h
        · rename_i hi
          rw [hi]
          obtain ⟨h1,h⟩:=ab h
          exact af h1 (sw h)
        · exact False.elim h
      · exact h
    · exact h
theorem kB {ts:List TypeId} {base x:AV} {S:St} {k:St→AV→Prop} (h:kx C.P ts base x S k):ei C.P ts base x S k:=by
  unfold kx at h
  unfold ei
  split at h
  · split at h
    · rename_i e hu
      dsimp only
      rw [hu]
      dsimp only
      split at h
      · rename_i i hi
        rw [hi]
        dsimp only
        obtain ⟨h1,h⟩:=ab h
        refine af h1 ?_
        refine ah.mono bJ (gM h) (fun fl src h=>?_)
        refine af h.1 ?_
        replace h:=h.2
        split at h
        · exact af h.1 h.2
        · exact af h.1 h.2
        · split at h
          · rename_i ho
            dsimp only
            rw [ho]
            obtain ⟨h1,h⟩:=ab h
            refine af ?_ h.2
            simp only [Bool.and_eq_true] at h1 ⊢
            exact ⟨⟨h1.1,h.1⟩,h1.2⟩
          · exact False.elim h
        · split at h
          · rename_i ho
            dsimp only
            rw [ho]
            obtain ⟨h1,h2,h3,h⟩:=ab h
            refine af h1 ?_
            rw [h2]
            exact af h3 h
          · exact False.elim h
        · exact False.elim h
      · exact False.elim h
    · exact False.elim h
  · exact False.elim h
theorem oN {ts:List TypeId} {base x:AV} {k:AV→Prop} (h:lf C.P ts base x k):e6 C.P ts base x k:=by
  unfold lf at h
  unfold e6
  split at h
  · split at h
    · rename_i e hu
      dsimp only
      rw [hu]
      dsimp only
      split at h
      · rename_i i hi
        rw [hi]
        dsimp only
        obtain ⟨h1,h⟩:=ab h
        refine af h1 ?_
        refine ah.mono bJ (gM h) (fun fl src h=>?_)
        obtain ⟨h2,h3,h4,h⟩:=ab h
        refine af ?_ h
        rw [h2,h3,h4]
        rfl
      · exact False.elim h
    · exact False.elim h
  · exact False.elim h
theorem eF {t:TypeId} {l c:AV} {S:St} {k:St→AV→Prop} (h:eC C.P t l c S k):aJ C.P t l c S k:=by
  unfold eC at h
  unfold aJ
  split at h
  · rename_i hu
    rw [hu]
    dsimp only
    split at h
    · rename_i hi
      rw [hi]
      dsimp only
      exact aj.mono ax h (fun _ h=>aj.mono ax h (fun _ h=>af h.1 h.2))
    · exact False.elim h
  · exact False.elim h
theorem wE {vs:List AV} {k:AV→Prop} (h:yr C o vs k):x4 C o vs k:=by
  unfold yr at h
  unfold x4
  split at h
  · rename_i c x y ho
    rw [ho]
    dsimp only
    split at h
    · rename_i hc
      rw [hc]
      exact oN h
    · exact False.elim h
  · rename_i ho
    rw [ho]
    exact eF h
  · exact False.elim h
theorem oO {ts:List TypeId} {base:AV} {n:Int} {S:St} {k:St→AV→Prop} (h:lg C.P ts base n S k):e7 C.P ts base n S k:=by
  unfold lg at h
  unfold e7
  split at h
  · split at h
    · rename_i hu hv
      dsimp only
      rw [hu,hv]
      dsimp only
      split at h
      · rename_i hi
        rw [hi]
        exact af h.1 h.2
      · exact False.elim h
    · exact False.elim h
  · exact False.elim h
theorem tW (hC:nW C) {f:AV} {args:List AV} {S:St} {k:St→AV→Prop} (h:tS C A o f args S k):oY C f args S k:=by
  unfold tS at h
  unfold oY
  split at h
  · dsimp only
    split at h
    · rename_i hp
      rw [hp]
      exact aj.mono (bK _ _) h (fun bs hb=>lQ hC hb)
    · rename_i hp
      rw [hp]
      obtain ⟨h1,h⟩:=ab h
      refine af h1 ?_
      split at h
      · exact ah.mono (hC.det.scall _ _ _) h.1 (fun r o' ⟨e1,e2⟩=>by subst e1 e2; exact h.2)
      · exact h
  · exact False.elim h
theorem gU {R:List (AV×AV)} {t:TypeId} {m key x:AV} {S:St} {K:St→Prop} (h:fS C.P R t m key x S K):b6 C.P t m key x S K:=by
  unfold fS at h
  unfold b6
  split at h
  · rename_i hu
    rw [hu]
    dsimp only
    split at h
    · split at h
      · rename_i fl es ho
        dsimp only
        rw [ho]
        dsimp only
        obtain ⟨h1,h2,h3⟩:=ab h
        refine af h1 ?_
        have:=h2 (fun es'=>ay (S.o.set _ (.mapo (fl&&bD 4 x) es')) fun o=>K { t:=S.t,l:=S.l,o:=o,b:=S.b }) h3
        exact this
      · exact False.elim h
    · exact False.elim h
  · exact False.elim h
theorem tY {ts:List TypeId} {x y:AV} {M:St} {k:AV→St→Prop} (h:tQ C.P ts x y M k):ll C.P ts x y M k:=by
  unfold tQ at h
  unfold ll
  split at h
  · split at h
    · rename_i e hu
      dsimp only
      rw [hu]
      dsimp only
      split at h
      · rename_i i hi
        rw [hi]
        dsimp only
        obtain ⟨h1,h⟩:=ab h
        refine af h1 ?_
        refine ah.mono bJ (gM h) (fun fl src h=>?_)
        obtain ⟨h2,h⟩:=h
        obtain ⟨h3,h⟩:=ab h
        refine af (by rw [h2,h3]; rfl) ?_
        split at h
        · split at h
          · rename_i ho
            dsimp only
            rw [ho]
            exact h
          · exact False.elim h
        · split at h
          · rename_i ho
            dsimp only
            rw [ho]
            obtain ⟨h1,h2,h⟩:=ab h
            exact af (by rw [h1,h2]; rfl) h
          · exact False.elim h
        · exact False.elim h
      · exact False.elim h
    · exact False.elim h
  · exact False.elim h
theorem sD {ts:List TypeId} {x:AV} {S:St} {K:St→Prop} (h:qT C.P ts x S K):g3 C.P ts x S K:=by
  unfold qT at h
  unfold g3
  split at h
  · split at h
    · rename_i e hu
      dsimp only
      rw [hu]
      dsimp only
      split at h
      · rename_i i hi
        rw [hi]
        dsimp only
        obtain ⟨h1,h⟩:=ab h
        refine af h1 ?_
        split at h
        · split at h
          · rename_i ho
            dsimp only
            rw [ho]
            obtain ⟨h1,h2,h⟩:=ab h
            exact af (by rw [h1,h2]; rfl) h
          · exact False.elim h
        · exact False.elim h
      · exact False.elim h
    · exact False.elim h
  · exact False.elim h
theorem sE (hC:nW C) {S:St} {K:St→Prop} (h:xr C A pl o S K):mJ C pl o S K:=by
  unfold xr at h
  split at h
  · rename_i ho
    split at h
    · unfold mJ
      rw [ho]
      refine aj.mono aS h (fun m h=>?_)
      refine aj.mono aS h (fun k h=>?_)
      refine aj.mono aS h (fun x h=>?_)
      exact gU h
    · exact h
  · rename_i ho
    split at h
    · unfold mJ
      rw [ho]
      refine aj.mono aS h (fun m h=>?_)
      refine aj.mono aS h (fun k h=>?_)
      refine aj.mono aS h (fun x h=>?_)
      exact gU h
    · exact h
  · rename_i ho
    split at h
    · unfold mJ
      rw [ho]
      refine aj.mono aS h (fun l h=>?_)
      refine aj.mono aS h (fun c h=>?_)
      exact eF h
    · exact h
  · rename_i c ho
    split at h
    · rename_i hcal
      split at h
      · unfold mJ
        rw [ho]
        dsimp only
        rw [hcal]
        dsimp only
        refine aj.mono aw h (fun as h=>?_)
        split at h
        · exact oO h
        · rename_i y hne
          split
          · rename_i e
            cases e
            exact (hne _ _ rfl).elim
          · rename_i e
            cases e
            exact af (ab h).1 (kB (ab h).2)
          · rename_i h4 e
            cases e
            exact (h4 rfl).elim
          · rename_i h3
            exact (h3 _ _ rfl).elim
        · rename_i x y hne hne2
          split
          · rename_i e
            cases e
            exact (hne _ _ rfl).elim
          · rename_i e
            cases e
            exact (hne2 rfl).elim
          · rename_i e
            cases e
            exact kB h
          · rename_i h3
            exact (h3 _ _ rfl).elim
        · exact False.elim h
      · exact h
    · rename_i hcal
      unfold mJ
      rw [ho]
      dsimp only
      rw [hcal]
      dsimp only
      refine aj.mono aw h (fun as h=>?_)
      split at h
      · exact tY h
      · exact False.elim h
    · rename_i hcal
      split at h
      · unfold mJ
        rw [ho]
        dsimp only
        rw [hcal]
        dsimp only
        refine aj.mono aw h (fun as h=>?_)
        split at h
        · exact sD h
        · exact False.elim h
      · exact h
    · rename_i f hcal
      unfold mJ
      rw [ho]
      dsimp only
      rw [hcal]
      dsimp only
      refine aj.mono aS h (fun l h=>?_)
      refine aj.mono aw h (fun c h=>?_)
      exact tW hC h
    · exact h
  · exact h
theorem fC {K:St→Prop} {S:St} (h:gW A o K S):K S:=by
  have h2:∀ {key:Nat} {S:St} {K:St→Prop},wv A key S K→K S:=by
    intro key S K h
    unfold wv at h
    split at h
    · exact h
    · split at h
      · rename_i ho
        obtain ⟨h1,h⟩:=h
        subst h1
        rw [ak] at h
        have e:∀ {α:Type} {l:List α} {i:Nat} {x:α},l[i]?=some x→l.set i x=l:=by
          intro α l i x hx
          refine List.ext_getElem? (fun m=>?_)
          rw [List.getElem?_set]
          split
          · rename_i e
            subst e
            rw [if_pos (List.getElem?_eq_some_iff.1 hx).1,hx]
          · rfl
        rw [e ho] at h
        exact h
      · exact False.elim h
  unfold gW at h
  unfold xN at h
  split at h
  · exact h2 h
  · split at h
    · exact h2 h
    · rename_i v hv
      obtain ⟨a,ha,e,h⟩:=aY.1 h
      subst e
      rw [bV,iy ha] at h
      exact h2 h
theorem p5 {S:St} {K:St→Prop} (h:ww C A pl o S K):uH C pl o S K:=aj.mono aw h (fun _ h=>wC h)
theorem p6 (hC:nW C) {S:St} {K:St→Prop} (h:wx C A o S K):uI C o S K:=aj.mono aw h (fun _ h=>wD hC h)
theorem vl {S:St} {K:St→Prop} (h:xO C A o S K):uJ C o S K:=aj.mono aw h (fun _ h=>sB h)
theorem je {row:Option (List (List AV))} {M:St} {pk:Bool} {id i:Nat} {k:AV→St→Prop} (h:iP row M pk id i k):cr M pk id i k:=by
  unfold iP at h
  unfold cr
  split at h
  · rename_i hob
    rw [hob]
    dsimp only
    split at h
    · obtain ⟨h1,h⟩:=h
      rw [h1]
      exact h
    · obtain ⟨h1,h⟩:=h
      rw [h1]
      exact h
  · exact h.elim
theorem oP {P:Program} {a:oM} {t:TypeId} {same pk:Bool} {M:St} {id i:Nat} {k:AV→St→Prop} (h:lh P a t same pk M id i k):dL P t same pk M id i k:=by
  unfold lh at h
  unfold dL
  split at h
  · split at h
    · rename_i hob
      rw [hob]
      exact af h.1 h.2
    · exact h.elim
  · exact je h
theorem nX {P:Program} {t:TypeId} {M:St} {id i:Nat} {v:AV} {K:St→Prop} (h:jK P t M id i v K):cV P t M id i v K:=by
  unfold jK at h
  unfold cV
  split at h
  · rename_i hi hob
    rw [hi,hob]
    obtain ⟨h1,h2,h3⟩:=ab h
    refine af ?_ h3
    simp only [Bool.and_eq_true] at h1 h2 ⊢
    exact ⟨⟨⟨h1.1,h2.1⟩,h1.2⟩,h2.2⟩
  · exact h.elim
theorem oQ {P:Program} {nw:Bool} {j:Nat} {a:oM} {t:TypeId} {l c:AV} {M:St} {k:AV→St→Prop} (h:li P nw j a t l c M k):dh P nw j t l c M k:=by
  unfold li at h
  unfold dh
  split at h
  · rename_i hu
    rw [hu]
    dsimp only
    split at h
    · rename_i hi he
      rw [hi,he]
      dsimp only
      split at h
      · rename_i hi2
        rw [hi2]
        dsimp only
        refine gC h (fun n h=>?_)
        refine gC h (fun m h=>?_)
        obtain ⟨h1,h⟩:=h
        obtain ⟨h2,h⟩:=ab h
        refine af ?_ ?_
        · simp only [Bool.and_eq_true] at h1 h2 ⊢
          exact ⟨⟨h1,h2.1⟩,h2.2⟩
        · refine kg h (fun z h=>?_)
          split at h
          · obtain ⟨h3,h⟩:=h
            dsimp only
            rw [h3]
            exact h
          · exact h.elim
      · exact h.elim
    · exact h.elim
  · exact h.elim
theorem oR {P:Program} {a:oM} {t:TypeId} {m key:AV} {ok:Bool} {M:St} {k:AV→St→Prop} (h:lj P a t m key ok M k):dM P t m key ok M k:=by
  unfold lj at h
  unfold dM
  split at h
  · rename_i hu
    rw [hu]
    dsimp only
    split at h
    · dsimp only
      split at h
      · rename_i hob
        rw [hob]
        dsimp only
        split at h
        · obtain ⟨h1,h2⟩:=h
          exact h1 (fun r=>match r with
            | some i=>cr M false _ i fun a M'=>g5 ok a true fun r=>k r M'
            | none=>eD P _ ok fun r=>k r M) (je h2)
        · obtain ⟨h1,h2⟩:=h
          exact h1 (fun r=>match r with
            | some i=>cr M false _ i fun a M'=>g5 ok a true fun r=>k r M'
            | none=>eD P _ ok fun r=>k r M) h2
      · exact h.elim
    · exact h.elim
  · exact h.elim
theorem kC {P:Program} {a:oM} {t:TypeId} {m key x:AV} {M:St} {K:St→Prop} (h:ky P a t m key x M K):ej P t m key x M K:=by
  unfold ky at h
  unfold ej
  split at h
  · rename_i hu
    rw [hu]
    dsimp only
    split at h
    · rename_i id
      dsimp only
      split at h
      · rename_i ks sz cells hole hob
        rw [hob]
        dsimp only
        obtain ⟨h1,h2,h3⟩:=ab h
        refine af h1 ?_
        have h4:=h2 (yX M id sz cells hole x K) h3
        refine aj.mono2 bB h4 (fun kv r h5=>?_)
        obtain ⟨h6,h7⟩:=ab h5
        refine af h6 ?_
        cases r with
        | none=>exact h7
        | some i =>
          obtain ⟨h8,h9,h10⟩:=ab h7
          refine af ?_ h10
          rw [Bool.and_eq_true]
          exact ⟨h8,h9⟩
      · exact h.elim
    · exact h.elim
  · exact h.elim
theorem lR {M:St} {x:AV} {X Y:Nat→Nat→Prop} (h:dZ M x X) (hk:∀ id i,X id i→Y id i):dZ M x Y:=by
  unfold dZ at h ⊢
  split at h
  · split at h
    · exact hk _ _ h
    · exact h.elim
  · exact h.elim
theorem p7 {P:Program} {vs:List AV} {M:St} {k:AV→St→Prop} (h:ul P A pl o vs M k):fF P pl o vs M k:=by
  unfold ul at h
  split at h
  · exact h
  · split at h
    · rename_i ho
      unfold fF
      rw [ho]
      exact lR h (fun _ _ h=>oP h)
    · rename_i ho
      unfold fF
      rw [ho]
      exact lR h (fun _ _ h=>nX h)
    · rename_i ho
      unfold fF
      rw [ho]
      exact oQ h
    · rename_i ho
      unfold fF
      rw [ho]
      exact oR h
    · rename_i ho
      unfold fF
      rw [ho]
      exact kC h
    · rename_i ho
      unfold fF
      rw [ho]
      exact kC h
    · exact h.elim
theorem jf {S:St} {id:Nat} {K:St→Prop} (h:iQ A S id K):dK S id K:=by
  unfold iQ at h
  split at h
  · exact h
  · unfold dK
    split at h
    · rename_i hob
      rw [hob]
      dsimp only
      split at h
      · rename_i hk
        rw [hk]
        obtain ⟨h1,h2,h3,h4⟩:=ab h
        refine af ?_ ?_
        · rw [Bool.and_eq_true] at h1
          rw [Bool.and_eq_true,Bool.and_eq_true]
          exact ⟨⟨h1.1,h2⟩,h1.2⟩
        · rw [h3]
          exact h4
      · exact h.elim
    · rename_i hob
      rw [hob]
      dsimp only
      split at h
      · rename_i hk
        rw [hk]
        obtain ⟨h1,h2,h3,h4⟩:=ab h
        refine af ?_ ?_
        · rw [Bool.and_eq_true]
          exact ⟨h1,h2⟩
        · rw [h3]
          exact h4
      · exact h.elim
    · rename_i hob
      rw [hob]
      dsimp only
      obtain ⟨h2,h3,h4⟩:=h
      refine af h2 ?_
      rw [h3]
      exact h4
    · exact h.elim
theorem kD:∀ {ids:List Nat} {S:St} {K:St→Prop},nQ A ids S K→gp ids S K
  | [],_,_,h=>h
  | _::_,_,_,h=>aj.mono gH (jf h) (fun _ h=>kD h)
theorem kE {S:St} {id:Nat} {K:St→Prop} (h:kz A S id K):eL S id K:=by
  unfold kz at h
  split at h
  · exact h
  · unfold eL
    split at h
    · rename_i hob
      rw [hob]
      dsimp only
      rw [h.1]
      exact h.2
    · exact h.elim
theorem jg:∀ {ids:List Nat} {S:St} {K:St→Prop},lk A ids S K→e9 ids S K
  | [],_,_,h=>h
  | _::_,_,_,h=>aj.mono iu (kE h) (fun _ h=>jg h)
theorem nY {id:Nat} {S:St} {K:St→Prop} (h:nR A pl id S K):eG pl id S K:=by
  unfold nR at h
  unfold eG
  split at h
  · rename_i hc
    rw [hc]
    exact h
  · rename_i hc
    rw [hc]
    dsimp only
    refine aj.mono (eB _ _) (kD h) (fun S1 h=>?_)
    split at h
    · rename_i hc
      rw [hc]
      exact h
    · rename_i hc
      rw [hc]
      exact jg h
theorem tZ (hC:nW C) {vs:List AV} {M:St} {k:AV→St→Prop} (h:tU C A o vs M k):fK C o vs M k:=by
  unfold tU at h
  split at h
  · rename_i t X Y l c ho
    split at h
    · unfold fK
      rw [ho]
      exact eF h
    · exact h
  · rename_i c fid first cap as ho
    unfold fK
    rw [ho]
    dsimp only
    split at h
    · rename_i x hcal
      rw [hcal]
      obtain ⟨h1,h⟩:=ab h
      refine af h1 ?_
      split at h
      · obtain ⟨h2,h3⟩:=h
        obtain ⟨r0,o0,⟨e1,e2⟩,h4⟩:=hC.det.scall _ _ _ _ h2
        subst e1 e2
        exact h4 _ h3
      · exact h
    · exact h.elim
  · rename_i hne hne2
    have h':=sB h
    unfold fK
    split
    · rename_i t X Y l c ho
      exact absurd rfl (hne t X Y l c ho)
    · rename_i c fid first cap as ho
      exact absurd rfl (hne2 c fid first cap as ho)
    · exact h'
theorem vm (hC:nW C) {vs:List AV} {M:St} {k:AV→St→Prop} (h:wy C A pl o vs M k):gq C pl o vs M k:=by
  unfold wy at h
  unfold gq
  split at h
  · rename_i hw
    rw [hw]
    exact p7 h
  · rename_i hw
    rw [hw]
    exact tZ hC h
theorem t3 (hC:nW C) {S:St} {K:St→Prop} (h:wz C A pl o S K):iX C pl o S K:=aj.mono aw h (fun _ h=>vm hC h)
theorem vn {S:St} {K:St→Prop} (h:xP C A pl o S K):qc C pl o S K:=aj.mono aw h (fun _ h=>p7 h)
theorem vo {S:St} {K:St→Prop} (h:xQ C o S K):uK C o S K:=aj.mono aw h (fun _ h=>wE h)
theorem wF (hC:nW C) {S:St} {K:St→Prop} (h:yu C A pl o S K):qd C pl o S K:=by
  refine aj.mono (rX hC.det) (K:=gW A o K) ?_ (fun _ h=>fC h)
  unfold yu at h
  unfold qd
  split at h
  · rename_i hc
    rw [hc]
    exact p5 h
  · rename_i hc
    rw [hc]
    exact p6 hC h
  · rename_i hc
    rw [hc]
    exact vl h
  · rename_i h0 h1 h2
    have:=sE hC h
    split
    · exact absurd (by assumption) h0
    · exact absurd (by assumption) h1
    · exact absurd (by assumption) h2
    · exact this
theorem mr (hC:nW C) {S:St} {K:St→Prop} (h:xR C A pl o S K):wU C pl o S K:=by
  unfold xR at h
  unfold wU
  split at h
  · rename_i hw
    rw [hw]
    exact aj.mono rV (vn h) (fun _ h=>fC h)
  · rename_i hw
    rw [hw]
    exact wF hC h
theorem nZ (hC:nW C) {S:St} {K:St→Prop} (h:sk C A pl o S K):oe C pl o S K:=by
  unfold sk at h
  split at h
  · rename_i hc
    refine aj.mono (dn hC.det) (K:=gW A o K) ?_ (fun _ h=>fC h)
    unfold oe
    rw [hc]
    exact p5 h
  · rename_i hc
    refine aj.mono (dn hC.det) (K:=gW A o K) ?_ (fun _ h=>fC h)
    unfold oe
    rw [hc]
    exact p6 hC h
  · rename_i hc
    refine aj.mono (dn hC.det) (K:=gW A o K) ?_ (fun _ h=>fC h)
    unfold oe
    rw [hc]
    exact t3 hC h
  · rename_i hc
    unfold oe
    rw [hc]
    exact h
  · rename_i hc
    refine aj.mono (dn hC.det) (K:=gW A o K) ?_ (fun _ h=>fC h)
    unfold oe
    rw [hc]
    exact vo h
  · rename_i h0 h1 h2 h4 h5
    refine aj.mono (dn hC.det) (K:=gW A o K) ?_ (fun _ h=>fC h)
    unfold oe
    split
    · exact absurd (by assumption) h0
    · exact absurd (by assumption) h1
    · exact absurd (by assumption) h2
    · exact absurd (by assumption) h4
    · exact absurd (by assumption) h5
    · split at h
      · exact False.elim h
      · rename_i hb
        rw [hb]
        exact sE hC h
theorem xu (hC:nW C) {all:Array Oper} {S:St} {K:St→Prop} (h:zH C A pl all o S K):ag C pl all o S K:=by
  unfold zH at h
  unfold ag
  split at h
  · rename_i hg
    rw [hg]
    obtain ⟨h1,h⟩:=ab h
    exact af h1 (nZ hC h)
  · rename_i j want hg
    rw [hg]
    dsimp only
    split at h
    · exact False.elim h
    · rename_i d hd
      rw [hd]
      dsimp only
      refine ah.mono bI h (fun b S1 h=>?_)
      have key:∀ {S:St},aB (d7 pl all o S) (sk C A pl o S K)→jl C pl all o S K:=by
        intro S h
        obtain ⟨h1,h⟩:=ab h
        exact af h1 (nZ hC h)
      unfold gsel at h ⊢
      split at h
      · exact key h
      · exact key h
      · exact h
theorem uu (hC:nW C) {ops:Array Oper} {i:Nat} {S:St} {K:St→Prop} (h:yL C A pl ops i S K):o5 C pl ops i S K:=by
  unfold yL at h
  unfold o5
  split at h
  · exact False.elim h
  · rename_i o ho
    rw [ho]
    exact xu hC h
theorem sF {S2 S1:St} {X:Prop} (h:S2=S1∧X):ln S2 S1 X:=by
  unfold ln
  split
  · exact h.2
  · exact h
theorem qX (hC:nW C) {ops:Array Oper} {ws:List Nat}:∀ {n a:Nat} {listed:Array Bool} {t:PT} {S:St} {K:St→Prop},eK pl ops ws n a listed=some t→oT C A pl ops t none S K→ev C pl ops ws n listed S K
  | 0,a,listed,t,S,K,hp,h=>by
    unfold eK at hp
    unfold ev
    split at hp
    · cases hp
      rename_i hr
      rw [hr]
      exact h
    · cases hp
  | n + 1,a,listed,t,S,K,hp,h=>by
    unfold eK at hp
    unfold ev
    split at hp
    · cases hp
      rename_i hr
      rw [hr]
      exact h
    · rename_i r rs hr
      rw [hr]
      dsimp only
      have step:∀ {k b:Nat} {u:PT} {S:St} {K:St→Prop},eK pl ops ws n b (listed.setIfInBounds k true)=some u→(yL C A pl ops k S fun S'=>oT C A pl ops u none S' K)→o5 C pl ops k S fun S'=>ev C pl ops ws n (listed.setIfInBounds k true) S' K :=
        fun hj h=>aj.mono (cH hC.det) (uu hC h) (fun _ h=>qX hC hj h)
      have alts:∀ {b:Nat} {is:List Nat} {u:PT} {S S1:St} {K:St→Prop} {X:Prop},jc (fun i=>eK pl ops ws n b (listed.setIfInBounds i true)) is=some u→oT C A pl ops u (some (S1,X)) S K →
          sV (fun i K'=>o5 C pl ops i S fun S'=>ev C pl ops ws n (listed.setIfInBounds i true) S' K') is S1 X:=by
        intro b is
        induction is with
        | nil =>
          intro u S S1 K X hu h
          unfold jc at hu
          cases hu
          exact h
        | cons i is ih =>
          intro u S S1 K X hu h
          unfold jc at hu
          split at hu
          · rename_i v hv
            split at hu
            · rename_i w hw
              cases hu
              refine aj.mono (aj.bind (cH hC.det) (fun S'=>cu hC.det _ _ _)) (step hv h) (fun S2 h=>?_)
              exact sF ⟨h.1,ih hw h.2⟩
            · cases hu
          · cases hu
      split at hp
      · rename_i k hk
        rw [hk]
        dsimp only
        split at hp
        · cases hp
          rename_i u hj
          exact step hj h
        · cases hp
      · rename_i hk
        rw [hk]
        dsimp only
        split at hp
        · split at hp
          · cases hp
            rename_i u hj
            refine aj.mono (aj.bind (cH hC.det) (fun S'=>cu hC.det _ _ _)) (step hj h) (fun _ h=>?_)
            exact h
          · cases hp
        · split at hp
          · rename_i b _ _
            unfold jc at hp
            split at hp
            · rename_i v hv
              split at hp
              · rename_i w hw
                cases hp
                refine aj.mono (aj.bind (cH hC.det) (fun S'=>cu hC.det _ _ _)) (step hv h) (fun S1 h=>?_)
                exact alts hw h
              · cases hp
            · cases hp
          · cases hp
theorem wG (hC:nW C) {ops:Array Oper} {ws:List Nat}:∀ {n:Nat} {listed:Array Bool} {t:PT} {S:St} {K:St→Prop},p0 pl ops ws n listed=some t→oT C A pl ops t none S K→lY C pl ops ws n listed S K
  | 0,listed,t,S,K,hp,h=>qX hC (n:=0) hp h
  | n + 1,listed,t,S,K,hp,h=>by
    unfold p0 at hp
    unfold lY
    split at hp
    · rename_i i hi
      rw [hi]
      dsimp only
      split at hp
      · cases hp
        rename_i u hj
        exact aj.mono (cH hC.det) (uu hC h) (fun _ h=>wG hC hj h)
      · cases hp
    · rename_i hi
      rw [hi]
      exact qX hC hp h
theorem wH (hC:nW C) {ops:Array Oper} {t:PT} {S:St} {K:St→Prop} (hp:nS pl ops=some t) (h:oT C A pl ops t none S K):oq C pl ops S K:=by
  unfold nS at hp
  unfold oq
  split at hp
  · cases hp
  · rename_i hn
    refine af hn ?_
    split at hp
    · rename_i hc
      rw [hc]
      exact qX hC hp h
    · rename_i hc
      rw [hc]
      exact wG hC hp h
theorem kF:∀ {x y:PT},tN x y=true→x=y
  | .done,.done,_=>rfl
  | .go i t,.go j u,h=>by
    unfold tN at h
    rw [Bool.and_eq_true] at h
    rw [Nat.eq_of_beq_eq_true h.1,kF h.2]
  | .alt i t r,.alt j u s,h=>by
    unfold tN at h
    rw [Bool.and_eq_true,Bool.and_eq_true] at h
    rw [Nat.eq_of_beq_eq_true h.1,kF h.2.1,kF h.2.2]
  | .done,.go _ _,h=>by cases h
  | .done,.alt _ _ _,h=>by cases h
  | .go _ _,.done,h=>by cases h
  | .go _ _,.alt _ _ _,h=>by cases h
  | .alt _ _ _,.done,h=>by cases h
  | .alt _ _ _,.go _ _,h=>by cases h
end
open Go.RowKit (Below)
def cf (P:Program) (c:Code) (S:St) (K:Ex→St→Prop):Prop :=
  ∃ e S',(∀ (r:Option Nat) (G:Gh) (E:Env) (a:Act) (w:World) (Q:Exit→Act→World→Prop),ad G pn E S w→TR G E S.t a→vD G (fun e' S''=>e'=e∧S''=S') Q→c.wpIn (rd r) 0 P Q a w)∧K e S'
theorem cf.mono {P:Program} {c:Code} {S:St} {K K':Ex→St→Prop} (h:cf P c S K) (hk:∀ e S',K e S'→K' e S'):cf P c S K' :=
  let ⟨e,S',h1,h2⟩:=h
  ⟨e,S',h1,hk _ _ h2⟩
theorem sG (cfg:iU):nW (ef cfg):=⟨iA cfg⟩
theorem lS {P:Program} {op:BinOp} {t e:TypeId} {rows:List (List AV)} {E:Env} {u:Value} (hop:yv op=true) (hu:P.underlying t=some (.slice e)) (hx:VR E (.sl rows) u) (w:World) (X Y:Operand) :
    ∃ b,(do eqGuard op t X Y u (.slice none 0 0); binOp op t u (.slice none 0 0):Sem Value).run P w=.ok (.bool b) w∧((b=pZ op∧rows=[])∨b=!(pZ op)):=by
  have h0:∃ b,(∀ d:Nat,(Op.equalIn (d + 1) t u (.slice none 0 0)).run P w=.ok b w)∧((b=true∧rows=[])∨b=false):=by
    cases hx with
    | sln=>exact ⟨true,fun d=>by unfold Op.equalIn; rw [Sem.run_bind,run_underlying hu]; rfl,.inl ⟨rfl,rfl⟩⟩
    | sle _ a cap=>exact ⟨false,fun d=>by unfold Op.equalIn; rw [Sem.run_bind,run_underlying hu]; rfl,.inr rfl⟩
    | sl us h1 h2 h3 h4 h5 h6 h7=>exact ⟨false,fun d=>by unfold Op.equalIn; rw [Sem.run_bind,run_underlying hu]; rfl,.inr rfl⟩
  obtain ⟨b,hb,hr⟩:=h0
  have hn:vV u=true:=by cases hx <;> rfl
  have he:(Op.equal t u (.slice none 0 0)).run P w=.ok b w:=kQ hb
  rw [d9 hn]
  cases op with
  | eql =>
    refine ⟨b,?_,hr⟩
    have:binOp .eql t u (.slice none 0 0)=(do pure (.bool (← Op.equal t u (.slice none 0 0)))):=by cases hx <;> rfl
    simp [this,he]
  | neq =>
    refine ⟨!b,?_,?_⟩
    · have:binOp .neq t u (.slice none 0 0)=(do pure (.bool (!(← Op.equal t u (.slice none 0 0))))):=by cases hx <;> rfl
      simp [this,he]
    · rcases hr with ⟨rfl,hr⟩ | rfl
      · exact .inl ⟨rfl,hr⟩
      · exact .inr rfl
  | _=>cases hop
section
variable {G:Gh} {C:Ctx} {A:bP} {pl:aD}
theorem gN (hO:nW C) (hC:bH C) {rr:Option Nat} {all:Array Oper} {Q:Exit→Act→World→Prop}:∀ {ops:List Oper} {E:Env} {S:St} {w:World} {a:Act} {K:St→Prop},ad G pn E S w→TR G E S.t a→qU C A pl all ops S K →
    (∀ S' E' a' w',K S'→ad G pn E' S' w'→TR G E' S'.t a'→Q .normal a' w')→wpListIn (rd rr) 0 C.P all Q ops a w
  | [],E,S,w,a,K,hM,ht,h,hQ=>hQ _ _ _ _ h hM ht
  | o::rest,E,S,w,a,K,hM,ht,h,hQ=>by
    have step:∀ {S1:St},ad G pn E S1 w→TR G E S1.t a→Region.wanted o (yielded all a.tmps)=true→(xR C A pl o S1 fun S'=>qU C A pl all rest S' K)→wpListIn (rd rr) 0 C.P all Q (o::rest) a w:=by
      intro S1 hM1 ht1 hw h
      unfold wpListIn
      rw [if_pos hw]
      refine pD (s_ (mr hO h)) (kW hC hM1 ht1 (mr hO h) _ _ (fun S' E' a' w' hk hS htr=>?_))
      exact gN hO hC hS htr hk hQ
    unfold qU at h
    split at h
    · rename_i hg
      have hw:Region.wanted o (yielded all a.tmps)=true:=by unfold Region.wanted; rw [hg]
      split at h
      · unfold wpListIn
        rw [if_pos hw]
        unfold xS at h
        split at h
        · rename_i op t x yt ho
          split at h
          · rename_i e hu
            obtain ⟨c,h,hc⟩:=bm h ht
            split at h
            · rename_i rows
              obtain ⟨hop,h1,h2⟩:=ab h
              obtain ⟨b,hrun,hbr⟩:=lS hop hu hc w x (.const (.slice none 0 0))
              have hex:(execOp a.eval o).run C.P w=.ok (.value (.bool b)) w:=by
                have:(execOp a.eval o)=(do pure (.value (← (do eqGuard op t x (.const (.slice none 0 0)) (a.eval x) (.slice none 0 0); binOp op t (a.eval x) (.slice none 0 0):Sem Value)))):=by
                  unfold execOp
                  rw [ho]
                  simp [Act.eval]
                rw [this,Sem.run_bind,hrun]
                rfl
              refine pD (fun c hc=>by rw [ho] at hc; cases hc) (bk hex ?_)
              have h3:aA o.dst (.v (.bool b)) S fun S'=>qU C A pl all rest S' K:=by
                rcases hbr with ⟨rfl,hr⟩ | rfl
                · exact h1 hr
                · exact h2
              rw [al] at h3
              exact gN hO hC (hM.congr aV aW a2) (ht.put (.v _ _ rfl)) h3 hQ
            · exact False.elim h
          · exact False.elim h
        · exact False.elim h
      · exact step hM ht hw h
    · rename_i j want hg
      split at h
      · exact False.elim h
      · rename_i d hd
        obtain ⟨b,S1,h,hb,hM1,ht1⟩:=eN hM ht h
        rcases fO hg (gD hd hb) h with ⟨hw,h⟩ | ⟨hw,h⟩
        · exact step hM1 ht1 hw h
        · rw [al] at h
          unfold wpListIn
          rw [if_neg (by rw [hw]; exact fun h=>by cases h)]
          exact ⟨fun _ _=>trivial,gN hO hC (hM1.congr aV aW a2) (ht1.put (ki _)) h hQ⟩
end
theorem sH {A:yn} {id:Nat} {S:St} {K:St→Prop} (h:vg A id S K):∃ S',bQ S S'∧K S':=by
  unfold vg at h
  split at h
  · exact fT h
  · exact ⟨S,.refl S,h⟩
theorem sI {cfg:iU} (hmix:cfg.P.follows .mixedOrders=true) {A:yn} {pl:aD}:∀ (c:Code) {S:St} {K:Ex→St→Prop},fG pl A.ord c=true→nT (ef cfg) (cf cfg.P) A pl c S K →
    ∀ (r:Option Nat) (G:Gh) (E:Env) (a:Act) (w:World) (Q:Exit→Act→World→Prop),ad G pn E S w→TR G E S.t a→vD G K Q→c.wpIn (rd r) 0 cfg.P Q a w:=by
  have hC:=sG cfg
  intro c
  induction c with
  | skip=>exact fun _ h r G E a w Q hM ht hQ=>wpIn_skip (hQ .nrm _ E _ _ h hM ht)
  | region id ops draw =>
    intro S K hB h r G E a w Q hM ht hQ
    cases draw with
    | false =>
      refine wpIn_region_list (gN hC (eT cfg) hM ht h (fun S' E' a' w' hk hS htr=>?_))
      obtain ⟨S3,E3,hk,hS,htr⟩:=fN hS htr (nY hk)
      obtain ⟨S2,hw,hk⟩:=sH hk
      obtain ⟨E2,hM2,ht2⟩:=hw G E3 a' w' hS htr
      exact hQ .nrm _ _ _ _ hk hM2 ht2
    | true =>
      refine gj hmix pl id ops S (fun e S'=>e=.nrm∧vg A id S' (K .nrm)) ?_ r G E a w Q hM ht (fun e S' E' a' w' hk hS htr=>?_)
      · unfold fG at hB
        have h':(match jQ A.ord id with
        | some is=>aB (lq pl ops) (ot (ef cfg).P (a7 ops.toList) S fun S1=>oT (ef cfg) (vf A id) pl ops is none S1 fun S'=>e_ (a7 ops.toList) S' (nR (vf A id) pl id S' fun S''=>vg A id S'' (K .nrm)))
        | none=>ac 440):=h
        split at hB
        · rename_i is js h1 h2
          rw [h1] at h'
          dsimp only at h'
          obtain ⟨h3,h'⟩:=ab h'
          refine af h3 ?_
          refine aj.mono nv h' (fun S1 h=>?_)
          rw [kF hB] at h
          refine aj.mono (nx hC.det) (wH hC h2 h) (fun S' h=>?_)
          obtain ⟨h4,h5⟩:=gh h
          exact h5 _ (aj.mono iO (nY h4) (fun S'' h=>⟨rfl,h⟩))
        · cases hB
      · obtain ⟨rfl,hk⟩:=hk
        obtain ⟨S2,hw,hk⟩:=sH hk
        obtain ⟨E2,hM2,ht2⟩:=hw G E' a' w' hS htr
        exact hQ .nrm _ _ _ _ hk hM2 ht2
  | seq x y ihx ihy =>
    intro S K hB h r G E a w Q hM ht hQ
    unfold fG at hB
    rw [Bool.and_eq_true] at hB
    refine wpIn_seq (ihx hB.1 h r G E a w _ hM ht (fun e S' E' a' w' hk hS htr=>?_))
    cases e with
    | nrm =>
      dsimp only at hk
      split at hk
      · obtain ⟨S2,h1,⟨e2,S3,h2,h3,h4⟩,h5⟩:=fT hk
        subst h3 h4
        obtain ⟨E2,hM2,ht2⟩:=((iR _ _).trans h1) G E' a' w' hS htr
        refine h2 r G E2 a' w' Q hM2 ht2 (fun e' S'' E'' a'' w'' he hS' ht'=>?_)
        obtain ⟨rfl,rfl⟩:=he
        exact hQ _ _ _ _ _ h5 hS' ht'
      · exact ihy hB.2 hk r G E' a' w' Q hS htr hQ
    | ex i=>exact hQ (.ex i) _ _ _ _ hk hS htr
    | ret=>exact hQ .ret _ _ _ _ hk hS htr
  | cond c x y ihx ihy =>
    intro S K hB h r G E a w Q hM ht hQ
    unfold fG at hB
    rw [Bool.and_eq_true] at hB
    obtain ⟨b,S1,h1,h2,h3,h4⟩:=ik hM ht h
    cases b with
    | true=>exact wpIn_cond_true h2 (ihx hB.1 h1 r G E a w Q h3 h4 hQ)
    | false=>exact wpIn_cond_false h2 (ihy hB.2 h1 r G E a w Q h3 h4 hQ)
  | block id c ih =>
    intro S K hB h r G E a w Q hM ht hQ
    refine wpIn_block (ih hB h r G E a w _ hM ht (fun e S' E' a' w' hk hS htr=>?_))
    cases e with
    | nrm=>exact hQ .nrm _ _ _ _ hk hS htr
    | ret=>exact hQ .ret _ _ _ _ hk hS htr
    | ex i =>
      show Exit.inBlock id Q (.exit i) a' w'
      unfold Exit.inBlock
      dsimp only at hk
      split at hk
      · rename_i hb
        have:=Nat.eq_of_beq_eq_true hb
        subst this
        simp only [if_pos]
        exact hQ .nrm _ _ _ _ hk hS htr
      · rename_i hb
        have hne:¬ i=id:=fun e=>by subst e; simp at hb
        simp only [if_neg hne]
        exact hQ (.ex i) _ _ _ _ hk hS htr
  | loop c ih =>
    intro S K hB h r G E a w Q hM ht hQ
    have h':(match jQ A.lps (jd c) with
    | some (W,L,e,S1)=>wq L (wk W S) fun S2=>((ef cfg).loop pl c S2 fun e' S'=>e'=e∧S'=S1)∧K e S1
    | none=>(ef cfg).loop pl c S K):=h
    split at h'
    · obtain ⟨S2,h1,h2,h3⟩:=fT h'
      obtain ⟨E2,hM2,ht2⟩:=((iR _ _).trans h1) G E a w hM ht
      refine eU cfg pl c S2 _ h2 r (fun h=>by cases h) G E2 a w Q hM2 ht2 (fun e' S'' E'' a'' w'' he hS' ht'=>?_)
      obtain ⟨rfl,rfl⟩:=he
      exact hQ _ _ _ _ _ h3 hS' ht'
    · exact eU cfg pl c S K h' r (fun h=>by cases h) G E a w Q hM ht hQ
  | exit id=>exact fun _ h r G E a w Q hM ht hQ=>wpIn_exit (hQ (.ex id) _ E _ _ h hM ht)
  | ret=>exact fun _ h r G E a w Q hM ht hQ=>wpIn_ret (hQ .ret _ E _ _ h hM ht)
  | _=>exact fun _ h=>False.elim h
theorem cf.of {cfg:iU} (hmix:cfg.P.follows .mixedOrders=true) {pl:aD} {c:Code} {S S1:St} {e:Ex} {K:Ex→St→Prop} {A:yn} {we:List (Nat×(Wk×Le))} (hB:fG pl A.ord c=true)
    (h:yx (ef cfg) (cf cfg.P) A pl we c S (fun e' S'=>e'=e∧S'=S1)) (hk:K e S1):cf cfg.P c S K:=by
  refine ⟨e,S1,fun r G E a w Q hM ht hQ=>?_,hk⟩
  refine sI hmix c hB h r G E a w Q hM ht (fun e' S' E' a' w' hk hS htr=>?_)
  dsimp only at hk
  split at hk
  · obtain ⟨S2,h1,rfl,rfl⟩:=fT hk
    obtain ⟨E2,hM2,ht2⟩:=((iR _ _).trans h1) G E' a' w' hS htr
    exact hQ _ _ _ _ _ ⟨rfl,rfl⟩ hM2 ht2
  · obtain ⟨rfl,rfl⟩:=hk
    exact hQ _ _ _ _ _ ⟨rfl,rfl⟩ hS htr
theorem dW.round {cfg:iU} {pl:aD} {c:Code} {S:St} {K:Ex→St→Prop}
    (h:cf cfg.P c S fun e S'=>match e with
      | .nrm=>dW cfg.P pl c S' K
      | .ex i=>K (.ex i) S'
      | .ret=>K .ret S'):dW cfg.P pl c S K:=by
  obtain ⟨e1,S1,h2,h1⟩:=h
  have run:∀ (e:Ex) (S3:St) (n:Nat),(∀ (r:Option Nat) (G:Gh) (E:Env) (a:Act) (w:World) (Q:Exit→Act→World→Prop),ad G pn E S1 w→TR G E S1.t a→vD G (fun e' S''=>e'=e∧S''=S3) Q→Exit.then (Code.roundsIn (rd r) 0 cfg.P c Q n) Q (w7 e1) a w) →
      ∀ (r:Option Nat) (G:Gh) (E:Env) (a:Act) (w:World) (Q:Exit→Act→World→Prop),ad G pn E S w→TR G E S.t a→vD G (fun e' S''=>e'=e∧S''=S3) Q→Code.roundsIn (rd r) 0 cfg.P c Q (n + 1) a w:=by
    intro e S3 n hn r G E a w Q hM ht hQ
    refine h2 r G E a w _ hM ht (fun e' S' E' a' w' hk hS htr=>?_)
    obtain ⟨rfl,rfl⟩:=hk
    exact hn r G E' a' w' Q hS htr hQ
  cases e1 with
  | nrm =>
    obtain ⟨n,e,S',hl,hk⟩:=h1
    exact ⟨n + 1,e,S',run e S' n (fun r G E a w Q hM ht hQ=>hl r G E a w Q hM ht hQ),hk⟩
  | ex i=>exact ⟨1,.ex i,S1,run _ _ 0 (fun r G E a w Q hM ht hQ=>hQ _ _ _ _ _ ⟨rfl,rfl⟩ hM ht),h1⟩
  | ret=>exact ⟨1,.ret,S1,run _ _ 0 (fun r G E a w Q hM ht hQ=>hQ _ _ _ _ _ ⟨rfl,rfl⟩ hM ht),h1⟩
def rk {σ τ:Type} (Sf:σ→St) (out:τ→Ex×St) (r:σ⊕τ) (e:Ex) (S':St):Prop :=
  match r with
  | .inl s'=>e=.nrm∧S'=Sf s'
  | .inr t=>e≠.nrm∧e=(out t).1∧S'=(out t).2
theorem zW {σ τ:Type} {Sf:σ→St} {out:τ→Ex×St} {s:σ}:rk Sf out (.inl s) .nrm (Sf s):=⟨rfl,rfl⟩
def pk {τ:Type} (out:τ→Ex×St) (t:τ) (e:Ex) (S':St):Prop:=e=(out t).1∧S'=(out t).2
theorem dW.iter {cfg:iU} {pl:aD} {c:Code} {σ τ:Type} {step:σ→Option (σ⊕τ)} (Sf:σ→St) (out:τ→Ex×St)
    (hs:∀ s r,step s=some r→cf cfg.P c (Sf s) (rk Sf out r)):∀ (n:Nat) (s:σ) (t:τ),A.iter step n s=some t→dW cfg.P pl c (Sf s) fun e S'=>e=(out t).1∧S'=(out t).2
  | 0,s,t,h=>by cases h
  | n + 1,s,t,h=>by
    unfold A.iter at h
    split at h
    · cases h
    · rename_i s' hs'
      refine dW.round ((hs s _ hs').mono fun e S' h1=>?_)
      obtain ⟨rfl,rfl⟩:=h1
      exact dW.iter Sf out hs n s' t h
    · rename_i t' ht'
      cases h
      refine dW.round ((hs s _ ht').mono fun e S' h1=>?_)
      obtain ⟨h0,h1,h2⟩:=h1
      cases e with
      | nrm=>exact absurd rfl h0
      | ex i=>exact ⟨h1,h2⟩
      | ret=>exact ⟨h1,h2⟩
theorem bW.le {P:Program} {f:Nat} {as as':List AV} {K:AV→Prop} (h:bW P f as' K) (hl:gK as as'):bW P f as K:=by
  obtain ⟨r,⟨h1,h2⟩,h3⟩:=h
  exact ⟨r,⟨h1,fun F w us hF hg hv=>h2 F w us hF hg (hl.vrs hv)⟩,h3⟩
theorem bW.to {P:Program} {f:Nat} {as:List AV} {r:AV} (h:bW P f as fun x=>iB x r):bW P f as fun x=>x=r:=by
  obtain ⟨x,⟨h1,h2⟩,h3⟩:=h
  refine ⟨r,⟨h1,fun F w us hF hg hv=>(h2 F w us hF hg hv).mono ?_⟩,rfl⟩
  rintro e w' ⟨v,F',h4,h5,h6⟩
  exact ⟨v,F',h4,h3 _ _ h5,h6⟩
def xv (k:IntKind) (x:Int):AV:=.v (.int k x)
def yY (x:Bool):AV:=.v (.bool x)
def yZ {α:Type} (f:α→List AV) (x:α):AV:=.agg (f x)
def vp (k:IntKind) (x:Int):List AV:=[.v (.int k x)]
def y2 (x:Bool):List AV:=[.v (.bool x)]
def zX {α:Type} (f:α→List AV) (l:List α):List AV:=[.sl (l.map f)]
def y8 {α:Type} (f:α→List AV):Option α→AV
  | none=>.nilp
  | some x=>.fptr (f x) 0
theorem zI {i:Nat}:Ex.ex i≠Ex.nrm:=fun h=>by cases h
theorem zY:Ex.ret≠Ex.nrm:=fun h=>by cases h
theorem xw {α:Type} (f:α→List AV) (l:List α):AV.v (.int .i64 (((l.map f).length:Nat):Int))=AV.v (.int .i64 (l.length:Int)):=by rw [List.length_map]
theorem yz {α:Type} (f:α→List AV) {l:List α} {i:Int} {x:α} (h:lW l i=some x):yo (l.map f) i=some (f x):=by
  unfold lW at h
  unfold yo
  split
  · rename_i h0
    rw [if_pos h0] at h
    rw [List.getElem?_map,h]
    rfl
  · rename_i h0
    rw [if_neg h0] at h
    cases h
theorem xx {α:Type} (f:α→List AV) {l:List α} {i:Int} {x:α} (h:lW l i=some x):(l.map f)[i.toNat]?=some (f x):=by
  unfold lW at h
  split at h
  · rw [List.getElem?_map,h]
    rfl
  · cases h
theorem xy {α:Type} (f:α→List AV) (l m:List α):l.map f++m.map f=(l++m).map f:=List.map_append.symm
theorem xz {α:Type} (f:α→List AV) (l:List α) (i:Nat) (x:α):(l.map f).set i (f x)=(l.set i x).map f:=(List.map_set).symm
theorem xA {α:Type} (f:α→List AV) (n:Nat) (x:α):List.replicate n (f x)=(List.replicate n x).map f:=List.map_replicate.symm
theorem vq {α:Type} {f:α→List AV} {l:List α} {k m n:Nat} (h:Nat.ble ((l.length + n) * k) m=true):Nat.ble (((l.map f).length + n) * k) m=true:=by rw [List.length_map]; exact h
section
variable {α:Type} (f:α→List AV)
end
def y9 (f:Nat→Option Bool):List Nat→Option Bool
  | []=>some true
  | i::is=>match f i with
    | some e=>match y9 f is with
      | some s=>some (e&&s)
      | none=>none
    | none=>none
def zJ (P:Program):Nat→TypeId→Value→Value→Option Bool
  | 0,_,_,_=>none
  | n + 1,t,x,y =>
    match P.underlying t,x,y with
    | some .bool,.bool a,.bool b=>some (a==b)
    | some (.int _),.int k a,.int k' b=>if k=k' then some (a==b) else none
    | some .string,.string a,.string b=>some (a.toList==b.toList)
    | some (.struct fs),.agg xs,.agg ys=>match P.stoodInHeld t with
      | true=>none
      | false => fs.toList.foldr (fun f (r : Option Bool × Bool) => match f.name == "_", aP P (part f.type xs f.offset), aP P (part f.type ys f.offset) with
          | false,some a,some b=>match zJ P n f.type a b,r with
            | some e,(_,false)=>(some e,true)
            | some e,(some s,true)=>(some (e&&s),true)
            | _,_=>(none,true)
          | _,_,_=>(none,true)) (some true,false) |>.1
    | some (.array len e),.agg xs,.agg ys=>match aP P (sizeOf e) with
      | some m=>y9 (fun i=>match aP P (part e xs (i * m)),aP P (part e ys (i * m)) with
        | some a,some b=>zJ P n e a b
        | _,_=>none) (List.range' 0 len)
      | none=>none
    | _,_,_=>none
structure zQ (P:Program) (kt:TypeId) {κ:Type} (kf:κ→AV) (kv:κ→Value) (beq:κ→κ→Bool):Prop where
  tok:∀ k,sL (kf k)=some (kv k)
  eqv:∀ a b,zJ P 16 kt (kv a) (kv b)=some (beq a b)
  chk:∀ e k,aP P (Instr.checkKey e 10000 kt (kv k))=some ()
  sam:∀ a b,beq a b=true→Instr.sameBits 10000 (kv b) (kv a)=true
section
variable {P:Program} {kt:TypeId} {κ:Type} {kf:κ→AV} {kv:κ→Value} {beq:κ→κ→Bool}
end
def p8 (H:Type) (P:Program) (t:TypeId) {α:Type} (f:α→List AV) (wf:α→Prop):Prop:=∀ (n:Nat) (d:DataW H),bO P n t d=true→∃ x,gK (dx P n t d) (f x)∧wf x
def vr (H:Type) (P:Program) (ts:List TypeId) {α:Type} (f:α→List AV) (wf:α→Prop):Prop:=∀ (n:Nat) (ds:List (DataW H)),ds.length=ts.length→((ts.zip ds).all fun x=>bO P n x.1 x.2)=true→∃ x,gK ((ts.zip ds).flatMap fun x=>dx P n x.1 x.2) (f x)∧wf x
section
variable {H:Type} {P:Program} {t:TypeId}
theorem p8.int {k:IntKind} (hu:P.underlying t=some (.int k)):p8 H P t (vp k) (zA k):=by
  intro n d h
  cases n with
  | zero=>cases h
  | succ n =>
    unfold bO at h
    rw [hu] at h
    cases d with
    | lit l =>
      cases l with
      | int k' m =>
        have h:(decide (k'=k)&&(Lit.int k m).wf)=true:=h
        rw [Bool.and_eq_true] at h
        obtain ⟨h1,h2⟩:=h
        have h1:=of_decide_eq_true h1
        subst h1
        have h2:(decide (k'.min≤m)&&decide (m≤k'.max))=true:=h2
        rw [Bool.and_eq_true] at h2
        refine ⟨m,?_,of_decide_eq_true h2.1,of_decide_eq_true h2.2⟩
        unfold dx
        rw [hu]
        exact gK.refl _
      | _=>cases h
    | _=>cases h
theorem p8.bool (hu:P.underlying t=some .bool):p8 H P t y2 (fun _=>True):=by
  intro n d h
  cases n with
  | zero=>cases h
  | succ n =>
    unfold bO at h
    rw [hu] at h
    cases d with
    | lit l =>
      cases l with
      | bool b =>
        refine ⟨b,?_,trivial⟩
        unfold dx
        rw [hu]
        exact gK.refl _
      | _=>cases h
    | _=>cases h
theorem p8.slice {e:TypeId} (hu:P.underlying t=some (.slice e)) {α:Type} {f:α→List AV} {wf:α→Prop} (he:p8 H P e f wf):p8 H P t (zX f) (fun l=>l.length≤maxLen∧∀ x∈l,wf x):=by
  intro n d h
  cases n with
  | zero=>cases h
  | succ n =>
    unfold bO at h
    rw [hu] at h
    cases d with
    | nil =>
      refine ⟨[],?_,by simp [maxLen],fun x hx=>by cases hx⟩
      unfold dx
      rw [hu]
      exact gK.cons iB.nil gK.nil
    | slice xs sp =>
      have h:(decide (xs.length≤maxLen)&&xs.all (bO P n e))=true:=h
      rw [Bool.and_eq_true] at h
      obtain ⟨h1,h2⟩:=h
      have key:∀ xs:List (DataW H),xs.all (bO P n e)=true→∃ l:List α,f8 (xs.map (dx P n e)) (l.map f)∧l.length=xs.length∧∀ x∈l,wf x:=by
        intro xs
        induction xs with
        | nil=>exact fun _=>⟨[],f8.nil,rfl,fun x hx=>by cases hx⟩
        | cons x xs ih =>
          intro h
          rw [List.all_cons,Bool.and_eq_true] at h
          obtain ⟨y,hy1,hy2⟩:=he n x h.1
          obtain ⟨l,hl1,hl2,hl3⟩:=ih h.2
          refine ⟨y::l,f8.cons hy1 hl1,by simp [hl2],fun z hz=>?_⟩
          rcases List.mem_cons.1 hz with rfl | hz
          · exact hy2
          · exact hl3 z hz
      obtain ⟨l,hl1,hl2,hl3⟩:=key xs h2
      refine ⟨l,?_,by rw [hl2]; exact of_decide_eq_true h1,hl3⟩
      unfold dx
      rw [hu]
      exact gK.cons (iB.sl hl1) gK.nil
    | _=>cases h
theorem vr.nil:vr H P [] (fun _:Unit=>[]) (fun _=>True):=fun _ _ _ _=>⟨(),gK.nil,trivial⟩
theorem vr.cons {ts:List TypeId} {α β:Type} {f:α→List AV} {wf:α→Prop} {g:β→List AV} {wg:β→Prop} (h:p8 H P t f wf) (hs:vr H P ts g wg):vr H P (t::ts) (fun x:α×β=>f x.1++g x.2) (fun x=>wf x.1∧wg x.2):=by
  intro n ds hl ha
  cases ds with
  | nil=>simp at hl
  | cons d ds =>
    rw [List.zip_cons_cons,List.all_cons,Bool.and_eq_true] at ha
    obtain ⟨x,h1,h2⟩:=h n d ha.1
    obtain ⟨y,h3,h4⟩:=hs n ds (by simpa using hl) ha.2
    refine ⟨(x,y),?_,h2,h4⟩
    rw [List.zip_cons_cons,List.flatMap_cons]
    exact h1.app h3
theorem p8.struct {fs:Array Field} (hu:P.underlying t=some (.struct fs)) {α:Type} {g:α→List AV} {wg:α→Prop} (h:vr H P (fs.toList.map (·.type)) g wg):p8 H P t g wg:=by
  intro n d hd
  cases n with
  | zero=>cases hd
  | succ n =>
    unfold bO at hd
    rw [hu] at hd
    cases d with
    | agg ds =>
    have hd:(Nat.beq ds.length fs.size&&(fs.toList.zip ds).all fun x=>bO P n x.1.type x.2)=true:=hd
    rw [Bool.and_eq_true] at hd
    obtain ⟨h1,h2⟩:=hd
    have hlen:=Nat.eq_of_beq_eq_true h1
    obtain ⟨x,h3,h4⟩:=h n ds (by simpa using hlen) (by
      rw [List.zip_map_left,List.all_map]
      exact h2)
    refine ⟨x,?_,h4⟩
    unfold dx
    rw [hu]
    dsimp only
    rw [List.zip_map_left,List.flatMap_map] at h3
    exact h3
    | _=>cases hd
theorem p8.arg1 (hs:fB P t=false) {α:Type} {f:α→List AV} {wf:α→Prop} {g:α→AV} (h:p8 H P t f wf) (hg:∀ x,f x=[g x]) {n:Nat} {d:DataW H} (hd:bO P n t d=true):∃ x,iB (lO P n t d) (g x)∧wf x:=by
  obtain ⟨x,h1,h2⟩:=h n d hd
  refine ⟨x,?_,h2⟩
  rw [hg] at h1
  unfold fB at hs
  unfold lO
  split
  · rename_i fs hu
    rw [hu] at hs
    cases hs
  · generalize dx P n t d=r at h1
    cases r with
    | nil=>exact absurd h1.1 (by simp)
    | cons a r=>exact h1.2 0 a _ rfl rfl
end
end A
end Go.Proofs.Ytaekcekecdocnaa
