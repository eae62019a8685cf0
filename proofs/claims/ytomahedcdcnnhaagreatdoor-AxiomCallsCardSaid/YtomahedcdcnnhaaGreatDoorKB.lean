/- The evaluator with answers; contracts out of it. Nothing is claimed here of the program. -/
import Derived.Test.YtomahedcdcnnhaaGreatDoorK6
import Derived.Test.YtomahedcdcnnhaaGreatDoorM0
import Derived.Laws.StructEq
namespace Go.Proofs.YtomahedcdcnnhaaGreatDoor
namespace A
open Go
def rj {α:Type}:List (Nat×α)→Nat→Option α
 | [],_=>none
 | (d,x)::xs,e=>match Nat.beq d e with | true=>some x | false=>rj xs e
structure Wk where
 ts:List Nat
 ls:List Nat
 no:Nat
 pr:List (Nat×Nat)
 pl:List (Nat×Nat×Nat)
 fz:List Nat
def IY (ts:List Nat):Nat→List AV→List AV
 | _,[]=>[]
 | i,x::xs=>(match fq ts i with | true=>x | false=>.bad)::IY ts (i + 1) xs
def Bq:List Nat→St→St
 | [],S=>S
 | d::ds,S=>Bq ds (eX d S)
def Hr:Nat→Nat→List Nat
 | _,0=>[]
 | i,n + 1=>i::Hr (i + 1) n
def Hs:List Nat→St→St
 | [],S=>S
 | i::is,S=>Hs is (gu i S)
def Br:List Ob→Bool
 | []=>true
 | .dead::os=>Br os
 | _=>false
def Kq (n:Nat) (S:St):St :=
 match Br (S.o.drop n)&&Nat.ble S.b n with
 | true=>{ t:=S.t,l:=S.l,o:=S.o.take n,b:=S.b }
 | false=>S
def CZ:List (Nat×Nat)→St→St
 | [],S=>S
 | (d,sz)::ps,S=>match S.t[d]? with
  | some .nilsl=>CZ ps { t:=S.t.set d (.mf S.o.length),l:=S.l,o:=S.o++[.arr true sz []],b:=S.b }
  | _=>CZ ps S
def Ak:List (Nat×Nat×Nat)→St→St
 | [],S=>S
 | (d,j,sz)::ps,S=>match aG S.l d with
  | some row=>match row[j]? with
   | some .nilsl=>Ak ps { t:=S.t,l:=vG S.l d (row.set j (.mf S.o.length)),o:=S.o++[.arr true sz []],b:=S.b }
   | _=>Ak ps S
  | none=>Ak ps S
def Gj:List Nat→St→St
 | [],S=>S
 | d::ds,S=>match S.t[d]? with
  | some a=>match EV S.o 6 a with
   | some b=>Gj ds { t:=(mw (dH S.o 6 a) S).t.set d b,l:=(mw (dH S.o 6 a) S).l,o:=(mw (dH S.o 6 a) S).o,b:=(mw (dH S.o 6 a) S).b }
   | none=>Gj ds S
  | none=>Gj ds S
def Nl (W:Wk) (S:St):St :=
 Ak W.pl (CZ W.pr (Kq W.no (Hs (Hr W.no (S.o.length - W.no)) (Bq W.ls { t:=IY W.ts 0 S.t,l:=S.l,o:=S.o,b:=S.b }))))
def wk (W:Wk) (S:St):St:=Nl W (Gj W.fz S)
def b9 (a b:AV):Prop:=∀ E u,VR E a u→VR E b u
def fj (r r':List AV):Prop:=r.length=r'.length∧∀ (i:Nat) (a b:AV),r[i]?=some a→r'[i]?=some b→b9 a b
def lX (r r':List (List AV)):Prop:=r.length=r'.length∧∀ (i:Nat) (a b:List AV),r[i]?=some a→r'[i]?=some b→fj a b
structure Le where
 ts:List (Nat×AV)
 ls:List (Nat×List AV)
 os:List (Nat×List (List AV))
def Kr:List (Nat×AV)→St→(St→Prop)→Prop
 | [],S,K=>K S
 | (d,v)::xs,S,K=>rF S.t d fun a=>b9 a v∧ud S.t d v fun t=>Kr xs { t:=t,l:=S.l,o:=S.o,b:=S.b } K
def IZ:List (Nat×List AV)→St→(St→Prop)→Prop
 | [],S,K=>K S
 | (d,r)::xs,S,K=>match aG S.l d with
  | some row=>fj row r∧pI (vG S.l d r) fun l=>IZ xs { t:=S.t,l:=l,o:=S.o,b:=S.b } K
  | none=>aj 450
def I0:List (Nat×List (List AV))→St→(St→Prop)→Prop
 | [],S,K=>K S
 | (i,R)::xs,S,K=>match S.o[i]? with
  | some (.arr fl sz rows)=>lX rows R∧aR (S.o.set i (.arr fl sz R)) fun o=>I0 xs { t:=S.t,l:=S.l,o:=o,b:=S.b } K
  | _=>aj 451
def Ht (L:Le) (S:St) (K:St→Prop):Prop:=Kr L.ts S fun S=>IZ L.ls S fun S=>I0 L.os S K
structure ze where
 at_:Option Nat
 row:Option (List (List AV))
 ks:List AV
 cs:List (Option (List (List AV)))
structure dx where
 dem:List Nat
 chk:List Nat
 row:List (Nat×List AV)
 val:List (Nat×AV)
 call:List (Nat×AV)
 sto:List (Nat×(AV×List Ob))
 obr:List (Nat×(Nat×List (List AV)))
 mpr:List (Nat×List (AV×AV))
 own:List (Nat×ze)
inductive PT where
 | done
 | go (i:Nat) (t:PT)
 | alt (i:Nat) (t r:PT)
def dn:List Nat→PT
 | []=>.done
 | i::is=>.go i (dn is)
def En:PT→PT→Bool
 | .done,.done=>true
 | .go i t,.go j u=>Nat.beq i j&&En t u
 | .alt i t r,.alt j u s=>Nat.beq i j&&(En t u&&En r s)
 | _,_=>false
structure Ks where
 ord:List (Nat×PT)
 reg:List (Nat×dx)
 wr:List (Nat×Le)
 lps:List (Nat×(Wk×Le×Ex×St))
 cut:List (Nat×(Wk×Le×Ex×St))
def Gk (A:Ks) (id:Nat):dx :=
 match rj A.reg id with
 | some R=>R
 | none=>⟨[],[],[],[],[],[],[],[],[]⟩
def keyOf (o:Oper):Nat :=
 match o.dst with
 | some d=>d
 | none=>match o.op with
  | .store _ (.tmp t) _=>t + 1000000
  | .mapUpdate _ (.tmp t) _ _=>t + 1000000
  | .insert _ (.tmp t) _ _=>t + 1000000
  | _=>0
def Gl (rows:List (List AV)) (i:Int):Option (List AV):=if 0≤i then rows[i.toNat]? else none
def Hu (op:BinOp) (x y:Value) (K:Value→Prop):Prop :=
 match op,x,y with
 | .quo,.int k a,.int k' b=>(decide (k=k')&&!(b==0))=true∧K (.int k (k.wrap (a.tdiv b)))
 | .rem,.int k a,.int k' b=>(decide (k=k')&&!(b==0))=true∧K (.int k (a.tmod b))
 | .shl,.int k a,.int _ b=>decide (0≤b)=true∧K (.int k (k.wrap (a * 2 ^ (min b.toNat k.bits))))
 | .shr,.int k a,.int _ b=>decide (0≤b)=true∧K (.int k (a.fdiv (2 ^ (min b.toNat k.bits))))
 | .add,.string a,.string b=>decide (((a.size + b.size:Nat):Int)≤9223372036854775807)=true∧K (.string (a++b))
 | _,_,_=>aj 20
def Hv (C:Ctx) (A:dx) (o:Oper) (op:BinOp) (t:TypeId) (x y:AV) (k:AV→Prop):Prop :=
 match x,y with
 | .v a,.v b=>match IL op a b with
  | none=>match a,b with
   | .bool x,.bool y=>B5 C.P op t x y k
   | a,b=>Hu op a b fun c=>k (.v c)
  | some c=>k (.v c)
 | .agg as,.agg bs=>match vH as,vH bs with
  | some xs,some ys=>match rj A.val (keyOf o) with
   | some (.v (.bool b))=>jq C.P op t xs ys=some (.bool b)∧k (.v (.bool b))
   | _=>aj 400
  | _,_=>aj 401
 | _,_=>aj 402
def Bs (C:Ctx) (A:dx) (o:Oper) (t:TypeId) (x ix:AV) (k:AV→Prop):Prop :=
 intOf ix fun i =>
 match C.P.underlying t,x with
 | some .string,.v (.string s)=>match rj A.val (keyOf o) with
  | some (.v (.int .u8 n))=>(if 0≤i then s[i.toNat]? else none)=some (UInt8.ofNat n.toNat)∧(n=((UInt8.ofNat n.toNat).toNat:Int)∧k (.v (.int .u8 n)))
  | _=>aj 403
 | some (.array len e),.agg cs=>match C.P.info? e with
  | some inf=>(decide (0≤i)&&decide (i<len))=true∧i6 C.P e cs (i.toNat * inf.size) k
  | none=>aj 404
 | _,_=>aj 405
def Kt (C:Ctx) (A:dx) (pl:br) (o:Oper) (vs:List AV) (k:AV→Prop):Prop :=
 match fq A.chk (keyOf o) with
 | false=>pop C pl o vs k
 | true=>match o.op,vs with
  | .binOp op t _ _ _,[a,b]=>Hv C A o op t a b k
  | .index t _ _,[a,i]=>Bs C A o t a i k
  | _,_=>aj 406
def Al (len cap:Nat) (lo hi mx:Option Int) (k:Nat→Nat→Nat→Prop):Prop :=
 match lo,hi,mx with
 | none,none,none=>k 0 len cap
 | some l,none,none=>(decide (0≤l)&&decide (l≤len))=true∧k l.toNat len cap
 | none,some h,none=>(decide (0≤h)&&decide (h≤cap))=true∧k 0 h.toNat cap
 | some l,some h,none=>(decide (0≤l)&&decide (l≤h)&&decide (h≤cap))=true∧k l.toNat h.toNat cap
 | none,some h,some m=>(decide (0≤h)&&decide (h≤m)&&decide (m≤cap))=true∧k 0 h.toNat m.toNat
 | some l,some h,some m=>(decide (0≤l)&&decide (l≤h)&&decide (h≤m)&&decide (m≤cap))=true∧k l.toNat h.toNat m.toNat
 | _,_,_=>aj 63
def mD (C:Ctx) (t:TypeId) (x:AV) (lo hi mx:Option Int) (S:St) (k:AV→Prop):Prop :=
 match C.P.underlying t with
 | some .string =>
  match x,mx with
  | .v (.string s),none=>Al s.size s.size lo hi none fun l h _=>k (.v (.string (s.extract l h)))
  | _,_=>aj 64
 | some (.slice e) =>
  match C.P.info? e with
  | some i=>bo (Nat.blt 0 i.size) (
   match x with
   | .sl rows=>gx i.size rows=true∧Al rows.length rows.length lo hi mx fun l h _ =>
    match lo,hi,jr mx&&jr hi with
    | _,_,true=>k .esl
    | none,none,_=>k (.sl rows)
    | _,none,_=>k (.sl (rows.drop l))
    | none,_,_=>k (.sl (rows.take h))
    | _,_,_=>k (.sl ((rows.drop l).take (h - l)))
   | .mf id=>match S.o[id]? with
    | some (.arr _ sz rows)=>bo (Nat.beq sz i.size) (Al rows.length rows.length lo hi mx fun l h m =>
     match lo,hi,jr mx&&jr hi with
     | _,_,true=>k .esl
     | none,none,_=>k (.mf id)
     | _,none,_=>k (.msl id l (rows.length - l) 0)
     | _,_,_=>k (.msl id l (h - l) (m - h)))
    | _=>aj 65
   | .msl id off len ext=>match S.o[id]? with
    | some (.arr _ sz _)=>bo (Nat.beq sz i.size) (Al len (len + ext) lo hi mx fun l h m =>
     match jr mx&&jr hi with
     | true=>k .esl
     | false=>k (.msl id (l + off) (h - l) (m - h)))
    | _=>aj 66
   | _=>aj 67)
  | none=>aj 68
 | _=>aj 69
def qe (C:Ctx) (row:List AV) (t:TypeId) (x ix:AV) (S:St) (k:AV→Prop):Prop :=
 intOf ix fun i =>
 match C.P.underlying t with
 | some (.slice e) =>
  match C.P.info? e with
  | some inf =>
   match x with
   | .sl rows=>Gl rows i=some row∧bo (Nat.beq row.length inf.size&&Nat.blt 0 inf.size) (k (.fptr row 0))
   | .mf id=>match S.o[id]? with
    | some (.arr _ _ rows)=>Gl rows i=some row∧bo (Nat.beq row.length inf.size&&Nat.blt 0 inf.size) (k (.ptr (.O id) i.toNat 0))
    | some (.own none _ cells _)=>bo (Nat.beq inf.size 1) ((decide (0≤i)&&Nat.blt i.toNat cells.length)=true∧k (.ptr (.O id) i.toNat 0))
    | _=>aj 72
   | .msl id off len _=>match S.o[id]? with
    | some (.arr _ _ rows)=>(decide (0≤i)&&decide (i<len))=true∧(rows[i.toNat + off]?=some row∧bo (Nat.beq row.length inf.size&&Nat.blt 0 inf.size) (k (.ptr (.O id) (i.toNat + off) 0)))
    | _=>aj 74
   | _=>aj 75
  | none=>aj 76
 | some (.array len e) =>
  match C.P.info? e with
  | some inf=>(decide (0≤i)&&decide (i<len))=true∧(
   match x with
   | .ptr key a j=>k (.ptr key a (i.toNat * inf.size + j))
   | .fptr row j=>k (.fptr row (i.toNat * inf.size + j))
   | _=>aj 77)
  | none=>aj 78
 | _=>aj 79
def wq (C:Ctx) (A:dx) (o:Oper) (fid:Nat) (as:List AV) (k:AV→Prop):Prop :=
 match rj A.call (keyOf o) with
 | some r=>(C.pcall fid as fun x=>x=r)∧k r
 | none=>C.pcall fid as k
def Ku (C:Ctx) (A:dx) (o:Oper) (vs:List AV) (M:St) (k:AV→Prop):Prop :=
 match o.op,vs with
 | .load t _,[p]=>match rj A.row (keyOf o) with
  | some row=>match p with
   | .ptr (.O id) i j=>match M.o[id]? with
    | some (.arr _ _ rows)=>rows[i]?=some row∧i6 C.P t row j k
    | _=>aj 410
   | _=>aj 411
  | none=>sK C o vs M k
 | .slice t _ lo hi mx,a::rest=>match fq A.chk (keyOf o) with
  | false=>sK C o vs M k
  | true=>match lo,hi,mx,rest with
   | none,none,none,[]=>mD C t a none none none M k
   | some _,none,none,[x]=>intOf x fun x=>mD C t a (some x) none none M k
   | none,some _,none,[y]=>intOf y fun y=>mD C t a none (some y) none M k
   | some _,some _,none,[x,y]=>intOf x fun x=>intOf y fun y=>mD C t a (some x) (some y) none M k
   | none,some _,some _,[y,z]=>intOf y fun y=>intOf z fun z=>mD C t a none (some y) (some z) M k
   | some _,some _,some _,[x,y,z]=>intOf x fun x=>intOf y fun y=>intOf z fun z=>mD C t a (some x) (some y) (some z) M k
   | _,_,_,_=>aj 202
 | .indexAddr t _ _,[a,i]=>match rj A.row (keyOf o) with
  | some row=>qe C row t a i M k
  | none=>sK C o vs M k
 | .lookup t _ _ ok,[m,key]=>match rj A.call (keyOf o) with
  | some a=>match C.P.underlying t,m with
   | some (.map kt e),.mp id=>match M.o[id]? with
    | some (.mapo _ es)=>(∀ k':AV→Prop,k' a→gy C.P kt key es fun _ r=>kT C.P e ok es r k')∧k a
    | _=>aj 412
   | _,_=>aj 413
  | none=>sK C o vs M k
 | .call c,vs=>match c.callee with
  | .value _=>match vs with
   | .fn fid first cap::as=>bo (C.pure fid) (jt M.o (first++as++cap) fun bs=>wq C A o fid bs fun r=>bo (wI 4 r||((first++as++cap).flatMap (dH M.o 6)).isEmpty) (k r))
   | _=>aj 205
  | _=>sK C o vs M k
 | _,_=>sK C o vs M k
def Bt (S:St) (row:List AV) (a:AV) (cs:List AV) (K:St→Prop):Prop :=
 match a with
 | .ptr (.O id) i j =>
  match S.o[id]? with
  | some (.arr fl sz rows)=>rows[i]?=some row∧bo (Nat.ble (j + cs.length) row.length&&cs.all (wa 4)) (iY (splice row j cs) fun row'=>aR (S.o.set id (.arr (fl&&cs.all (de 4)) sz (rows.set i row'))) fun o=>K { t:=S.t,l:=S.l,o:=o,b:=S.b })
  | _=>aj 18
 | _=>aj 19
def I1 (C:Ctx) (A:dx) (o:Oper) (vs:List AV) (M:St) (k:AV→St→Prop):Prop :=
 match rj A.row (keyOf o) with
 | none=>zB C o vs M k
 | some row=>match o.op,vs with
  | .store t _ _,[p,y]=>match p with
   | .ptr (.O _) _ _=>nS y fun cs=>match C.P.info? t with
    | some i=>bo (Nat.beq cs.length i.size) (Bt M row p cs fun M'=>k .bad M')
    | none=>aj 208
   | _=>zB C o vs M k
  | _,_=>zB C o vs M k
def xR (size:Nat) (S:St) (x:AV) (k:Bool→List (List AV)→Prop):Prop :=
 match x with
 | .nilsl | .esl=>k true []
 | .sl rows=>gx size rows=true∧k true rows
 | .mf id=>match S.o[id]? with | some (.arr fl sz rows)=>bo (Nat.beq sz size) (k fl rows) | _=>aj 45
 | .msl id off len _=>match S.o[id]? with | some (.arr fl sz rows)=>bo (Nat.beq sz size) (k fl ((rows.drop off).take len)) | _=>aj 46
 | .v (.string s)=>bo (Nat.beq size 1) (k true (s.data.toList.map fun b=>[.v (.int .u8 b.toNat)]))
 | _=>aj 47
def xS (P:Program) (ts:List TypeId) (base x:AV) (S:St) (k:St→AV→Prop):Prop :=
 match ts with
 | [t0,t1] =>
  match P.underlying t0 with
  | some (.slice e) =>
   match P.info? e with
   | some i=>bo (Nat.blt 0 i.size&&Nat.blt 0 i.bytes&&Jx i&&(match P.underlying t1 with | some (.slice _) | some .string=>true | _=>false)) (xR i.size S x fun fl src=>bh src=true∧(
     match base with
     | .nilsl | .esl=>Nat.ble (src.length * i.bytes) 140737488355328=true∧(aR (S.o++[.arr fl i.size src]) fun o=>k { t:=S.t,l:=S.l,o:=o,b:=S.b } (.mf S.o.length))
     | .mf id=>match S.o[id]? with
      | some (.arr fl' sz rows)=>bo (Nat.beq sz i.size&&(fl||!fl')) (Nat.ble ((rows.length + src.length) * i.bytes) 140737488355328=true∧q0 S id (.arr (fl'&&fl) sz (rows++src)) fun S' id'=>k S' (.mf id'))
      | _=>aj 48
     | .msl id off len ext=>match S.o[id]? with
      | some (.arr fl' sz rows)=>bo (Nat.beq sz i.size&&(fl||!fl')) (Nat.ble src.length ext=true∧(Nat.ble (off + len + ext) rows.length=true ∧
        aR (S.o.set id (.arr (fl'&&fl) sz (rows.take (off + len)++(src++rows.drop (off + len + src.length))))) fun o=>k { t:=S.t,l:=S.l,o:=o,b:=S.b } (.msl id off (len + src.length) (ext - src.length))))
      | _=>aj 49
     | _=>aj 50))
   | none=>aj 51
  | _=>aj 52
 | _=>aj 53
def uI (P:Program) (ts:List TypeId) (base x:AV) (k:AV→Prop):Prop :=
 match ts with
 | [t0,t1] =>
  match P.underlying t0 with
  | some (.slice e) =>
   match P.info? e with
   | some i=>bo (Nat.blt 0 i.size&&Nat.blt 0 i.bytes&&Jx i&&(match P.underlying t1 with | some (.slice _) | some .string=>true | _=>false)) (xR i.size M7 x fun fl src=>bo fl (bh src=true∧(Nat.ble (src.length * i.bytes) 140737488355328=true∧(
     match base with
     | .nilsl | .esl=>k (.sl src)
     | _=>aj 254))))
   | none=>aj 255
  | _=>aj 256
 | _=>aj 257
def Kv (C:Ctx) (o:Oper) (vs:List AV) (k:AV→Prop):Prop :=
 match o.op,vs with
 | .call c,[x,y]=>match c.callee with
  | .builtin .append=>uI C.P c.argTypes.toList x y k
  | _=>aj 258
 | _,_=>aj 259
def uJ (P:Program) (ts:List TypeId) (base:AV) (n:Int) (S:St) (k:St→AV→Prop):Prop :=
 match ts with
 | [t0,t1] =>
  match P.underlying t0,P.underlying t1 with
  | some (.slice e),some (.int _) =>
   match P.info? e with
   | some i=>(Nat.blt 0 i.size&&Nat.blt 0 i.bytes&&decide (0<n)&&decide (n * i.bytes≤140737488355328)&&decide (n≤140737488355328))=true∧(cC P e fun z=>bo (z.all (de 2)) (
     match base with
     | .nilsl | .esl=>aR (S.o++[.arr true i.size (List.replicate n.toNat z)]) fun o=>k { t:=S.t,l:=S.l,o:=o,b:=S.b } (.mf S.o.length)
     | _=>aj 250))
   | none=>aj 251
  | _,_=>aj 252
 | _=>aj 253
def mE (P:Program) (t:TypeId) (l c:AV) (S:St) (k:St→AV→Prop):Prop :=
 match P.underlying t with
 | some (.slice e) =>
  match P.info? e with
  | some i=>intOf l fun l=>intOf c fun c=>(decide (0≤l)&&decide (l≤c)&&decide (i.bytes * c≤140737488355328)&&decide (c≤140737488355328)&&Nat.blt 0 i.size)=true ∧
    (cC P e fun z=>bo (z.all (de 2)) (aR (S.o++[.arr true i.size (List.replicate l.toNat z)]) fun o=>k { t:=S.t,l:=S.l,o:=o,b:=S.b } (.mf S.o.length)))
  | none=>aj 61
 | _=>aj 62
def Eo (P:Program) (ts:List TypeId) (x y:AV) (M:St) (k:AV→St→Prop):Prop :=
 match ts with
 | t::_ =>
  match P.underlying t with
  | some (.slice e) =>
   match P.info? e with
   | some i=>bo (Nat.blt 0 i.size) (xR i.size M y fun fl src=>bh src=true∧bo (!(LA y)) (
     match x with
     | .mf id=>match M.o[id]? with
      | some (.arr fl' sz rows)=>bo (Nat.beq sz i.size) (aR (M.o.set id (.arr (fl'&&fl) sz (src.take rows.length++rows.drop src.length))) fun o=>k (.v (.int .i64 ((min src.length rows.length:Nat):Int))) { t:=M.t,l:=M.l,o:=o,b:=M.b })
      | _=>aj 243
     | .msl id off len _=>match M.o[id]? with
      | some (.arr fl' sz rows)=>bo (Nat.beq sz i.size) (Nat.ble (off + len) rows.length=true∧(aR (M.o.set id (.arr (fl'&&fl) sz (rows.take off++(src.take len++rows.drop (off + min src.length len))))) fun o=>k (.v (.int .i64 ((min src.length len:Nat):Int))) { t:=M.t,l:=M.l,o:=o,b:=M.b }))
      | _=>aj 244
     | _=>aj 245))
   | none=>aj 246
  | _=>aj 247
 | []=>aj 248
def Ep (C:Ctx) (A:dx) (o:Oper) (f:AV) (args:List AV) (S:St) (k:St→AV→Prop):Prop :=
 match f with
 | .fn fid first cap =>
  match C.pure fid with
  | true=>jt S.o (first++args++cap) fun as=>wq C A o fid as fun r =>
    match wI 4 r with
    | true=>k S r
    | false=>gK ((first++args++cap).flatMap (dH S.o 6)) S fun S'=>k S' r
  | false=>bo ((first++args++cap).all (wa 4)) (match rj A.sto (keyOf o) with
   | some (r,o')=>(C.scall fid (first++args++cap) S.o fun r' o''=>r'=r∧o''=o')∧kz (bH S.o o' 0) S.t S.l fun t l=>k { t:=t,l:=l,o:=o',b:=S.b } r
   | none=>C.scall fid (first++args++cap) S.o fun r o'=>kz (bH S.o o' 0) S.t S.l fun t l=>k { t:=t,l:=l,o:=o',b:=S.b } r)
 | _=>aj 97
def mF (P:Program) (R:List (AV×AV)) (t:TypeId) (m key x:AV) (S:St) (K:St→Prop):Prop :=
 match P.underlying t with
 | some (.map kt _) =>
  match m with
  | .mp id=>match S.o[id]? with
   | some (.mapo fl es)=>bo (wa 4 x) ((∀ K':List (AV×AV)→Prop,K' R→gy P kt key es fun kv r=>bo (wO P kt kv) (
     match r with
     | some i=>bo (Instr.sameBits 10000 ((es[i]?.bind fun e=>yE e.1).getD (.bool false)) kv) (K' (es.set i (key,x)))
     | none=>K' (es++[(key,x)])))∧aR (S.o.set id (.mapo (fl&&de 4 x) R)) fun o=>K { t:=S.t,l:=S.l,o:=o,b:=S.b })
   | _=>aj 106
  | _=>aj 107
 | _=>aj 108
def I2 (C:Ctx) (A:dx) (pl:br) (o:Oper) (S:St) (K:St→Prop):Prop :=
 match o.op with
 | .mapUpdate t m key x=>match rj A.mpr (keyOf o) with
  | some R=>cz S m fun m=>cz S key fun key=>cz S x fun x=>mF C.P R t m key x S fun S'=>bd o.dst .bad S' K
  | none=>yM C pl o S K
 | .insert t m key x=>match rj A.mpr (keyOf o) with
  | some R=>cz S m fun m=>cz S key fun key=>cz S x fun x=>mF C.P R t m key x S fun S'=>bd o.dst .bad S' K
  | none=>yM C pl o S K
 | .makeSlice t l c=>match fq A.chk (keyOf o) with
  | true=>cz S l fun l=>cz S c fun c=>mE C.P t l c S fun S' a=>bd o.dst a S' K
  | false=>yM C pl o S K
 | .call c=>match c.callee with
  | .builtin .append=>match fq A.chk (keyOf o) with
   | true=>dp S c.args.toList fun as=>match as with
    | [x,.v (.int _ n)]=>uJ C.P c.argTypes.toList x n S fun S' r=>bd o.dst r S' K
    | [x,y]=>xS C.P c.argTypes.toList x y S fun S' r=>bd o.dst r S' K
    | _=>aj 210
   | false=>yM C pl o S K
  | .builtin .copy=>dp S c.args.toList fun as=>match as with
    | [x,y]=>Eo C.P c.argTypes.toList x y S fun r S'=>bd o.dst r S' K
    | _=>aj 249
  | .value f=>cz S f fun fv=>dp S c.args.toList fun as=>Ep C A o fv as S fun S' r=>bd o.dst r S' K
  | _=>yM C pl o S K
 | _=>yM C pl o S K
def JA (A:dx) (dst:Option Tmp) (S:St) (K:St→Prop):Prop :=
 match dst with
 | none=>K S
 | some d=>match rj A.val d with
  | none=>K S
  | some v=>rF S.t d fun a=>a=v∧ud S.t d v fun t=>K { t:=t,l:=S.l,o:=S.o,b:=S.b }
def Hw (A:dx) (key:Nat) (S:St) (K:St→Prop):Prop :=
 match rj A.obr key with
 | none=>K S
 | some (id,R)=>match S.o[id]? with
  | some (.arr fl sz rows)=>rows=R∧aR (S.o.set id (.arr fl sz R)) fun o=>K { t:=S.t,l:=S.l,o:=o,b:=S.b }
  | _=>aj 430
def Hy (C:Ctx) (A:dx) (pl:br) (o:Oper) (S:St) (K:St→Prop):Prop :=
 dp S o.op.operands.toList fun vs=>Kt C A pl o vs fun r=>bd o.dst r S K
def Hz (C:Ctx) (A:dx) (o:Oper) (S:St) (K:St→Prop):Prop :=
 dp S o.op.operands.toList fun vs=>Ku C A o vs (cH S) fun r=>bd o.dst r S K
def JB (C:Ctx) (A:dx) (o:Oper) (S:St) (K:St→Prop):Prop :=
 dp S o.op.operands.toList fun vs=>I1 C A o vs (cH S) fun r M=>bd o.dst r (f6 S M) K
def qL (row:Option (List (List AV))) (M:St) (id i:Nat) (k:AV→St→Prop):Prop :=
 match M.o[id]? with
 | some (.own ks sz cells none)=>match row with
  | none=>cells[i]?=some none∧k .nilsl M
  | some rows=>cells[i]?=some (some rows)∧aR (M.o.set id (.own ks sz cells (some (i,.mf M.o.length)))++[.arr true sz rows]) fun o=>k (.mf M.o.length) { t:=M.t,l:=M.l,o:=o,b:=M.b }
 | _=>aj 323
def uK (P:Program) (a:ze) (t:TypeId) (same:Bool) (M:St) (id i:Nat) (k:AV→St→Prop):Prop :=
 match same with
 | true=>match M.o[id]? with
  | some (.own none _ cells (some (j,a)))=>(Nat.beq i j&&Nat.blt j cells.length)=true∧i6 P t [a] 0 fun r=>k r M
  | _=>aj 324
 | false=>qL a.row M id i fun a M'=>i6 P t [a] 0 fun r=>k r M'
def sg (P:Program) (t:TypeId) (M:St) (id i:Nat) (v:AV) (K:St→Prop):Prop :=
 match P.info? t,M.o[id]? with
 | some inf,some (.own none sz cells hole)=>bo (uh v&&Nat.beq inf.size 1) ((Nat.blt i cells.length&&mU hole i)=true∧(aR (M.o.set id (.own none sz cells (some (i,v)))) fun o=>K { t:=M.t,l:=M.l,o:=o,b:=M.b }))
 | _,_=>aj 325
def uL (P:Program) (a:ze) (t:TypeId) (l c:AV) (M:St) (k:AV→St→Prop):Prop :=
 match P.underlying t with
 | some (.slice e) =>
  match P.info? e,P.underlying e with
  | some i,some (.slice e2)=>match P.info? e2 with
   | some i2=>intOf l fun l=>intOf c fun c=>(decide (0≤l)&&decide (l≤c)&&decide (i.bytes * c≤140737488355328)&&decide (c≤140737488355328)&&Nat.blt 0 i.size)=true∧bo (Nat.beq i.size 1&&Nat.blt 0 i2.size)
     (cC P e fun z=>match z with
      | [.nilsl]=>List.replicate l.toNat none=a.cs∧aR (M.o++[.own none i2.size a.cs none]) fun o=>k (.mf M.o.length) { t:=M.t,l:=M.l,o:=o,b:=M.b }
      | _=>aj 325)
   | none=>aj 326
  | _,_=>aj 61
 | _=>aj 62
def uM (P:Program) (a:ze) (t:TypeId) (m key:AV) (ok:Bool) (M:St) (k:AV→St→Prop):Prop :=
 match P.underlying t with
 | some (.map kt e)=>match m with
  | .mp id=>match M.o[id]? with
   | some (.own (some ks) _ _ none)=>match a.at_ with
    | some i=>(∀ K':Option Nat→Prop,K' (some i)→gy P kt key (gV ks) fun _ r=>K' r)∧qL a.row M id i fun a M'=>pL ok a true fun r=>k r M'
    | none=>(∀ K':Option Nat→Prop,K' none→gy P kt key (gV ks) fun _ r=>K' r)∧i7 P e ok fun r=>k r M
   | _=>aj 333
  | _=>aj 334
 | _=>aj 335
def LG (M:St) (id sz:Nat) (cells:List (Option (List (List AV)))) (hole:Option (Nat×AV)) (x:AV) (K:St→Prop) (r:Option Nat) (ks:List AV):Prop :=
 match r with
 | some i=>mU hole i=true∧(aR (M.o.set id (.own (some ks) sz cells (some (i,x)))) fun o=>K { t:=M.t,l:=M.l,o:=o,b:=M.b })
 | none=>match hole with
  | none=>aR (M.o.set id (.own (some ks) sz (cells++[none]) (some (cells.length,x)))) fun o=>K { t:=M.t,l:=M.l,o:=o,b:=M.b }
  | some _=>aj 339
def tj (P:Program) (a:ze) (t:TypeId) (m key x:AV) (M:St) (K:St→Prop):Prop :=
 match P.underlying t with
 | some (.map kt _)=>match m with
  | .mp id=>match M.o[id]? with
   | some (.own (some ks) sz cells hole)=>bo (uh x) ((∀ K':Option Nat→List AV→Prop,K' a.at_ a.ks→gy P kt key (gV ks) fun kv r=>bo (wO P kt kv) (match r with
     | some i=>bo (Instr.sameBits 10000 ((ks[i]?.bind yE).getD (.bool false)) kv) (K' (some i) (ks.set i key))
     | none=>K' none (ks++[key])))∧LG M id sz cells hole x K a.at_ a.ks)
   | _=>aj 340
  | _=>aj 341
 | _=>aj 342
def E_ (P:Program) (A:dx) (pl:br) (o:Oper) (vs:List AV) (M:St) (k:AV→St→Prop):Prop :=
 match rj A.own (keyOf o) with
 | none=>l_ P pl o vs M k
 | some a=>match o.op,vs with
  | .load t _,[p]=>jK M p fun id i=>uK P a t (EW pl o) M id i k
  | .store t _ _,[p,v]=>jK M p fun id i=>sg P t M id i v fun M'=>k .bad M'
  | .makeSlice t _ _,[l,c]=>uL P a t l c M k
  | .lookup t _ _ ok,[m,key]=>uM P a t m key ok M k
  | .mapUpdate t _ _ _,[m,key,x]=>tj P a t m key x M fun M'=>k .bad M'
  | .insert t _ _ _,[m,key,x]=>tj P a t m key x M fun M'=>k .bad M'
  | _,_=>aj 343
def qM (A:dx) (S:St) (id:Nat) (K:St→Prop):Prop :=
 match rj A.own (id + 2000000) with
 | none=>i8 S id K
 | some a=>match S.o[id]? with
  | some (.own ks sz cells (some (j,.mf k)))=>match S.o[k]? with
   | some (.arr true sz' rows)=>bo (Nat.beq sz' sz) (Nat.blt j cells.length=true∧(cells.set j (some rows)=a.cs∧gK [k] S fun S1=>aR (S1.o.set id (.own ks sz a.cs none)) fun o=>K { t:=S1.t,l:=S1.l,o:=o,b:=S1.b }))
   | _=>aj 320
  | some (.own ks sz cells (some (j,.nilsl)))=>Nat.blt j cells.length=true∧(cells.set j none=a.cs∧(aR (S.o.set id (.own ks sz a.cs none)) fun o=>K { t:=S.t,l:=S.l,o:=o,b:=S.b }))
  | _=>aj 321
def xT (A:dx):List Nat→St→(St→Prop)→Prop
 | [],S,K=>K S
 | id::ids,S,K=>qM A S id fun S'=>xT A ids S' K
def tk (A:dx) (S:St) (id:Nat) (K:St→Prop):Prop :=
 match rj A.mpr (id + 2000000) with
 | none=>kU S id K
 | some R=>match S.o[id]? with
  | some (.own (some ks) _ cells none)=>mq ks cells=R∧(aR (S.o.set id (.mapo true R)) fun o=>K { t:=S.t,l:=S.l,o:=o,b:=S.b })
  | _=>aj 344
def uN (A:dx):List Nat→St→(St→Prop)→Prop
 | [],S,K=>K S
 | id::ids,S,K=>tk A S id fun S'=>uN A ids S' K
def xU (A:dx) (pl:br) (id:Nat) (S:St) (K:St→Prop):Prop :=
 match fq pl.cl id with
 | false=>K S
 | true=>xT A (DJ S.o.length) S fun S1=>match fq pl.fr id with
  | false=>K S1
  | true=>uN A (DJ S1.o.length) S1 K
def Er (C:Ctx) (A:dx) (o:Oper) (vs:List AV) (M:St) (k:AV→St→Prop):Prop :=
 match o.op,vs with
 | .makeSlice t _ _,[l,c]=>match fq A.chk (keyOf o) with
  | true=>mE C.P t l c M fun M' r=>k r M'
  | false=>mr C o vs M k
 | .call c,.fn fid first cap::as=>match c.callee with
  | .value _=>bo (!(C.pure fid)&&(first++as++cap).all (wa 4)) (match rj A.sto (keyOf o) with
   | some (r,o')=>(C.scall fid (first++as++cap) M.o fun r' o''=>r'=r∧o''=o')∧bo (bH M.o o' 0).isEmpty (k r { t:=M.t,l:=M.l,o:=o',b:=M.b })
   | none=>C.scall fid (first++as++cap) M.o fun r o'=>bo (bH M.o o' 0).isEmpty (k r { t:=M.t,l:=M.l,o:=o',b:=M.b }))
  | _=>aj 310
 | _,_=>I1 C A o vs M k
def HA (C:Ctx) (A:dx) (pl:br) (o:Oper) (vs:List AV) (M:St) (k:AV→St→Prop):Prop :=
 match gz pl o with
 | true=>E_ C.P A pl o vs M k
 | false=>Er C A o vs M k
def JC (C:Ctx) (A:dx) (pl:br) (o:Oper) (S:St) (K:St→Prop):Prop :=
 dp S o.op.operands.toList fun vs=>E_ C.P A pl o vs (cH S) fun r M=>bd o.dst r (f6 S M) K
def HB (C:Ctx) (A:dx) (pl:br) (o:Oper) (S:St) (K:St→Prop):Prop :=
 dp S o.op.operands.toList fun vs=>HA C A pl o vs (cH S) fun r M=>bd o.dst r (f6 S M) K
def JD (C:Ctx) (o:Oper) (S:St) (K:St→Prop):Prop :=
 dp S o.op.operands.toList fun vs=>Kv C o vs fun r=>bd o.dst r S K
def px (A:dx) (o:Oper) (K:St→Prop) (S:St):Prop:=JA A o.dst S fun S'=>Hw A (keyOf o) S' K
def Kw (C:Ctx) (A:dx) (pl:br) (o:Oper) (S:St) (K:St→Prop):Prop :=
 match GW o with
 | 0=>Hy C A pl o S (px A o K)
 | 1=>Hz C A o S (px A o K)
 | 2=>JB C A o S (px A o K)
 | _=>I2 C A pl o S (px A o K)
def JE (C:Ctx) (A:dx) (pl:br) (o:Oper) (S:St) (K:St→Prop):Prop :=
 match gz pl o with
 | true=>JC C A pl o S (px A o K)
 | false=>Kw C A pl o S K
def C0 (C:Ctx) (A:dx) (pl:br) (o:Oper) (S:St) (K:St→Prop):Prop :=
 match gn pl o with
 | 0=>Hy C A pl o S (px A o K)
 | 1=>Hz C A o S (px A o K)
 | 2=>HB C A pl o S (px A o K)
 | 4=>match o.dst with
  | some d=>bd o.dst (.ptr (.L d) 0 0) S K
  | none=>aj 217
 | 5=>JD C o S (px A o K)
 | _=>match B8 pl o with
  | true=>aj 219
  | false=>I2 C A pl o S (px A o K)
def Kx (op:BinOp):Bool :=
 match op with
 | .eql | .neq=>true
 | _=>false
def Am (op:BinOp):Bool :=
 match op with
 | .eql=>true
 | _=>false
def JF (P:Program) (o:Oper) (S:St) (K:St→Prop):Prop :=
 match o.op with
 | .binOp op t x (.const (.slice none 0 0)) _=>match P.underlying t with
  | some (.slice _)=>cz S x fun a=>match a with
   | .sl rows=>bo (Kx op) ((rows=[]→bd o.dst (.v (.bool (Am op))) S K)∧bd o.dst (.v (.bool (!(Am op)))) S K)
   | _=>aj 460
  | _=>aj 461
 | _=>aj 462
def Bu (C:Ctx) (A:dx) (pl:br) (all:Array Oper):List Oper→St→(St→Prop)→Prop
 | [],S,K=>K S
 | o::rest,S,K =>
  match o.guard with
  | none=>match fq A.dem (keyOf o) with
   | true=>JF C.P o S fun S'=>Bu C A pl all rest S' K
   | false=>JE C A pl o S fun S'=>Bu C A pl all rest S' K
  | some (j,want) =>
   match sL all j with
   | none=>aj 218
   | some d=>gM d S fun b S1=>gsel b want (JE C A pl o S1 fun S'=>Bu C A pl all rest S' K) (bd o.dst (.tup []) S1 fun S'=>Bu C A pl all rest S' K)
def Nm (C:Ctx) (A:dx) (pl:br) (all:Array Oper) (o:Oper) (S:St) (K:St→Prop):Prop :=
 match o.guard with
 | none=>bo (jL pl all o S) (C0 C A pl o S K)
 | some (j,want) =>
  match sL all j with
  | none=>aj 218
  | some d=>gM d S fun b S1=>gsel b want (bo (jL pl all o S1) (C0 C A pl o S1 K)) (bd o.dst (.tup []) S1 K)
def Lv (C:Ctx) (A:dx) (pl:br) (ops:Array Oper) (i:Nat) (S:St) (K:St→Prop):Prop :=
 match ops[i]? with
 | none=>aj 303
 | some o=>Nm C A pl ops o S K
def oT (C:Ctx) (A:dx) (pl:br) (ops:Array Oper):PT→Option (St×Prop)→St→(St→Prop)→Prop
 | .done,m,S,K=>match m with
  | none=>K S
  | some (_,X)=>X
 | .go i t,m,S,K=>match m with
  | none=>Lv C A pl ops i S fun S'=>oT C A pl ops t none S' K
  | some (_,_)=>aj 305
 | .alt i t r,m,S,K=>match m with
  | none=>Lv C A pl ops i S fun S'=>oT C A pl ops t none S' fun S1=>oT C A pl ops r (some (S1,K S1)) S K
  | some (S1,X)=>Lv C A pl ops i S fun S'=>oT C A pl ops t none S' fun S2=>S2=S1∧oT C A pl ops r (some (S1,X)) S K
def rm (f:Nat→Option PT):List Nat→Option PT
 | []=>some .done
 | i::is=>match f i with
  | some t=>match rm f is with
   | some r=>some (.alt i t r)
   | none=>none
  | none=>none
def QX:List Nat→Bool
 | [_,_] | [_,_,_] | [_,_,_,_]=>true
 | _=>false
def kJ (pl:br) (ops:Array Oper) (ws:List Nat):Nat→Nat→Array Bool→Option PT
 | 0,_,listed=>match Region.ready .any ops listed with
  | []=>some .done
  | _::_=>none
 | n + 1,a,listed =>
  match Region.ready .any ops listed with
  | []=>some .done
  | r::rs=>match pN pl ops ws listed (r::rs) with
   | some k=>match kJ pl ops ws n a (listed.setIfInBounds k true) with | some t=>some (.go k t) | none=>none
   | none=>match rs with
    | []=>match kJ pl ops ws n a (listed.setIfInBounds r true) with | some t=>some (.go r t) | none=>none
    | _::_=>match QX (r::rs),a with
     | true,a + 1=>rm (fun i=>kJ pl ops ws n a (listed.setIfInBounds i true)) (r::rs)
     | _,_=>none
def Ao (pl:br) (ops:Array Oper) (ws:List Nat):Nat→Array Bool→Option PT
 | 0,listed=>kJ pl ops ws 0 6 listed
 | n + 1,listed=>match pO ops listed (Region.ready .any ops listed) with
  | some i=>match Ao pl ops ws n (listed.setIfInBounds i true) with | some t=>some (.go i t) | none=>none
  | none=>kJ pl ops ws (n + 1) 6 listed
def xV (pl:br) (ops:Array Oper):Option PT :=
 match M8 ops with
 | false=>none
 | true=>match pl.cl with
  | []=>kJ pl ops (bI ops.toList []) ops.size 3 (Array.replicate ops.size false)
  | _::_=>Ao pl ops (bI ops.toList []) ops.size (Array.replicate ops.size false)
def kD (pl:br) (ord:List (Nat×PT)):Code→Bool
 | .region id ops true=>match rj ord id,xV pl ops with
  | some is,some js=>En is js
  | _,_=>false
 | .seq a b=>kD pl ord a&&kD pl ord b
 | .cond _ a b=>kD pl ord a&&kD pl ord b
 | .block _ c=>kD pl ord c
 | .loop c=>kD pl ord c
 | _=>true
def rn:Code→Nat
 | .region id _ _=>id
 | .seq a _=>rn a
 | .cond _ a _=>rn a
 | .block _ c=>rn c
 | .loop c=>rn c
 | _=>0
def Gm (A:Ks) (id:Nat) (S:St) (K:St→Prop):Prop :=
 match rj A.wr id with
 | some L=>Ht L S K
 | none=>K S
def I3:Type:=Code→St→(Ex→St→Prop)→Prop
def xW (C:Ctx) (cd:I3) (A:Ks) (pl:br):Code→St→(Ex→St→Prop)→Prop
 | .skip,S,K=>K .nrm S
 | .region id ops draw,S,K =>
  match draw with
  | false=>Bu C (Gk A id) pl ops ops.toList S fun S'=>xU (Gk A id) pl id S' fun S''=>Gm A id S'' (K .nrm)
  | true=>match rj A.ord id with
   | some is=>bo (u6 pl ops) (yO C.P (bZ ops.toList) S fun S1=>oT C (Gk A id) pl ops is none S1 fun S'=>lG (bZ ops.toList) S' (xU (Gk A id) pl id S' fun S''=>Gm A id S'' (K .nrm)))
   | none=>aj 440
 | .seq a b,S,K=>xW C cd A pl a S fun e S'=>match e with
  | .nrm=>match rj A.cut (rn b) with
   | some (W,L,e1,S1)=>Ht L (wk W S') fun S2=>cd b S2 (fun e' S3=>e'=e1∧S3=S1)∧K e1 S1
   | none=>xW C cd A pl b S' K
  | .ex i=>K (.ex i) S'
  | .ret=>K .ret S'
 | .cond c x y,S,K=>pH c S fun b S'=>match b with
  | true=>xW C cd A pl x S' K
  | false=>xW C cd A pl y S' K
 | .block id c,S,K=>xW C cd A pl c S fun e S'=>match e with
  | .ex i=>match Nat.beq i id with | true=>K .nrm S' | false=>K (.ex i) S'
  | .nrm=>K .nrm S'
  | .ret=>K .ret S'
 | .loop c,S,K=>match rj A.lps (rn c) with
  | some (W,L,e,S1)=>Ht L (wk W S) fun S2=>(C.loop pl c S2 fun e' S'=>e'=e∧S'=S1)∧K e S1
  | none=>C.loop pl c S K
 | .exit id,S,K=>K (.ex id) S
 | .ret,S,K=>K .ret S
 | _,_,_=>aj 119
def sub:Code→List Nat→Code
 | c,[]=>c
 | .seq a _,0::p=>sub a p
 | .seq _ b,_::p=>sub b p
 | .cond _ a _,0::p=>sub a p
 | .cond _ _ b,_::p=>sub b p
 | .block _ c,_::p=>sub c p
 | .loop c,_::p=>sub c p
 | c,_=>c
def aF (P:Program) (f:Nat):Code :=
 match P.funcs[f]? with
 | some fn=>fn.body.getD .skip
 | none=>.skip
def ez (S S':St):Prop:=∀ (G:Gh) (E:Env) (a:Act) (w:World),al G pn E S w→TR E S.t a→∃ E',al G pn E' S' w∧TR E' S'.t a
def Ky:Ex→Nat
 | .nrm=>0
 | .ret=>1
 | .ex i=>i + 2
def Kz (C:Ctx) (cd:I3) (A:Ks) (pl:br) (we:List (Nat×(Wk×Le))) (c:Code) (S:St) (K:Ex→St→Prop):Prop :=
 xW C cd A pl c S fun e S'=>match rj we (Ky e) with
  | some (W,L)=>Ht L (wk W S') (K e)
  | none=>K e S'
def Qy:List (Nat×AV)→Nat→Nat→List AV
 | _,_,0=>[]
 | xs,i,n + 1=>(match rj xs i with | some a=>a | none=>.bad)::Qy xs (i + 1) n
def aW (n:Nat) (ts:List (Nat×AV)) (l:List (Nat×List AV)) (o:List Ob) (b:Nat):St:={ t:=Qy ts 0 n,l:=l,o:=o,b:=b }
theorem ez.refl (S:St):ez S S:=fun _ E _ _ h k=>⟨E,h,k⟩
theorem ez.trans {S S' S'':St} (h:ez S S') (k:ez S' S''):ez S S'':=fun G E a w hM ht=>by
 obtain ⟨E1,h1,h2⟩:=h G E a w hM ht
 exact k G E1 a w h1 h2
theorem b9.refl (a:AV):b9 a a:=fun _ _ h=>h
theorem b9.ofEq {a b:AV} (h:a=b):b9 a b:=by rw [h]; exact .refl _
theorem b9.trans {a b c:AV} (h:b9 a b) (k:b9 b c):b9 a c:=fun _ _ hv=>k _ _ (h _ _ hv)
theorem b9.bad (a:AV):b9 a .bad:=fun _ _ _=>.bad _ _
theorem b9.nil:b9 .nilsl (.sl []):=fun E u h=>by cases h; exact .sln E
theorem b9.esl:b9 .esl (.sl []):=fun E u h=>by
 cases h with
 | esln=>exact .sln E
 | esl _ a=>exact .sle E a 0
theorem fj.refl (r:List AV):fj r r:=⟨rfl,fun _ _ _ h k=>by rw [h] at k; cases k; exact .refl _⟩
theorem fj.nil:fj [] []:=.refl _
theorem fj.cons {a b:AV} {r r':List AV} (h:b9 a b) (k:fj r r'):fj (a::r) (b::r') :=
 ⟨by simp [k.1],fun i x y h1 h2=>by
  cases i with
  | zero=>simp at h1 h2; subst h1 h2; exact h
  | succ i=>exact k.2 i x y (by simpa using h1) (by simpa using h2)⟩
theorem fj.vrs {r r':List AV} {E:Env} {us:List Value} (h:fj r r') (hv:bO E r us):bO E r' us :=
 ⟨by rw [← h.1]; exact hv.1,fun m c u h1 h2=>by
  have hm:m<r.length:=by rw [h.1]; exact (List.getElem?_eq_some_iff.1 h1).1
  exact h.2 m _ c (List.getElem?_eq_getElem hm) h1 _ _ (hv.2 m _ u (List.getElem?_eq_getElem hm) h2)⟩
theorem b9.agg {r r':List AV} (h:fj r r'):b9 (.agg r) (.agg r'):=fun E u hv=>by
 obtain ⟨us,rfl,h1⟩:=hv.aggI
 exact bO.aggV (h.vrs h1)
theorem b9.tup {r r':List AV} (h:fj r r'):b9 (.tup r) (.tup r'):=fun E u hv=>by
 obtain ⟨us,rfl,h1⟩:=hv.tupI
 have:=h.vrs h1
 exact .tup us (by simpa using this.1) (fun m c u h1 h2=>this.2 m c u h1 (by simpa using h2))
theorem b9.fptr {r r':List AV} {j:Nat} (h:fj r r'):b9 (.fptr r j) (.fptr r' j):=fun E u hv=>by
 cases hv with
 | fptr j us h1 h2 h3 h4 =>
  have:=h.vrs (E:=E.fz) (us:=us) ⟨h1.symm,h2⟩
  exact .fptr j us this.1.symm this.2 h3 h4
theorem lX.refl (r:List (List AV)):lX r r:=⟨rfl,fun _ _ _ h k=>by rw [h] at k; cases k; exact .refl _⟩
theorem lX.nil:lX [] []:=.refl _
theorem lX.cons {a b:List AV} {r r':List (List AV)} (h:fj a b) (k:lX r r'):lX (a::r) (b::r') :=
 ⟨by simp [k.1],fun i x y h1 h2=>by
  cases i with
  | zero=>simp at h1 h2; subst h1 h2; exact h
  | succ i=>exact k.2 i x y (by simpa using h1) (by simpa using h2)⟩
theorem lX.app {a b r r':List (List AV)} (h:lX a b) (k:lX r r'):lX (a++r) (b++r'):=by
 induction a generalizing b with
 | nil =>
  have:b=[]:=List.eq_nil_of_length_eq_zero h.1.symm
  subst this
  exact k
 | cons x a ih =>
  cases b with
  | nil=>exact absurd h.1 (by simp)
  | cons y b=>exact .cons (h.2 0 x y rfl rfl) (ih ⟨by simpa using h.1,fun i p q h1 h2=>h.2 (i + 1) p q (by simpa using h1) (by simpa using h2)⟩)
theorem fj.app {a b r r':List AV} (h:fj a b) (k:fj r r'):fj (a++r) (b++r'):=by
 induction a generalizing b with
 | nil =>
  have:b=[]:=List.eq_nil_of_length_eq_zero h.1.symm
  subst this
  exact k
 | cons x a ih =>
  cases b with
  | nil=>exact absurd h.1 (by simp)
  | cons y b=>exact .cons (h.2 0 x y rfl rfl) (ih ⟨by simpa using h.1,fun i p q h1 h2=>h.2 (i + 1) p q (by simpa using h1) (by simpa using h2)⟩)
theorem lX.flat {r r':List (List AV)} (h:lX r r'):fj r.flatten r'.flatten:=by
 induction r generalizing r' with
 | nil =>
  have:r'=[]:=List.eq_nil_of_length_eq_zero h.1.symm
  subst this
  exact .refl _
 | cons x a ih =>
  cases r' with
  | nil=>exact absurd h.1 (by simp)
  | cons y b =>
   have h1:=h.2 0 x y rfl rfl
   have h2:=ih (r':=b) ⟨by simpa using h.1,fun i p q h1 h2=>h.2 (i + 1) p q (by simpa using h1) (by simpa using h2)⟩
   rw [List.flatten_cons,List.flatten_cons]
   have app:∀ {a b r r':List AV},fj a b→fj r r'→fj (a++r) (b++r'):=by
    intro a b r r' h k
    induction a generalizing b with
    | nil =>
     have:b=[]:=List.eq_nil_of_length_eq_zero h.1.symm
     subst this
     exact k
    | cons x a ih =>
     cases b with
     | nil=>exact absurd h.1 (by simp)
     | cons y b=>exact .cons (h.2 0 x y rfl rfl) (ih ⟨by simpa using h.1,fun i p q h1 h2=>h.2 (i + 1) p q (by simpa using h1) (by simpa using h2)⟩)
   exact app h1 h2
theorem lX.lens {r r':List (List AV)} {sz:Nat} (h:lX r r') (hl:∀ x∈r,x.length=sz):∀ x∈r',x.length=sz:=by
 intro x hx
 obtain ⟨i,hi⟩:=List.getElem?_of_mem hx
 have hlt:i<r.length:=by rw [h.1]; exact (List.getElem?_eq_some_iff.1 hi).1
 rw [← (h.2 i _ x (List.getElem?_eq_getElem hlt) hi).1]
 exact hl _ (List.getElem_mem hlt)
theorem b9.sl {r r':List (List AV)} (h:lX r r'):b9 (.sl r) (.sl r'):=fun E u hv=>by
 cases hv with
 | sln =>
  have:r'=[]:=List.eq_nil_of_length_eq_zero h.1.symm
  subst this
  exact .sln E
 | sle _ a cap =>
  have:r'=[]:=List.eq_nil_of_length_eq_zero h.1.symm
  subst this
  exact .sle E a cap
 | sl us h1 h2 h3 h4 h5 h6 h7 =>
  have hf:=h.flat
  have:=hf.vrs (E:=E.fz) (us:=us) ⟨h3.symm,h4⟩
  rw [h.1]
  exact .sl us h1 (h.lens h2) this.1.symm this.2 h5 h6 (by rw [← h.1]; exact h7)
theorem Fa {ts:List Nat}:∀ {t:List AV} {i j:Nat} {c:AV},(IY ts i t)[j]?=some c→c=.bad∨t[j]?=some c
 | [],_,_,_,h=>by simp [IY] at h
 | x::xs,i,0,c,h=>by
  simp only [IY,List.getElem?_cons_zero,Option.some.injEq] at h
  split at h
  ·exact .inr (by rw [← h]; rfl)
  ·exact .inl h.symm
 | x::xs,i,j + 1,c,h=>by
  simp only [IY,List.getElem?_cons_succ] at h
  rw [List.getElem?_cons_succ]
  exact Fa h
theorem Fb {ts:List Nat}:∀ {t:List AV} {i:Nat},(IY ts i t).length=t.length
 | [],_=>rfl
 | x::xs,i=>by simp [IY,Fb]
theorem HC (ts:List Nat) (S:St):ez S { t:=IY ts 0 S.t,l:=S.l,o:=S.o,b:=S.b }:=fun _ E _ _ hM ht =>
 ⟨E,hM.congr rfl rfl rfl,by rw [Fb]; exact ht.len,fun n c u h1 h2=>by
  rcases Fa h1 with h | h
  ·rw [h]; exact .bad _ _
  ·exact ht.val n c u h h2,ht.df,ht.gt⟩
theorem Bv (d:Nat) (S:St):ez S (eX d S):=fun G E a w hM ht=>by
 obtain ⟨E1,h1,h2,_⟩:=rN hM ht d rfl
 exact ⟨E1,h1,h2⟩
theorem tl:∀ (ds:List Nat) (S:St),ez S (Bq ds S)
 | [],S=>.refl S
 | d::ds,S=>(Bv d S).trans (tl ds _)
theorem Gn (i:Nat) (S:St):ez S (gu i S):=fun _ _ _ _ hM ht =>
 let ⟨h1,h2⟩:=vh hM ht i
 ⟨_,h1,h2⟩
theorem xX:∀ (ds:List Nat) (S:St),ez S (Hs ds S)
 | [],S=>.refl S
 | d::ds,S=>(Gn d S).trans (xX ds _)
theorem qf:∀ {os:List Ob} {i:Nat} {x:Ob},Br os=true→os[i]?=some x→x=.dead
 | [],i,x,_,h=>by simp at h
 | .dead::os,0,x,_,h=>by simp at h; exact h.symm
 | .dead::os,i + 1,x,h,h1=>qf (os:=os) (i:=i) h (by simpa using h1)
 | .arr _ _ _::os,_,_,h,_=>by cases h
 | .mapo _ _::os,_,_,h,_=>by cases h
 | .own _ _ _ _::os,_,_,h,_=>by cases h
theorem Gp (n:Nat) (S:St):ez S (Kq n S):=fun _ E _ _ hM ht=>by
 unfold Kq
 split
 ·rename_i h
  rw [Bool.and_eq_true] at h
  have hb:=Nat.le_of_ble_eq_true h.2
  have hbl:=hM.bl
  refine ⟨E,⟨hM.hp,hM.os,hM.tape,hM.output,hM.size,hM.keep,hM.F0,hM.Flt,hM.Fnew,hM.own,hM.inj,hM.loc,fun id=>?_,fun id hid=>?_,?_,hM.szs,hM.pk,fun id=>?_⟩,ht⟩
  ·have h0:=hM.obj id
   show gN E (S.o.take n)[id]? _
   rw [List.getElem?_take]
   split
   ·exact h0
   ·rename_i hn
    cases hx:S.o[id]? with
    | none=>rw [hx] at h0; exact h0
    | some x =>
     have:x=.dead:=qf h.1 (i:=id - n) (by rw [List.getElem?_drop]; rw [show n + (id - n)=id by omega]; exact hx)
     rw [hx,this] at h0
     revert h0
     cases E.mu (.O id) with
     | none=>exact fun _=>trivial
     | some _=>exact fun h=>h.elim
  ·show (S.o.take n)[id]?=some .dead∨_
   have hid':id<S.b:=hid
   rw [List.getElem?_take,if_pos (by omega)]
   exact hM.old id hid
  ·show S.b≤(S.o.take n).length
   rw [List.length_take]
   omega
  ·have h0:=hM.ow id
   show eV E id (S.o.take n)[id]?
   rw [List.getElem?_take]
   split
   ·exact h0
   ·rename_i hn
    cases hx:S.o[id]? with
    | none=>rw [hx] at h0; exact h0
    | some x =>
     have:x=.dead:=qf h.1 (i:=id - n) (by rw [List.getElem?_drop]; rw [show n + (id - n)=id by omega]; exact hx)
     rw [hx,this] at h0
     exact h0
 ·exact ⟨E,hM,ht⟩
theorem xY {G:Gh} {E:Env} {S:St} {w:World} (hM:al G pn E S w):E.mu (.O S.o.length)=none:=by
 have:=hM.obj S.o.length
 rw [List.getElem?_eq_none (Nat.le_refl _)] at this
 revert this
 cases E.mu (.O S.o.length) with
 | none=>exact fun _=>rfl
 | some _=>exact fun h=>h.elim
theorem C1 {G:Gh} {E:Env} {S:St} {w:World} (hM:al G pn E S w) (sz:Nat) (t:List AV):al G pn ⟨E.F,aD E.mu (.O S.o.length) .virt,E.h⟩ { t:=t,l:=S.l,o:=S.o++[.arr true sz []],b:=S.b } w:=by
 have hbl:=hM.bl
 refine hM.addkey' (key:=.O S.o.length) (mv:=.virt) (fun _ _=>rfl) (fun _ h=>by cases h) (xY hM) (fun _ _ _ _ h=>by cases h) (fun _ _=>rfl) (fun id hid=>?_) rfl ?_ (fun id h=>?_) (fun _ h=>by cases h) (fun id h=>?_) ?_
 ·show (S.o++[_])[id]?=_
  by_cases h:id<S.o.length
  ·rw [List.getElem?_append_left h]
  ·have hne:id≠S.o.length:=fun e=>hid (by rw [e])
   rw [List.getElem?_eq_none (by simp; omega),List.getElem?_eq_none (by omega)]
 ·show S.b≤(S.o++[_]).length
  simp
  omega
 ·cases h
  exact hbl
 ·cases h
  show gN _ (S.o++[_])[S.o.length]? _
  rw [List.getElem?_append_right (Nat.le_refl _),Nat.sub_self]
  rfl
 ·exact hM.ow_push rfl rfl
theorem sh:∀ (ps:List (Nat×Nat)) (S:St),ez S (CZ ps S)
 | [],S=>.refl S
 | (d,sz)::ps,S=>by
  unfold CZ
  split
  ·rename_i hd
   refine ez.trans ?_ (sh ps _)
   intro G E a w hM ht
   refine ⟨_,C1 hM sz _,?_⟩
   have hle:LE E ⟨E.F,aD E.mu (.O S.o.length) .virt,E.h⟩:=lL (xY hM)
   refine ⟨by simpa using ht.len,fun n c u h1 h2=>?_,ht.df,ht.gt.mono hle⟩
   have h1':(S.t.set d (.mf S.o.length))[n]?=some c:=h1
   rw [List.getElem?_set] at h1'
   split at h1'
   ·rename_i e
    subst e
    split at h1'
    ·cases h1'
     have hv:=ht.val d _ u hd h2
     cases hv
     exact .mfn (by show aD _ _ _ _=_; unfold aD; rw [if_pos rfl])
    ·cases h1'
   ·exact (ht.val n c u h1' h2).mono hle
  ·exact sh ps S
theorem ov:∀ (ps:List (Nat×Nat×Nat)) (S:St),ez S (Ak ps S)
 | [],S=>.refl S
 | (d,j,sz)::ps,S=>by
  unfold Ak
  split
  ·rename_i row hd
   split
   ·rename_i hj
    refine ez.trans ?_ (ov ps _)
    intro G E a w hM ht
    have hle:LE E ⟨E.F,aD E.mu (.O S.o.length) .virt,E.h⟩:=lL (xY hM)
    refine ⟨_,?_,ht.mono hle⟩
    have h0:=C1 hM sz S.t
    refine ⟨h0.hp,h0.os,h0.tape,h0.output,h0.size,h0.keep,h0.F0,h0.Flt,h0.Fnew,h0.own,h0.inj,fun e=>?_,h0.obj,h0.old,h0.bl,h0.szs,(fun _ _ h=>by cases h),h0.ow⟩
    have h1:=h0.loc e
    show iz pn _ (aG (vG S.l d (row.set j (.mf S.o.length))) e) e
    rw [ll hd]
    split
    ·rename_i e'
     subst e'
     have h1':iz pn ⟨E.F,aD E.mu (.O S.o.length) .virt,E.h⟩ (aG S.l d) d:=h1
     rw [hd] at h1'
     rcases h1' with ⟨b,h2,h3,h4,us,ty,h5,h6,h7⟩ | ⟨_,h2,_⟩
     ·refine .inl ⟨b,by simpa using h2,by simpa using h3,by simp,us,ty,h5,by simpa using h6,fun m c hc=>?_⟩
      have hf:[row.set j (.mf S.o.length)].flatten=row.set j (.mf S.o.length):=by simp
      have hf0:[row].flatten=row:=by simp
      rw [hf,List.getElem?_set] at hc
      split at hc
      ·rename_i e'
       subst e'
       split at hc
       ·cases hc
        obtain ⟨u,hu,hv⟩:=h7 j .nilsl (by rw [hf0]; exact hj)
        refine ⟨u,hu,?_⟩
        cases hv
        exact .mfn (by show aD _ _ _ _=_; unfold aD; rw [if_pos rfl])
       ·cases hc
      ·exact h7 m c (by rw [hf0]; exact hc)
     ·cases h2
    ·exact h1
   ·exact ov ps S
  ·exact ov ps S
theorem qN:∀ (ds:List Nat) (S:St),ez S (Gj ds S)
 | [],S=>.refl S
 | d::ds,S=>by
  unfold Gj
  split
  ·rename_i x hx
   split
   ·rename_i y hy
    refine ez.trans ?_ (qN ds _)
    intro G E a w hM ht
    obtain ⟨hS1,ht1⟩:=mX (ids:=dH S.o 6 x) hM ht
    obtain ⟨hle2,hS2⟩:=hS1.freeze (F':=FD E (dH S.o 6 x)) (fun b h=>.inl h) (fun b h=>by
     rcases h with h | ⟨id,hid,o',s,n,hm⟩
     ·exact .inl h
     ·obtain ⟨h1,h2,h3⟩:=hM.own _ _ _ _ _ hm
      refine .inr ⟨h2,h3,fun k o'' s' n' h'=>?_⟩
      obtain ⟨h4,h5⟩:=ko h'
      exact h5 id hid (hM.inj _ _ _ _ _ _ _ _ _ h4 hm))
    have ht2:=ht1.mono hle2
    refine ⟨_,hS2.congr rfl rfl rfl,by simpa using ht2.len,fun n c u h1 h2=>?_,ht2.df,ht2.gt⟩
    have h1':((mw (dH S.o 6 x) S).t.set d y)[n]?=some c:=h1
    rw [List.getElem?_set] at h1'
    split at h1'
    ·rename_i e
     subst e
     split at h1'
     ·cases h1'
      have hv:=iH hM 6 hy (ht.val d _ u hx h2) (ids:=dH S.o 6 x) (fun _ h=>h)
      exact hv.mono ⟨fun _ h=>h,fun _ _ _ h=>(by cases h),fun _ _=>rfl,fun _ _ _ _ _ _ h=>(by cases h)⟩
     ·cases h1'
    ·exact ht2.val n c u h1' h2
   ·exact qN ds S
  ·exact qN ds S
theorem HD (W:Wk) (S:St):ez S (Nl W S):=by
 unfold Nl
 exact (HC W.ts S).trans ((tl W.ls _).trans ((xX _ _).trans ((Gp _ _).trans ((sh _ _).trans (ov _ _)))))
theorem qO (W:Wk) (S:St):ez S (wk W S):=(qN W.fz S).trans (HD W _)
theorem C2:∀ {xs:List (Nat×AV)} {S:St} {K:St→Prop},Kr xs S K→∃ S',ez S S'∧K S'
 | [],S,K,h=>⟨S,.refl S,h⟩
 | (d,v)::xs,S,K,h=>by
  obtain ⟨a,ha,hl,h⟩:=bS.1 h
  rw [d_] at h
  obtain ⟨S',h1,h2⟩:=C2 h
  refine ⟨S',ez.trans ?_ h1,h2⟩
  intro G E act w hM ht
  refine ⟨E,hM.congr rfl rfl rfl,by simpa using ht.len,fun n c u h1 h2=>?_,ht.df,ht.gt⟩
  have h1':(S.t.set d v)[n]?=some c:=h1
  rw [List.getElem?_set] at h1'
  split at h1'
  ·rename_i e
   subst e
   split at h1'
   ·cases h1'
    exact hl _ _ (ht.val d _ u ha h2)
   ·cases h1'
  ·exact ht.val n c u h1' h2
theorem C3:∀ {xs:List (Nat×List AV)} {S:St} {K:St→Prop},IZ xs S K→∃ S',ez S S'∧K S'
 | [],S,K,h=>⟨S,.refl S,h⟩
 | (d,r)::xs,S,K,h=>by
  unfold IZ at h
  split at h
  ·rename_i row hd
   obtain ⟨hl,h⟩:=h
   rw [jc] at h
   obtain ⟨S',h1,h2⟩:=C3 h
   refine ⟨S',ez.trans ?_ h1,h2⟩
   intro G E act w hM ht
   refine ⟨E,?_,ht⟩
   refine ⟨hM.hp,hM.os,hM.tape,hM.output,hM.size,hM.keep,hM.F0,hM.Flt,hM.Fnew,hM.own,hM.inj,fun e=>?_,hM.obj,hM.old,hM.bl,hM.szs,(fun _ _ h=>by cases h),hM.ow⟩
   have h1:=hM.loc e
   show iz pn _ (aG (vG S.l d r) e) e
   rw [ll hd]
   split
   ·rename_i e'
    subst e'
    rw [hd] at h1
    rcases h1 with ⟨b,h2,h3,h4,us,ty,h5,h6,h7⟩ | ⟨_,h2,_⟩
    ·refine .inl ⟨b,by rw [← hl.1]; exact h2,by rw [← hl.1]; exact h3,by simp,us,ty,h5,by rw [← hl.1]; exact h6,fun m c hc=>?_⟩
     have hf:[r].flatten=r:=by simp
     have hf0:[row].flatten=row:=by simp
     rw [hf] at hc
     have hm:m<row.length:=by rw [hl.1]; exact (List.getElem?_eq_some_iff.1 hc).1
     obtain ⟨u,hu,hv⟩:=h7 m _ (by rw [hf0]; exact List.getElem?_eq_getElem hm)
     exact ⟨u,hu,hl.2 m _ c (List.getElem?_eq_getElem hm) hc _ _ hv⟩
    ·cases h2
   ·exact h1
  ·exact False.elim h
theorem C4:∀ {xs:List (Nat×List (List AV))} {S:St} {K:St→Prop},I0 xs S K→∃ S',ez S S'∧K S'
 | [],S,K,h=>⟨S,.refl S,h⟩
 | (i,R)::xs,S,K,h=>by
  unfold I0 at h
  split at h
  ·rename_i fl sz rows hi
   obtain ⟨hl,h⟩:=h
   rw [ax] at h
   obtain ⟨S',h1,h2⟩:=C4 h
   refine ⟨S',ez.trans ?_ h1,h2⟩
   intro G E act w hM ht
   refine ⟨E,?_,ht⟩
   refine ⟨hM.hp,hM.os,hM.tape,hM.output,hM.size,hM.keep,hM.F0,hM.Flt,hM.Fnew,hM.own,hM.inj,hM.loc,fun id=>?_,fun id hid=>?_,by show S.b≤(S.o.set _ _).length; rw [List.length_set]; exact hM.bl,hM.szs,hM.pk,fun id=>?_⟩
   ·have h1:=hM.obj id
    show gN E (S.o.set i _)[id]? _
    rw [List.getElem?_set]
    split
    ·rename_i e
     subst e
     rw [if_pos (List.getElem?_eq_some_iff.1 hi).1]
     rw [hi] at h1
     revert h1
     cases E.mu (.O i) with
     | none=>exact fun h=>h
     | some mv =>
      cases mv with
      | virt =>
       intro h
       have h:rows=[]:=h
       subst h
       exact List.eq_nil_of_length_eq_zero hl.1.symm
      | blk b o s n =>
       rintro ⟨⟨h1,h2⟩,h3,h4,us,ty,h5,h6,h7⟩
       refine ⟨⟨h1,by rw [← hl.1]; exact h2⟩,h3,hl.lens h4,us,ty,h5,by rw [← hl.1]; exact h6,fun m c hc=>?_⟩
       have hf:=hl.flat
       have hm:m<rows.flatten.length:=by rw [hf.1]; exact (List.getElem?_eq_some_iff.1 hc).1
       obtain ⟨u,hu,hv⟩:=h7 m _ (List.getElem?_eq_getElem hm)
       exact ⟨u,hu,hf.2 m _ c (List.getElem?_eq_getElem hm) hc _ _ hv⟩
    ·exact h1
   ·have h1:=hM.old id hid
    show (S.o.set i _)[id]?=some .dead∨_
    rw [List.getElem?_set]
    split
    ·rename_i e
     subst e
     rcases h1 with h1 | h1
     ·rw [hi] at h1; cases h1
     ·exact .inr h1
    ·exact h1
   ·have h1:=hM.ow id
    show eV E id (S.o.set i _)[id]?
    rw [List.getElem?_set]
    split
    ·rename_i e
     subst e
     rw [if_pos (List.getElem?_eq_some_iff.1 hi).1]
     rw [hi] at h1
     exact h1
    ·exact h1
  ·exact False.elim h
theorem mG {L:Le} {S:St} {K:St→Prop} (h:Ht L S K):∃ S',ez S S'∧K S':=by
 obtain ⟨S1,h1,h⟩:=C2 h
 obtain ⟨S2,h2,h⟩:=C3 h
 obtain ⟨S3,h3,h⟩:=C4 h
 exact ⟨S3,h1.trans (h2.trans h3),h⟩
structure xZ (C:Ctx):Prop where
 det:hU C
theorem ay.mono2 {α β:Type} {X:(α→β→Prop)→Prop} (h:au X) {K K':α→β→Prop} (hx:X K) (hk:∀ r s,K r s→K' r s):X K':=by
 obtain ⟨r,s,h1,h2⟩:=h _ hx
 exact h2 _ (hk r s h1)
theorem ay.mono {α:Type} {X:(α→Prop)→Prop} (h:ay X) {K K':α→Prop} (hx:X K) (hk:∀ r,K r→K' r):X K':=by
 obtain ⟨r,h1,h2⟩:=h K hx
 exact h2 _ (hk r h1)
theorem au.mono {α β:Type} {X:(α→β→Prop)→Prop} (h:au X) {K K':α→β→Prop} (hx:X K) (hk:∀ a b,K a b→K' a b):X K':=by
 obtain ⟨a,b,h1,h2⟩:=h K hx
 exact h2 _ (hk a b h1)
theorem Gq {op:BinOp} {x y:Value} {K:Value→Prop} (h:Hu op x y K):wJ op x y K:=by
 unfold Hu at h
 unfold wJ
 split at h <;> first
  | exact ap h.1 h.2
  | exact False.elim h
section
variable {C:Ctx} {A:dx} {pl:br} {o:Oper}
theorem Gr {op:BinOp} {t:TypeId} {x y:AV} {k:AV→Prop} (h:Hv C A o op t x y k):DG C.P op t x y k:=by
 unfold Hv at h
 split at h
 ·rename_i a b
  show zx C.P op t a b k
  unfold zx
  split at h
  ·rename_i hn
   rw [hn]
   dsimp only
   split at h
   ·exact h
   ·rename_i a b hne
    split
    ·exact (hne _ _ rfl rfl).elim
    ·exact Gq h
  ·rename_i c hc
   rw [hc]
   exact h
 ·rename_i as bs
  show (match vH as,vH bs with
  | some xs,some ys =>
   match jq C.P op t xs ys with
   | some (.bool b)=>k (.v (.bool b))
   | _=>aj 226
  | _,_=>aj 227)
  split at h
  ·rename_i xs ys h1 h2
   try rw [h1,h2]
   try dsimp only
   split at h
   ·rw [h.1]
    exact h.2
   ·exact False.elim h
  ·exact False.elim h
 ·exact False.elim h
theorem C5 {t:TypeId} {x ix:AV} {k:AV→Prop} (h:Bs C A o t x ix k):rG C.P t x ix k:=by
 unfold Bs at h
 unfold rG
 refine ay.mono aO h (fun i h'=>?_)
 clear h
 split at h'
 ·rename_i s hu
  rw [hu]
  dsimp only
  split at h'
  ·rw [h'.1]
   dsimp only
   have h2:=h'.2.2
   rw [h'.2.1] at h2
   exact h2
  ·exact False.elim h'
 ·rename_i len e cs hu
  rw [hu]
  dsimp only
  have h:=h'
  split at h
  ·rename_i inf hi
   rw [hi]
   exact ap h.1 h.2
  ·exact False.elim h
 ·exact False.elim h'
theorem HE {vs:List AV} {k:AV→Prop} (h:Kt C A pl o vs k):pop C pl o vs k:=by
 unfold Kt at h
 split at h
 ·exact h
 ·split at h
  ·rename_i ho
   unfold pop
   rw [ho]
   exact Gr h
  ·rename_i ho
   unfold pop
   rw [ho]
   exact C5 h
  ·exact False.elim h
theorem qP {len cap:Nat} {lo hi mx:Option Int} {k:Nat→Nat→Nat→Prop} (h:Al len cap lo hi mx k):uf len cap lo hi mx k:=by
 unfold Al at h
 unfold uf
 split at h <;> first
  | exact h
  | exact ap h.1 h.2
  | exact False.elim h
theorem iM {t:TypeId} {x:AV} {lo hi mx:Option Int} {S:St} {k:AV→Prop} (h:mD C t x lo hi mx S k):jJ C.P t x lo hi mx S k:=by
 unfold mD at h
 rw [Bool.and_comm (jr mx) (jr hi)] at h
 unfold jJ
 split at h
 ·rename_i hu
  rw [hu]
  dsimp only
  split at h
  ·exact qP h
  ·exact False.elim h
 ·rename_i e hu
  rw [hu]
  dsimp only
  split at h
  ·rename_i i hi
   rw [hi]
   dsimp only
   obtain ⟨h0,h⟩:=ae h
   refine ap h0 ?_
   split at h
   ·exact ap h.1 (qP h.2)
   ·split at h
    ·rename_i ho
     dsimp only
     rw [ho]
     obtain ⟨h1,h⟩:=ae h
     exact ap h1 (qP h)
    ·exact False.elim h
   ·split at h
    ·rename_i ho
     dsimp only
     rw [ho]
     obtain ⟨h1,h⟩:=ae h
     exact ap h1 (qP h)
    ·exact False.elim h
   ·exact False.elim h
  ·exact False.elim h
 ·exact False.elim h
theorem vV {row:List AV} {t:TypeId} {x ix:AV} {S:St} {k:AV→Prop} (h:qe C row t x ix S k):iy C.P t x ix S k:=by
 unfold qe at h
 unfold iy
 refine ay.mono aO h (fun i h=>?_)
 split at h
 ·rename_i e hu
  rw [hu]
  dsimp only
  split at h
  ·rename_i inf hi
   rw [hi]
   dsimp only
   split at h
   ·have h1:=h.1
    unfold Gl at h1
    dsimp only
    rw [h1]
    exact h.2
   ·split at h
    ·rename_i ho
     dsimp only
     rw [ho]
     dsimp only
     have h1:=h.1
     unfold Gl at h1
     rw [h1]
     exact h.2
    ·rename_i ho
     dsimp only
     rw [ho]
     obtain ⟨h1,h2,h3⟩:=ae h
     refine ap ?_ h3
     rw [Bool.and_eq_true]
     exact ⟨h2,h1⟩
    ·exact False.elim h
   ·split at h
    ·rename_i ho
     dsimp only
     rw [ho]
     dsimp only
     refine ap h.1 ?_
     rw [h.2.1]
     exact h.2.2
    ·exact False.elim h
   ·exact False.elim h
  ·exact False.elim h
 ·rename_i len e hu
  rw [hu]
  dsimp only
  split at h
  ·rename_i inf hi
   rw [hi]
   exact ap h.1 h.2
  ·exact False.elim h
 ·exact False.elim h
theorem vr (hC:xZ C) {fid:Nat} {as:List AV} {k:AV→Prop} (h:wq C A o fid as k):C.pcall fid as k:=by
 unfold wq at h
 split at h
 ·exact ay.mono (hC.det.pcall _ _) h.1 (fun _ e=>by rw [e]; exact h.2)
 ·exact h
theorem HF (hC:xZ C) {vs:List AV} {M:St} {k:AV→Prop} (h:Ku C A o vs M k):sK C o vs M k:=by
 unfold Ku at h
 split at h
 ·rename_i ho
  split at h
  ·split at h
   ·split at h
    ·rename_i hob
     unfold sK
     rw [ho]
     dsimp only
     unfold GO
     dsimp only
     unfold yL
     dsimp only
     rw [hob]
     dsimp only
     rw [h.1]
     exact h.2
    ·exact False.elim h
   ·exact False.elim h
  ·exact h
 ·rename_i ho
  split at h
  ·exact h
  ·unfold sK
   rw [ho]
   split at h
   ·exact iM h
   ·exact ay.mono aO h (fun _ h=>iM h)
   ·exact ay.mono aO h (fun _ h=>iM h)
   ·exact ay.mono aO h (fun _ h=>ay.mono aO h (fun _ h=>iM h))
   ·exact ay.mono aO h (fun _ h=>ay.mono aO h (fun _ h=>iM h))
   ·exact ay.mono aO h (fun _ h=>ay.mono aO h (fun _ h=>ay.mono aO h (fun _ h=>iM h)))
   ·exact False.elim h
 ·rename_i ho
  split at h
  ·unfold sK
   rw [ho]
   exact vV h
  ·exact h
 ·rename_i ho
  split at h
  ·split at h
   ·rename_i hu
    split at h
    ·rename_i hob
     unfold sK
     rw [ho]
     dsimp only
     unfold qE
     rw [hu]
     dsimp only
     rw [hob]
     exact h.1 _ h.2
    ·exact False.elim h
   ·exact False.elim h
  ·exact h
 ·rename_i c ho
  split at h
  ·rename_i hcal
   split at h
   ·unfold sK
    rw [ho]
    dsimp only
    rw [hcal]
    dsimp only
    obtain ⟨h1,h⟩:=ae h
    exact ap h1 (ay.mono (dq _ _) h (fun bs hb=>vr hC hb))
   ·exact False.elim h
  ·exact h
 ·exact h
theorem C6 {S:St} {row:List AV} {a:AV} {cs:List AV} {K:St→Prop} (h:Bt S row a cs K):mT S a cs K:=by
 unfold Bt at h
 split at h
 ·unfold mT
  split at h
  ·rename_i ho
   dsimp only
   rw [ho]
   dsimp only
   rw [h.1]
   exact h.2
  ·exact False.elim h
 ·exact False.elim h
theorem C7 {vs:List AV} {M:St} {k:AV→St→Prop} (h:I1 C A o vs M k):zB C o vs M k:=by
 unfold I1 at h
 split at h
 ·exact h
 ·split at h
  ·rename_i ho
   split at h
   ·unfold zB
    rw [ho]
    refine ay.mono bL h (fun cs h=>?_)
    split at h
    ·rename_i hi
     rw [hi]
     obtain ⟨h1,h⟩:=ae h
     exact ap h1 (C6 h)
    ·exact False.elim h
   ·exact h
  ·exact h
theorem si {size:Nat} {S:St} {x:AV} {k:Bool→List (List AV)→Prop} (h:xR size S x k):kG size S x k:=by
 unfold xR at h
 unfold kG
 split at h <;> first
  | exact ap h.1 h.2
  | exact h
  | exact False.elim h
theorem Bw {ts:List TypeId} {base x:AV} {S:St} {k:St→AV→Prop} (h:xS C.P ts base x S k):mo C.P ts base x S k:=by
 unfold xS at h
 unfold mo
 split at h
 ·split at h
  ·rename_i e hu
   dsimp only
   rw [hu]
   dsimp only
   split at h
   ·rename_i i hi
    rw [hi]
    dsimp only
    obtain ⟨h1,h⟩:=ae h
    refine ap h1 ?_
    refine au.mono dS (si h) (fun fl src h=>?_)
    refine ap h.1 ?_
    replace h:=h.2
    split at h
    ·exact ap h.1 h.2
    ·exact ap h.1 h.2
    ·split at h
     ·rename_i ho
      dsimp only
      rw [ho]
      obtain ⟨h1,h⟩:=ae h
      refine ap ?_ h.2
      simp only [Bool.and_eq_true] at h1 ⊢
      exact ⟨⟨h1.1,h.1⟩,h1.2⟩
     ·exact False.elim h
    ·split at h
     ·rename_i ho
      dsimp only
      rw [ho]
      obtain ⟨h1,h2,h3,h⟩:=ae h
      refine ap h1 ?_
      rw [h2]
      exact ap h3 h
     ·exact False.elim h
    ·exact False.elim h
   ·exact False.elim h
  ·exact False.elim h
 ·exact False.elim h
theorem zf {ts:List TypeId} {base x:AV} {k:AV→Prop} (h:uI C.P ts base x k):lB C.P ts base x k:=by
 unfold uI at h
 unfold lB
 split at h
 ·split at h
  ·rename_i e hu
   dsimp only
   rw [hu]
   dsimp only
   split at h
   ·rename_i i hi
    rw [hi]
    dsimp only
    obtain ⟨h1,h⟩:=ae h
    refine ap h1 ?_
    refine au.mono dS (si h) (fun fl src h=>?_)
    obtain ⟨h2,h3,h4,h⟩:=ae h
    refine ap ?_ h
    rw [h2,h3,h4]
    rfl
   ·exact False.elim h
  ·exact False.elim h
 ·exact False.elim h
theorem HI {vs:List AV} {k:AV→Prop} (h:Kv C o vs k):Kc C o vs k:=by
 unfold Kv at h
 unfold Kc
 split at h
 ·rename_i c x y ho
  rw [ho]
  dsimp only
  split at h
  ·rename_i hc
   rw [hc]
   exact zf h
  ·exact False.elim h
 ·exact False.elim h
theorem zg {ts:List TypeId} {base:AV} {n:Int} {S:St} {k:St→AV→Prop} (h:uJ C.P ts base n S k):lD C.P ts base n S k:=by
 unfold uJ at h
 unfold lD
 split at h
 ·split at h
  ·rename_i hu hv
   dsimp only
   rw [hu,hv]
   dsimp only
   split at h
   ·rename_i hi
    rw [hi]
    exact ap h.1 h.2
   ·exact False.elim h
  ·exact False.elim h
 ·exact False.elim h
theorem oV {t:TypeId} {l c:AV} {S:St} {k:St→AV→Prop} (h:mE C.P t l c S k):a8 C.P t l c S k:=by
 unfold mE at h
 unfold a8
 split at h
 ·rename_i hu
  rw [hu]
  dsimp only
  split at h
  ·rename_i hi
   rw [hi]
   dsimp only
   exact ay.mono aO h (fun _ h=>ay.mono aO h (fun _ h=>ap h.1 h.2))
  ·exact False.elim h
 ·exact False.elim h
theorem Es (hC:xZ C) {f:AV} {args:List AV} {S:St} {k:St→AV→Prop} (h:Ep C A o f args S k):zA C f args S k:=by
 unfold Ep at h
 unfold zA
 split at h
 ·dsimp only
  split at h
  ·rename_i hp
   rw [hp]
   exact ay.mono (dq _ _) h (fun bs hb=>vr hC hb)
  ·rename_i hp
   rw [hp]
   obtain ⟨h1,h⟩:=ae h
   refine ap h1 ?_
   split at h
   ·exact au.mono (hC.det.scall _ _ _) h.1 (fun r o' ⟨e1,e2⟩=>by subst e1 e2; exact h.2)
   ·exact h
 ·exact False.elim h
theorem oW {R:List (AV×AV)} {t:TypeId} {m key x:AV} {S:St} {K:St→Prop} (h:mF C.P R t m key x S K):fe C.P t m key x S K:=by
 unfold mF at h
 unfold fe
 split at h
 ·rename_i hu
  rw [hu]
  dsimp only
  split at h
  ·split at h
   ·rename_i fl es ho
    dsimp only
    rw [ho]
    dsimp only
    obtain ⟨h1,h2,h3⟩:=ae h
    refine ap h1 ?_
    have:=h2 (fun es'=>aR (S.o.set _ (.mapo (fl&&de 4 x) es')) fun o=>K { t:=S.t,l:=S.l,o:=o,b:=S.b }) h3
    exact this
   ·exact False.elim h
  ·exact False.elim h
 ·exact False.elim h
theorem Et {ts:List TypeId} {x y:AV} {M:St} {k:AV→St→Prop} (h:Eo C.P ts x y M k):u4 C.P ts x y M k:=by
 unfold Eo at h
 unfold u4
 split at h
 ·split at h
  ·rename_i e hu
   dsimp only
   rw [hu]
   dsimp only
   split at h
   ·rename_i i hi
    rw [hi]
    dsimp only
    obtain ⟨h1,h⟩:=ae h
    refine ap h1 ?_
    refine au.mono dS (si h) (fun fl src h=>?_)
    obtain ⟨h2,h⟩:=h
    obtain ⟨h3,h⟩:=ae h
    refine ap (by rw [h2,h3]; rfl) ?_
    split at h
    ·split at h
     ·rename_i ho
      dsimp only
      rw [ho]
      exact h
     ·exact False.elim h
    ·split at h
     ·rename_i ho
      dsimp only
      rw [ho]
      obtain ⟨h1,h2,h⟩:=ae h
      exact ap (by rw [h1,h2]; rfl) h
     ·exact False.elim h
    ·exact False.elim h
   ·exact False.elim h
  ·exact False.elim h
 ·exact False.elim h
theorem C8 (hC:xZ C) {S:St} {K:St→Prop} (h:I2 C A pl o S K):yM C pl o S K:=by
 unfold I2 at h
 split at h
 ·rename_i ho
  split at h
  ·unfold yM
   rw [ho]
   refine ay.mono bT h (fun m h=>?_)
   refine ay.mono bT h (fun k h=>?_)
   refine ay.mono bT h (fun x h=>?_)
   exact oW h
  ·exact h
 ·rename_i ho
  split at h
  ·unfold yM
   rw [ho]
   refine ay.mono bT h (fun m h=>?_)
   refine ay.mono bT h (fun k h=>?_)
   refine ay.mono bT h (fun x h=>?_)
   exact oW h
  ·exact h
 ·rename_i ho
  split at h
  ·unfold yM
   rw [ho]
   refine ay.mono bT h (fun l h=>?_)
   refine ay.mono bT h (fun c h=>?_)
   exact oV h
  ·exact h
 ·rename_i c ho
  split at h
  ·rename_i hcal
   split at h
   ·unfold yM
    rw [ho]
    dsimp only
    rw [hcal]
    dsimp only
    refine ay.mono aN h (fun as h=>?_)
    split at h
    ·exact zg h
    ·rename_i x y hne
     split
     ·rename_i e
      cases e
      exact (hne _ _ rfl).elim
     ·rename_i e
      cases e
      exact Bw h
     ·rename_i h3
      exact (h3 _ _ rfl).elim
    ·exact False.elim h
   ·exact h
  ·rename_i hcal
   unfold yM
   rw [ho]
   dsimp only
   rw [hcal]
   dsimp only
   refine ay.mono aN h (fun as h=>?_)
   split at h
   ·exact Et h
   ·exact False.elim h
  ·rename_i f hcal
   unfold yM
   rw [ho]
   dsimp only
   rw [hcal]
   dsimp only
   refine ay.mono bT h (fun l h=>?_)
   refine ay.mono aN h (fun c h=>?_)
   exact Es hC h
  ·exact h
 ·exact h
theorem lY {K:St→Prop} {S:St} (h:px A o K S):K S:=by
 have h2:∀ {key:Nat} {S:St} {K:St→Prop},Hw A key S K→K S:=by
  intro key S K h
  unfold Hw at h
  split at h
  ·exact h
  ·split at h
   ·rename_i ho
    obtain ⟨h1,h⟩:=h
    subst h1
    rw [ax] at h
    have e:∀ {α:Type} {l:List α} {i:Nat} {x:α},l[i]?=some x→l.set i x=l:=by
     intro α l i x hx
     refine List.ext_getElem? (fun m=>?_)
     rw [List.getElem?_set]
     split
     ·rename_i e
      subst e
      rw [if_pos (List.getElem?_eq_some_iff.1 hx).1,hx]
     ·rfl
    rw [e ho] at h
    exact h
   ·exact False.elim h
 unfold px at h
 unfold JA at h
 split at h
 ·exact h2 h
 ·split at h
  ·exact h2 h
  ·rename_i v hv
   obtain ⟨a,ha,e,h⟩:=bS.1 h
   subst e
   rw [d_,qb ha] at h
   exact h2 h
theorem Ap {S:St} {K:St→Prop} (h:Hy C A pl o S K):FM C pl o S K:=ay.mono aN h (fun _ h=>HE h)
theorem Ar (hC:xZ C) {S:St} {K:St→Prop} (h:Hz C A o S K):FN C o S K:=ay.mono aN h (fun _ h=>HF hC h)
theorem Gs {S:St} {K:St→Prop} (h:JB C A o S K):FO C o S K:=ay.mono aN h (fun _ h=>C7 h)
theorem rt {row:Option (List (List AV))} {M:St} {id i:Nat} {k:AV→St→Prop} (h:qL row M id i k):f7 M id i k:=by
 unfold qL at h
 unfold f7
 split at h
 ·rename_i hob
  rw [hob]
  dsimp only
  split at h
  ·obtain ⟨h1,h⟩:=h
   rw [h1]
   exact h
  ·obtain ⟨h1,h⟩:=h
   rw [h1]
   exact h
 ·exact h.elim
theorem zh {P:Program} {a:ze} {t:TypeId} {same:Bool} {M:St} {id i:Nat} {k:AV→St→Prop} (h:uK P a t same M id i k):i_ P t same M id i k:=by
 unfold uK at h
 unfold i_
 split at h
 ·split at h
  ·rename_i hob
   rw [hob]
   exact ap h.1 h.2
  ·exact h.elim
 ·exact rt h
theorem x_ {P:Program} {t:TypeId} {M:St} {id i:Nat} {v:AV} {K:St→Prop} (h:sg P t M id i v K):gL P t M id i v K:=by
 unfold sg at h
 unfold gL
 split at h
 ·rename_i hi hob
  rw [hi,hob]
  obtain ⟨h1,h2,h3⟩:=ae h
  refine ap ?_ h3
  simp only [Bool.and_eq_true] at h1 h2 ⊢
  exact ⟨⟨⟨h1.1,h2.1⟩,h1.2⟩,h2.2⟩
 ·exact h.elim
theorem zi {P:Program} {a:ze} {t:TypeId} {l c:AV} {M:St} {k:AV→St→Prop} (h:uL P a t l c M k):ij P t l c M k:=by
 unfold uL at h
 unfold ij
 split at h
 ·rename_i hu
  rw [hu]
  dsimp only
  split at h
  ·rename_i hi he
   rw [hi,he]
   dsimp only
   split at h
   ·rename_i hi2
    rw [hi2]
    dsimp only
    refine jQ h (fun n h=>?_)
    refine jQ h (fun m h=>?_)
    obtain ⟨h1,h⟩:=h
    obtain ⟨h2,h⟩:=ae h
    refine ap ?_ ?_
    ·simp only [Bool.and_eq_true] at h1 h2 ⊢
     exact ⟨⟨h1,h2.1⟩,h2.2⟩
    ·refine oc h (fun z h=>?_)
     split at h
     ·obtain ⟨h3,h⟩:=h
      dsimp only
      rw [h3]
      exact h
     ·exact h.elim
   ·exact h.elim
  ·exact h.elim
 ·exact h.elim
theorem zj {P:Program} {a:ze} {t:TypeId} {m key:AV} {ok:Bool} {M:St} {k:AV→St→Prop} (h:uM P a t m key ok M k):ja P t m key ok M k:=by
 unfold uM at h
 unfold ja
 split at h
 ·rename_i hu
  rw [hu]
  dsimp only
  split at h
  ·dsimp only
   split at h
   ·rename_i hob
    rw [hob]
    dsimp only
    split at h
    ·obtain ⟨h1,h2⟩:=h
     exact h1 (fun r=>match r with
      | some i=>f7 M _ i fun a M'=>pL ok a true fun r=>k r M'
      | none=>i7 P _ ok fun r=>k r M) (rt h2)
    ·obtain ⟨h1,h2⟩:=h
     exact h1 (fun r=>match r with
      | some i=>f7 M _ i fun a M'=>pL ok a true fun r=>k r M'
      | none=>i7 P _ ok fun r=>k r M) h2
   ·exact h.elim
  ·exact h.elim
 ·exact h.elim
theorem tm {P:Program} {a:ze} {t:TypeId} {m key x:AV} {M:St} {K:St→Prop} (h:tj P a t m key x M K):j4 P t m key x M K:=by
 unfold tj at h
 unfold j4
 split at h
 ·rename_i hu
  rw [hu]
  dsimp only
  split at h
  ·rename_i id
   dsimp only
   split at h
   ·rename_i ks sz cells hole hob
    rw [hob]
    dsimp only
    obtain ⟨h1,h2,h3⟩:=ae h
    refine ap h1 ?_
    have h4:=h2 (LG M id sz cells hole x K) h3
    refine ay.mono2 cQ h4 (fun kv r h5=>?_)
    obtain ⟨h6,h7⟩:=ae h5
    refine ap h6 ?_
    cases r with
    | none=>exact h7
    | some i =>
     obtain ⟨h8,h9,h10⟩:=ae h7
     refine ap ?_ h10
     rw [Bool.and_eq_true]
     exact ⟨h8,h9⟩
   ·exact h.elim
  ·exact h.elim
 ·exact h.elim
theorem vu {M:St} {x:AV} {X Y:Nat→Nat→Prop} (h:jK M x X) (hk:∀ id i,X id i→Y id i):jK M x Y:=by
 unfold jK at h ⊢
 split at h
 ·split at h
  ·exact hk _ _ h
  ·exact h.elim
 ·exact h.elim
theorem As {P:Program} {vs:List AV} {M:St} {k:AV→St→Prop} (h:E_ P A pl o vs M k):l_ P pl o vs M k:=by
 unfold E_ at h
 split at h
 ·exact h
 ·split at h
  ·rename_i ho
   unfold l_
   rw [ho]
   exact vu h (fun _ _ h=>zh h)
  ·rename_i ho
   unfold l_
   rw [ho]
   exact vu h (fun _ _ h=>x_ h)
  ·rename_i ho
   unfold l_
   rw [ho]
   exact zi h
  ·rename_i ho
   unfold l_
   rw [ho]
   exact zj h
  ·rename_i ho
   unfold l_
   rw [ho]
   exact tm h
  ·rename_i ho
   unfold l_
   rw [ho]
   exact tm h
  ·exact h.elim
theorem ru {S:St} {id:Nat} {K:St→Prop} (h:qM A S id K):i8 S id K:=by
 unfold qM at h
 split at h
 ·exact h
 ·unfold i8
  split at h
  ·rename_i hob
   rw [hob]
   dsimp only
   split at h
   ·rename_i hk
    rw [hk]
    obtain ⟨h1,h2,h3,h4⟩:=ae h
    refine ap ?_ ?_
    ·rw [Bool.and_eq_true]
     exact ⟨h1,h2⟩
    ·rw [h3]
     exact h4
   ·exact h.elim
  ·rename_i hob
   rw [hob]
   dsimp only
   obtain ⟨h2,h3,h4⟩:=h
   refine ap h2 ?_
   rw [h3]
   exact h4
  ·exact h.elim
theorem tn:∀ {ids:List Nat} {S:St} {K:St→Prop},xT A ids S K→nU ids S K
 | [],_,_,h=>h
 | _::_,_,_,h=>ay.mono om (ru h) (fun _ h=>tn h)
theorem tp {S:St} {id:Nat} {K:St→Prop} (h:tk A S id K):kU S id K:=by
 unfold tk at h
 split at h
 ·exact h
 ·unfold kU
  split at h
  ·rename_i hob
   rw [hob]
   dsimp only
   rw [h.1]
   exact h.2
  ·exact h.elim
theorem rx:∀ {ids:List Nat} {S:St} {K:St→Prop},uN A ids S K→lF ids S K
 | [],_,_,h=>h
 | _::_,_,_,h=>ay.mono p9 (tp h) (fun _ h=>rx h)
theorem ya {id:Nat} {S:St} {K:St→Prop} (h:xU A pl id S K):kH pl id S K:=by
 unfold xU at h
 unfold kH
 split at h
 ·rename_i hc
  rw [hc]
  exact h
 ·rename_i hc
  rw [hc]
  dsimp only
  refine ay.mono (kq _ _) (tn h) (fun S1 h=>?_)
  split at h
  ·rename_i hc
   rw [hc]
   exact h
  ·rename_i hc
   rw [hc]
   exact rx h
theorem Eu (hC:xZ C) {vs:List AV} {M:St} {k:AV→St→Prop} (h:Er C A o vs M k):mr C o vs M k:=by
 unfold Er at h
 split at h
 ·rename_i t X Y l c ho
  split at h
  ·unfold mr
   rw [ho]
   exact oV h
  ·exact h
 ·rename_i c fid first cap as ho
  unfold mr
  rw [ho]
  dsimp only
  split at h
  ·rename_i x hcal
   rw [hcal]
   obtain ⟨h1,h⟩:=ae h
   refine ap h1 ?_
   split at h
   ·obtain ⟨h2,h3⟩:=h
    obtain ⟨r0,o0,⟨e1,e2⟩,h4⟩:=hC.det.scall _ _ _ _ h2
    subst e1 e2
    exact h4 _ h3
   ·exact h
  ·exact h.elim
 ·rename_i hne hne2
  have h':=C7 h
  unfold mr
  split
  ·rename_i t X Y l c ho
   exact absurd rfl (hne t X Y l c ho)
  ·rename_i c fid first cap as ho
   exact absurd rfl (hne2 c fid first cap as ho)
  ·exact h'
theorem Gt (hC:xZ C) {vs:List AV} {M:St} {k:AV→St→Prop} (h:HA C A pl o vs M k):nV C pl o vs M k:=by
 unfold HA at h
 unfold nV
 split at h
 ·rename_i hw
  rw [hw]
  exact As h
 ·rename_i hw
  rw [hw]
  exact Eu hC h
theorem Ev (hC:xZ C) {S:St} {K:St→Prop} (h:HB C A pl o S K):q6 C pl o S K:=ay.mono aN h (fun _ h=>Gt hC h)
theorem Gu {S:St} {K:St→Prop} (h:JC C A pl o S K):AN C pl o S K:=ay.mono aN h (fun _ h=>As h)
theorem Gv {S:St} {K:St→Prop} (h:JD C o S K):FP C o S K:=ay.mono aN h (fun _ h=>HI h)
theorem HK (hC:xZ C) {S:St} {K:St→Prop} (h:Kw C A pl o S K):AO C pl o S K:=by
 refine ay.mono (CI hC.det) (K:=px A o K) ?_ (fun _ h=>lY h)
 unfold Kw at h
 unfold AO
 split at h
 ·rename_i hc
  rw [hc]
  exact Ap h
 ·rename_i hc
  rw [hc]
  exact Ar hC h
 ·rename_i hc
  rw [hc]
  exact Gs h
 ·rename_i h0 h1 h2
  have:=C8 hC h
  split
  ·exact absurd (by assumption) h0
  ·exact absurd (by assumption) h1
  ·exact absurd (by assumption) h2
  ·exact this
theorem wt (hC:xZ C) {S:St} {K:St→Prop} (h:JE C A pl o S K):GX C pl o S K:=by
 unfold JE at h
 unfold GX
 split at h
 ·rename_i hw
  rw [hw]
  exact ay.mono CG (Gu h) (fun _ h=>lY h)
 ·rename_i hw
  rw [hw]
  exact HK hC h
theorem yb (hC:xZ C) {S:St} {K:St→Prop} (h:C0 C A pl o S K):yF C pl o S K:=by
 unfold C0 at h
 split at h
 ·rename_i hc
  refine ay.mono (iu hC.det) (K:=px A o K) ?_ (fun _ h=>lY h)
  unfold yF
  rw [hc]
  exact Ap h
 ·rename_i hc
  refine ay.mono (iu hC.det) (K:=px A o K) ?_ (fun _ h=>lY h)
  unfold yF
  rw [hc]
  exact Ar hC h
 ·rename_i hc
  refine ay.mono (iu hC.det) (K:=px A o K) ?_ (fun _ h=>lY h)
  unfold yF
  rw [hc]
  exact Ev hC h
 ·rename_i hc
  unfold yF
  rw [hc]
  exact h
 ·rename_i hc
  refine ay.mono (iu hC.det) (K:=px A o K) ?_ (fun _ h=>lY h)
  unfold yF
  rw [hc]
  exact Gv h
 ·rename_i h0 h1 h2 h4 h5
  refine ay.mono (iu hC.det) (K:=px A o K) ?_ (fun _ h=>lY h)
  unfold yF
  split
  ·exact absurd (by assumption) h0
  ·exact absurd (by assumption) h1
  ·exact absurd (by assumption) h2
  ·exact absurd (by assumption) h4
  ·exact absurd (by assumption) h5
  ·split at h
   ·exact False.elim h
   ·rename_i hb
    rw [hb]
    exact C8 hC h
theorem I4 (hC:xZ C) {all:Array Oper} {S:St} {K:St→Prop} (h:Nm C A pl all o S K):ag C pl all o S K:=by
 unfold Nm at h
 unfold ag
 split at h
 ·rename_i hg
  rw [hg]
  obtain ⟨h1,h⟩:=ae h
  exact ap h1 (yb hC h)
 ·rename_i j want hg
  rw [hg]
  dsimp only
  split at h
  ·exact False.elim h
  ·rename_i d hd
   rw [hd]
   dsimp only
   refine au.mono dj h (fun b S1 h=>?_)
   have key:∀ {S:St},bo (jL pl all o S) (C0 C A pl o S K)→rH C pl all o S K:=by
    intro S h
    obtain ⟨h1,h⟩:=ae h
    exact ap h1 (yb hC h)
   unfold gsel at h ⊢
   split at h
   ·exact key h
   ·exact key h
   ·exact h
theorem Fc (hC:xZ C) {ops:Array Oper} {i:Nat} {S:St} {K:St→Prop} (h:Lv C A pl ops i S K):zD C pl ops i S K:=by
 unfold Lv at h
 unfold zD
 split at h
 ·exact False.elim h
 ·rename_i o ho
  rw [ho]
  exact I4 hC h
theorem C9 {S2 S1:St} {X:Prop} (h:S2=S1∧X):u5 S2 S1 X:=by
 unfold u5
 split
 ·exact h.2
 ·exact h
theorem By (hC:xZ C) {ops:Array Oper} {ws:List Nat}:∀ {n a:Nat} {listed:Array Bool} {t:PT} {S:St} {K:St→Prop},kJ pl ops ws n a listed=some t→oT C A pl ops t none S K→kj C pl ops ws n listed S K
 | 0,a,listed,t,S,K,hp,h=>by
  unfold kJ at hp
  unfold kj
  split at hp
  ·cases hp
   rename_i hr
   rw [hr]
   exact h
  ·cases hp
 | n + 1,a,listed,t,S,K,hp,h=>by
  unfold kJ at hp
  unfold kj
  split at hp
  ·cases hp
   rename_i hr
   rw [hr]
   exact h
  ·rename_i r rs hr
   rw [hr]
   dsimp only
   have step:∀ {k b:Nat} {u:PT} {S:St} {K:St→Prop},kJ pl ops ws n b (listed.setIfInBounds k true)=some u→(Lv C A pl ops k S fun S'=>oT C A pl ops u none S' K)→zD C pl ops k S fun S'=>kj C pl ops ws n (listed.setIfInBounds k true) S' K :=
    fun hj h=>ay.mono (gr hC.det) (Fc hC h) (fun _ h=>By hC hj h)
   have alts:∀ {b:Nat} {is:List Nat} {u:PT} {S S1:St} {K:St→Prop} {X:Prop},rm (fun i=>kJ pl ops ws n b (listed.setIfInBounds i true)) is=some u→oT C A pl ops u (some (S1,X)) S K →
     DL (fun i K'=>zD C pl ops i S fun S'=>kj C pl ops ws n (listed.setIfInBounds i true) S' K') is S1 X:=by
    intro b is
    induction is with
    | nil =>
     intro u S S1 K X hu h
     unfold rm at hu
     cases hu
     exact h
    | cons i is ih =>
     intro u S S1 K X hu h
     unfold rm at hu
     split at hu
     ·rename_i v hv
      split at hu
      ·rename_i w hw
       cases hu
       refine ay.mono (ay.bind (gr hC.det) (fun S'=>f9 hC.det _ _ _)) (step hv h) (fun S2 h=>?_)
       exact C9 ⟨h.1,ih hw h.2⟩
      ·cases hu
     ·cases hu
   split at hp
   ·rename_i k hk
    rw [hk]
    dsimp only
    split at hp
    ·cases hp
     rename_i u hj
     exact step hj h
    ·cases hp
   ·rename_i hk
    rw [hk]
    dsimp only
    split at hp
    ·split at hp
     ·cases hp
      rename_i u hj
      refine ay.mono (ay.bind (gr hC.det) (fun S'=>f9 hC.det _ _ _)) (step hj h) (fun _ h=>?_)
      exact h
     ·cases hp
    ·split at hp
     ·rename_i b _ _
      unfold rm at hp
      split at hp
      ·rename_i v hv
       split at hp
       ·rename_i w hw
        cases hp
        refine ay.mono (ay.bind (gr hC.det) (fun S'=>f9 hC.det _ _ _)) (step hv h) (fun S1 h=>?_)
        exact alts hw h
       ·cases hp
      ·cases hp
     ·cases hp
theorem HL (hC:xZ C) {ops:Array Oper} {ws:List Nat}:∀ {n:Nat} {listed:Array Bool} {t:PT} {S:St} {K:St→Prop},Ao pl ops ws n listed=some t→oT C A pl ops t none S K→vJ C pl ops ws n listed S K
 | 0,listed,t,S,K,hp,h=>By hC (n:=0) hp h
 | n + 1,listed,t,S,K,hp,h=>by
  unfold Ao at hp
  unfold vJ
  split at hp
  ·rename_i i hi
   rw [hi]
   dsimp only
   split at hp
   ·cases hp
    rename_i u hj
    exact ay.mono (gr hC.det) (Fc hC h) (fun _ h=>HL hC hj h)
   ·cases hp
  ·rename_i hi
   rw [hi]
   exact By hC hp h
theorem HN (hC:xZ C) {ops:Array Oper} {t:PT} {S:St} {K:St→Prop} (hp:xV pl ops=some t) (h:oT C A pl ops t none S K):yN C pl ops S K:=by
 unfold xV at hp
 unfold yN
 split at hp
 ·cases hp
 ·rename_i hn
  refine ap hn ?_
  split at hp
  ·rename_i hc
   rw [hc]
   exact By hC hp h
  ·rename_i hc
   rw [hc]
   exact HL hC hp h
theorem tq:∀ {x y:PT},En x y=true→x=y
 | .done,.done,_=>rfl
 | .go i t,.go j u,h=>by
  unfold En at h
  rw [Bool.and_eq_true] at h
  rw [Nat.eq_of_beq_eq_true h.1,tq h.2]
 | .alt i t r,.alt j u s,h=>by
  unfold En at h
  rw [Bool.and_eq_true,Bool.and_eq_true] at h
  rw [Nat.eq_of_beq_eq_true h.1,tq h.2.1,tq h.2.2]
 | .done,.go _ _,h=>by cases h
 | .done,.alt _ _ _,h=>by cases h
 | .go _ _,.done,h=>by cases h
 | .go _ _,.alt _ _ _,h=>by cases h
 | .alt _ _ _,.done,h=>by cases h
 | .alt _ _ _,.go _ _,h=>by cases h
end
open Go.RowKit (Below)
def eg (P:Program) (c:Code) (S:St) (K:Ex→St→Prop):Prop :=
 ∃ e S',(∀ (r:Option Nat) (G:Gh) (E:Env) (a:Act) (w:World) (Q:Exit→Act→World→Prop),al G pn E S w→TR E S.t a→Ha G (fun e' S''=>e'=e∧S''=S') Q→c.wpIn (rd r) 0 P Q a w)∧K e S'
theorem eg.mono {P:Program} {c:Code} {S:St} {K K':Ex→St→Prop} (h:eg P c S K) (hk:∀ e S',K e S'→K' e S'):eg P c S K' :=
 let ⟨e,S',h1,h2⟩:=h
 ⟨e,S',h1,hk _ _ h2⟩
theorem Da (cfg:u9):xZ (jg cfg):=⟨qd cfg⟩
theorem vw {P:Program} {op:BinOp} {t e:TypeId} {rows:List (List AV)} {E:Env} {u:Value} (hop:Kx op=true) (hu:P.underlying t=some (.slice e)) (hx:VR E (.sl rows) u) (w:World) (X Y:Operand) :
  ∃ b,(do eqGuard op t X Y u (.slice none 0 0); binOp op t u (.slice none 0 0):Sem Value).run P w=.ok (.bool b) w∧((b=Am op∧rows=[])∨b=!(Am op)):=by
 have h0:∃ b,(∀ d:Nat,(Op.equalIn (d + 1) t u (.slice none 0 0)).run P w=.ok b w)∧((b=true∧rows=[])∨b=false):=by
  cases hx with
  | sln=>exact ⟨true,fun d=>by unfold Op.equalIn; rw [Sem.run_bind,run_underlying hu]; rfl,.inl ⟨rfl,rfl⟩⟩
  | sle _ a cap=>exact ⟨false,fun d=>by unfold Op.equalIn; rw [Sem.run_bind,run_underlying hu]; rfl,.inr rfl⟩
  | sl us h1 h2 h3 h4 h5 h6 h7=>exact ⟨false,fun d=>by unfold Op.equalIn; rw [Sem.run_bind,run_underlying hu]; rfl,.inr rfl⟩
 obtain ⟨b,hb,hr⟩:=h0
 have hn:G0 u=true:=by cases hx <;> rfl
 have he:(Op.equal t u (.slice none 0 0)).run P w=.ok b w:=uo hb
 rw [jN hn]
 cases op with
 | eql =>
  refine ⟨b,?_,hr⟩
  have:binOp .eql t u (.slice none 0 0)=(do pure (.bool (← Op.equal t u (.slice none 0 0)))):=by cases hx <;> rfl
  simp [this,he]
 | neq =>
  refine ⟨!b,?_,?_⟩
  ·have:binOp .neq t u (.slice none 0 0)=(do pure (.bool (!(← Op.equal t u (.slice none 0 0))))):=by cases hx <;> rfl
   simp [this,he]
  ·rcases hr with ⟨rfl,hr⟩ | rfl
   ·exact .inl ⟨rfl,hr⟩
   ·exact .inr rfl
 | _=>cases hop
section
variable {G:Gh} {C:Ctx} {A:dx} {pl:br}
theorem ox (hO:xZ C) (hC:fQ C) {rr:Option Nat} {all:Array Oper} {Q:Exit→Act→World→Prop}:∀ {ops:List Oper} {E:Env} {S:St} {w:World} {a:Act} {K:St→Prop},al G pn E S w→TR E S.t a→Bu C A pl all ops S K →
  (∀ S' E' a' w',K S'→al G pn E' S' w'→TR E' S'.t a'→Q .normal a' w')→wpListIn (rd rr) 0 C.P all Q ops a w
 | [],E,S,w,a,K,hM,ht,h,hQ=>hQ _ _ _ _ h hM ht
 | o::rest,E,S,w,a,K,hM,ht,h,hQ=>by
  have step:∀ {S1:St},al G pn E S1 w→TR E S1.t a→Region.wanted o (yielded all a.tmps)=true→(JE C A pl o S1 fun S'=>Bu C A pl all rest S' K)→wpListIn (rd rr) 0 C.P all Q (o::rest) a w:=by
   intro S1 hM1 ht1 hw h
   unfold wpListIn
   rw [if_pos hw]
   refine zW (D4 (wt hO h)) (uz hC hM1 ht1 (wt hO h) _ _ (fun S' E' a' w' hk hS htr=>?_))
   exact ox hO hC hS htr hk hQ
  unfold Bu at h
  split at h
  ·rename_i hg
   have hw:Region.wanted o (yielded all a.tmps)=true:=by unfold Region.wanted; rw [hg]
   split at h
   ·unfold wpListIn
    rw [if_pos hw]
    unfold JF at h
    split at h
    ·rename_i op t x yt ho
     split at h
     ·rename_i e hu
      obtain ⟨c,h,hc⟩:=dQ h ht
      split at h
      ·rename_i rows
       obtain ⟨hop,h1,h2⟩:=ae h
       obtain ⟨b,hrun,hbr⟩:=vw hop hu hc w x (.const (.slice none 0 0))
       have hex:(execOp a.eval o).run C.P w=.ok (.value (.bool b)) w:=by
        have:(execOp a.eval o)=(do pure (.value (← (do eqGuard op t x (.const (.slice none 0 0)) (a.eval x) (.slice none 0 0); binOp op t (a.eval x) (.slice none 0 0):Sem Value)))):=by
         unfold execOp
         rw [ho]
         simp [Act.eval]
        rw [this,Sem.run_bind,hrun]
        rfl
       refine zW (fun c hc=>by rw [ho] at hc; cases hc) (dB hex ?_)
       have h3:bd o.dst (.v (.bool b)) S fun S'=>Bu C A pl all rest S' K:=by
        rcases hbr with ⟨rfl,hr⟩ | rfl
        ·exact h1 hr
        ·exact h2
       rw [aA] at h3
       exact ox hO hC (hM.congr cu cv cF) (ht.put (.v _ _ rfl)) h3 hQ
      ·exact False.elim h
     ·exact False.elim h
    ·exact False.elim h
   ·exact step hM ht hw h
  ·rename_i j want hg
   split at h
   ·exact False.elim h
   ·rename_i d hd
    obtain ⟨b,S1,h,hb,hM1,ht1⟩:=kW hM ht h
    rcases mB hg (od hd hb) h with ⟨hw,h⟩ | ⟨hw,h⟩
    ·exact step hM1 ht1 hw h
    ·rw [aA] at h
     unfold wpListIn
     rw [if_neg (by rw [hw]; exact fun h=>by cases h)]
     exact ⟨fun _ _=>trivial,ox hO hC (hM1.congr cu cv cF) (ht1.put (sZ _)) h hQ⟩
end
theorem Db {A:Ks} {id:Nat} {S:St} {K:St→Prop} (h:Gm A id S K):∃ S',ez S S'∧K S':=by
 unfold Gm at h
 split at h
 ·exact mG h
 ·exact ⟨S,.refl S,h⟩
theorem Dc {cfg:u9} (hmix:cfg.P.follows .mixedOrders=true) {A:Ks} {pl:br}:∀ (c:Code) {S:St} {K:Ex→St→Prop},kD pl A.ord c=true→xW (jg cfg) (eg cfg.P) A pl c S K →
  ∀ (r:Option Nat) (G:Gh) (E:Env) (a:Act) (w:World) (Q:Exit→Act→World→Prop),al G pn E S w→TR E S.t a→Ha G K Q→c.wpIn (rd r) 0 cfg.P Q a w:=by
 have hC:=Da cfg
 intro c
 induction c with
 | skip=>exact fun _ h r G E a w Q hM ht hQ=>wpIn_skip (hQ .nrm _ E _ _ h hM ht)
 | region id ops draw =>
  intro S K hB h r G E a w Q hM ht hQ
  cases draw with
  | false =>
   refine wpIn_region_list (ox hC (lm cfg) hM ht h (fun S' E' a' w' hk hS htr=>?_))
   obtain ⟨S3,E3,hk,hS,htr⟩:=mz hS htr (ya hk)
   obtain ⟨S2,hw,hk⟩:=Db hk
   obtain ⟨E2,hM2,ht2⟩:=hw G E3 a' w' hS htr
   exact hQ .nrm _ _ _ _ hk hM2 ht2
  | true =>
   refine np hmix pl id ops S (fun e S'=>e=.nrm∧Gm A id S' (K .nrm)) ?_ r G E a w Q hM ht (fun e S' E' a' w' hk hS htr=>?_)
   ·unfold kD at hB
    have h':(match rj A.ord id with
    | some is=>bo (u6 pl ops) (yO (jg cfg).P (bZ ops.toList) S fun S1=>oT (jg cfg) (Gk A id) pl ops is none S1 fun S'=>lG (bZ ops.toList) S' (xU (Gk A id) pl id S' fun S''=>Gm A id S'' (K .nrm)))
    | none=>aj 440):=h
    split at hB
    ·rename_i is js h1 h2
     rw [h1] at h'
     dsimp only at h'
     obtain ⟨h3,h'⟩:=ae h'
     refine ap h3 ?_
     refine ay.mono xA h' (fun S1 h=>?_)
     rw [tq hB] at h
     refine ay.mono (xB hC.det) (HN hC h2 h) (fun S' h=>?_)
     obtain ⟨h4,h5⟩:=nn h
     exact h5 _ (ay.mono qJ (ya h4) (fun S'' h=>⟨rfl,h⟩))
    ·cases hB
   ·obtain ⟨rfl,hk⟩:=hk
    obtain ⟨S2,hw,hk⟩:=Db hk
    obtain ⟨E2,hM2,ht2⟩:=hw G E' a' w' hS htr
    exact hQ .nrm _ _ _ _ hk hM2 ht2
 | seq x y ihx ihy =>
  intro S K hB h r G E a w Q hM ht hQ
  unfold kD at hB
  rw [Bool.and_eq_true] at hB
  refine wpIn_seq (ihx hB.1 h r G E a w _ hM ht (fun e S' E' a' w' hk hS htr=>?_))
  cases e with
  | nrm =>
   dsimp only at hk
   split at hk
   ·obtain ⟨S2,h1,⟨e2,S3,h2,h3,h4⟩,h5⟩:=mG hk
    subst h3 h4
    obtain ⟨E2,hM2,ht2⟩:=((qO _ _).trans h1) G E' a' w' hS htr
    refine h2 r G E2 a' w' Q hM2 ht2 (fun e' S'' E'' a'' w'' he hS' ht'=>?_)
    obtain ⟨rfl,rfl⟩:=he
    exact hQ _ _ _ _ _ h5 hS' ht'
   ·exact ihy hB.2 hk r G E' a' w' Q hS htr hQ
  | ex i=>exact hQ (.ex i) _ _ _ _ hk hS htr
  | ret=>exact hQ .ret _ _ _ _ hk hS htr
 | cond c x y ihx ihy =>
  intro S K hB h r G E a w Q hM ht hQ
  unfold kD at hB
  rw [Bool.and_eq_true] at hB
  obtain ⟨b,S1,h1,h2,h3,h4⟩:=pY hM ht h
  cases b with
  | true=>exact wpIn_cond_true h2 (ihx hB.1 h1 r G E a w Q h3 h4 hQ)
  | false=>exact wpIn_cond_false h2 (ihy hB.2 h1 r G E a w Q h3 h4 hQ)
 | block id c ih =>
  intro S K hB h r G E a w Q hM ht hQ
  refine wpIn_block (ih hB h r G E a w _ hM ht (fun e S' E' a' w' hk hS htr=>?_))
  cases e with
  | nrm=>exact hQ .nrm _ _ _ _ hk hS htr
  | ret=>exact hQ .ret _ _ _ _ hk hS htr
  | ex i =>
   show Exit.inBlock id Q (.exit i) a' w'
   unfold Exit.inBlock
   dsimp only at hk
   split at hk
   ·rename_i hb
    have:=Nat.eq_of_beq_eq_true hb
    subst this
    simp only [if_pos]
    exact hQ .nrm _ _ _ _ hk hS htr
   ·rename_i hb
    have hne:¬ i=id:=fun e=>by subst e; simp at hb
    simp only [if_neg hne]
    exact hQ (.ex i) _ _ _ _ hk hS htr
 | loop c ih =>
  intro S K hB h r G E a w Q hM ht hQ
  have h':(match rj A.lps (rn c) with
  | some (W,L,e,S1)=>Ht L (wk W S) fun S2=>((jg cfg).loop pl c S2 fun e' S'=>e'=e∧S'=S1)∧K e S1
  | none=>(jg cfg).loop pl c S K):=h
  split at h'
  ·obtain ⟨S2,h1,h2,h3⟩:=mG h'
   obtain ⟨E2,hM2,ht2⟩:=((qO _ _).trans h1) G E a w hM ht
   refine ln cfg pl c S2 _ h2 r G E2 a w Q hM2 ht2 (fun e' S'' E'' a'' w'' he hS' ht'=>?_)
   obtain ⟨rfl,rfl⟩:=he
   exact hQ _ _ _ _ _ h3 hS' ht'
  ·exact ln cfg pl c S K h' r G E a w Q hM ht hQ
 | exit id=>exact fun _ h r G E a w Q hM ht hQ=>wpIn_exit (hQ (.ex id) _ E _ _ h hM ht)
 | ret=>exact fun _ h r G E a w Q hM ht hQ=>wpIn_ret (hQ .ret _ E _ _ h hM ht)
 | _=>exact fun _ h=>False.elim h
theorem eg.of {cfg:u9} (hmix:cfg.P.follows .mixedOrders=true) {pl:br} {c:Code} {S S1:St} {e:Ex} {K:Ex→St→Prop} {A:Ks} {we:List (Nat×(Wk×Le))} (hB:kD pl A.ord c=true)
  (h:Kz (jg cfg) (eg cfg.P) A pl we c S (fun e' S'=>e'=e∧S'=S1)) (hk:K e S1):eg cfg.P c S K:=by
 refine ⟨e,S1,fun r G E a w Q hM ht hQ=>?_,hk⟩
 refine Dc hmix c hB h r G E a w Q hM ht (fun e' S' E' a' w' hk hS htr=>?_)
 dsimp only at hk
 split at hk
 ·obtain ⟨S2,h1,rfl,rfl⟩:=mG hk
  obtain ⟨E2,hM2,ht2⟩:=((qO _ _).trans h1) G E' a' w' hS htr
  exact hQ _ _ _ _ _ ⟨rfl,rfl⟩ hM2 ht2
 ·obtain ⟨rfl,rfl⟩:=hk
  exact hQ _ _ _ _ _ ⟨rfl,rfl⟩ hS htr
theorem jw.round {cfg:u9} {pl:br} {c:Code} {S:St} {K:Ex→St→Prop}
  (h:eg cfg.P c S fun e S'=>match e with
   | .nrm=>jw cfg.P pl c S' K
   | .ex i=>K (.ex i) S'
   | .ret=>K .ret S'):jw cfg.P pl c S K:=by
 obtain ⟨e1,S1,h2,h1⟩:=h
 have run:∀ (e:Ex) (S3:St) (n:Nat),(∀ (r:Option Nat) (G:Gh) (E:Env) (a:Act) (w:World) (Q:Exit→Act→World→Prop),al G pn E S1 w→TR E S1.t a→Ha G (fun e' S''=>e'=e∧S''=S3) Q→Exit.then (Code.roundsIn (rd r) 0 cfg.P c Q n) Q (IS e1) a w) →
   ∀ (r:Option Nat) (G:Gh) (E:Env) (a:Act) (w:World) (Q:Exit→Act→World→Prop),al G pn E S w→TR E S.t a→Ha G (fun e' S''=>e'=e∧S''=S3) Q→Code.roundsIn (rd r) 0 cfg.P c Q (n + 1) a w:=by
  intro e S3 n hn r G E a w Q hM ht hQ
  refine h2 r G E a w _ hM ht (fun e' S' E' a' w' hk hS htr=>?_)
  obtain ⟨rfl,rfl⟩:=hk
  exact hn r G E' a' w' Q hS htr hQ
 cases e1 with
 | nrm =>
  obtain ⟨n,e,S',hl,hk⟩:=h1
  exact ⟨n + 1,e,S',run e S' n (fun r G E a w Q hM ht hQ=>hl r G E a w Q hM ht hQ),hk⟩
 | ex i=>exact ⟨1,.ex i,S1,run _ _ 0 (fun r G E a w Q hM ht hQ=>hQ _ _ _ _ _ ⟨rfl,rfl⟩ hM ht),h1⟩
 | ret=>exact ⟨1,.ret,S1,run _ _ 0 (fun r G E a w Q hM ht hQ=>hQ _ _ _ _ _ ⟨rfl,rfl⟩ hM ht),h1⟩
def rk {σ τ:Type} (Sf:σ→St) (out:τ→Ex×St) (r:σ⊕τ) (e:Ex) (S':St):Prop :=
 match r with
 | .inl s'=>e=.nrm∧S'=Sf s'
 | .inr t=>e≠.nrm∧e=(out t).1∧S'=(out t).2
theorem QY {σ τ:Type} {Sf:σ→St} {out:τ→Ex×St} {s:σ}:rk Sf out (.inl s) .nrm (Sf s):=⟨rfl,rfl⟩
def pk {τ:Type} (out:τ→Ex×St) (t:τ) (e:Ex) (S':St):Prop:=e=(out t).1∧S'=(out t).2
theorem jw.iter {cfg:u9} {pl:br} {c:Code} {σ τ:Type} {step:σ→Option (σ⊕τ)} (Sf:σ→St) (out:τ→Ex×St)
  (hs:∀ s r,step s=some r→eg cfg.P c (Sf s) (rk Sf out r)):∀ (n:Nat) (s:σ) (t:τ),A.iter step n s=some t→jw cfg.P pl c (Sf s) fun e S'=>e=(out t).1∧S'=(out t).2
 | 0,s,t,h=>by cases h
 | n + 1,s,t,h=>by
  unfold A.iter at h
  split at h
  ·cases h
  ·rename_i s' hs'
   refine jw.round ((hs s _ hs').mono fun e S' h1=>?_)
   obtain ⟨rfl,rfl⟩:=h1
   exact jw.iter Sf out hs n s' t h
  ·rename_i t' ht'
   cases h
   refine jw.round ((hs s _ ht').mono fun e S' h1=>?_)
   obtain ⟨h0,h1,h2⟩:=h1
   cases e with
   | nrm=>exact absurd rfl h0
   | ex i=>exact ⟨h1,h2⟩
   | ret=>exact ⟨h1,h2⟩
theorem ft.le {P:Program} {f:Nat} {as as':List AV} {K:AV→Prop} (h:ft P f as' K) (hl:fj as as'):ft P f as K:=by
 obtain ⟨r,⟨h1,h2⟩,h3⟩:=h
 exact ⟨r,⟨h1,fun F w us hF hg hv=>h2 F w us hF hg (hl.vrs hv)⟩,h3⟩
theorem ft.to {P:Program} {f:Nat} {as:List AV} {r:AV} (h:ft P f as fun x=>b9 x r):ft P f as fun x=>x=r:=by
 obtain ⟨x,⟨h1,h2⟩,h3⟩:=h
 refine ⟨r,⟨h1,fun F w us hF hg hv=>(h2 F w us hF hg hv).mono ?_⟩,rfl⟩
 rintro e w' ⟨v,F',h4,h5,h6⟩
 exact ⟨v,F',h4,h3 _ _ h5,h6⟩
def dl (k:IntKind) (x:Int):AV:=.v (.int k x)
def LH (x:Bool):AV:=.v (.bool x)
def py {α:Type} (f:α→List AV) (l:List α):AV:=.sl (l.map f)
def bM {α:Type} (f:α→List AV) (x:α):AV:=.agg (f x)
def lZ (k:IntKind) (x:Int):List AV:=[.v (.int k x)]
def eZ (x:Bool):List AV:=[.v (.bool x)]
def Nn (x:ByteArray):List AV:=[.v (.string x)]
def dT {α:Type} (f:α→List AV) (l:List α):List AV:=[.sl (l.map f)]
def nJ {α β:Type} (f:α→AV) (g:β→AV) (e:α×β):AV×AV:=(f e.1,g e.2)
def vW {α:Type} (f:α→List AV):Option α→AV
 | none=>.nilp
 | some x=>.fptr (f x) 0
theorem nq {k:IntKind} {a b:Int} (h:(a==b)=true):AV.v (.int k a)=AV.v (.int k b):=by rw [eq_of_beq h]
theorem h_ {i:Nat}:Ex.ex i≠Ex.nrm:=fun h=>by cases h
theorem nr:Ex.ret≠Ex.nrm:=fun h=>by cases h
theorem I5 {α:Type} (f:α→List AV) (l:List α):AV.v (.int .i64 (((l.map f).length:Nat):Int))=AV.v (.int .i64 (l.length:Int)):=by rw [List.length_map]
theorem sj {α:Type} (f:α→List AV) {l:List α} {i:Int} {x:α} (h:ak l i=some x):Gl (l.map f) i=some (f x):=by
 unfold ak at h
 unfold Gl
 split
 ·rename_i h0
  rw [if_pos h0] at h
  rw [List.getElem?_map,h]
  rfl
 ·rename_i h0
  rw [if_neg h0] at h
  cases h
theorem fk {α:Type} (f:α→List AV) {l:List α} {i:Int} {x:α} (h:ak l i=some x):(l.map f)[i.toNat]?=some (f x):=by
 unfold ak at h
 split at h
 ·rw [List.getElem?_map,h]
  rfl
 ·cases h
theorem Dd {α:Type} (f:α→List AV) (l:List α) {sz:Nat} (hf:∀ x,Nat.beq (f x).length sz=true):gx sz (l.map f)=true:=by
 cases l with
 | nil=>rfl
 | cons x l=>exact hf x
theorem Ew {α:Type} (f:α→List AV) (l:List α) (hf:∀ x,(f x).all mS=true):bh (l.map f)=true:=by
 unfold bh
 rw [List.all_eq_true]
 intro r hr
 obtain ⟨x,_,rfl⟩:=List.mem_map.1 hr
 exact hf x
theorem j8 {α:Type} (f:α→List AV) (l m:List α):l.map f++m.map f=(l++m).map f:=List.map_append.symm
theorem fT {α:Type} (f:α→List AV) (l:List α) (i:Nat) (x:α):(l.map f).set i (f x)=(l.set i x).map f:=(List.map_set).symm
theorem kX {α:Type} (f:α→List AV) (n:Nat) (x:α):List.replicate n (f x)=(List.replicate n x).map f:=List.map_replicate.symm
theorem I6 {α:Type} (f:α→List AV) (l:List α) (i off a b:Nat):AV.msl i off (a + (l.map f).length) (b - (l.map f).length)=AV.msl i off (a + l.length) (b - l.length):=by rw [List.length_map]
theorem Fe {α:Type} (f:α→List AV) (l:List α) (i off a b:Nat):AV.msl i off a ((l.map f).length - b)=AV.msl i off a (l.length - b):=by rw [List.length_map]
theorem De {α:Type} (f:α→List AV) (l:List α) (i off a b:Nat):AV.msl i off ((l.map f).length - a) b=AV.msl i off (l.length - a) b:=by rw [List.length_map]
theorem I7 {α:Type} (f:α→List AV) (l m:List α) (a:Nat):(l.map f).take a++(m.map f++(l.map f).drop (a + (m.map f).length))=(l.take a++(m++l.drop (a + m.length))).map f:=by
 rw [List.length_map,List.map_append,List.map_append,List.map_take,List.map_drop]
theorem Gw {α:Type} {f:α→List AV} {l:List α} {k:Nat} (h:Nat.ble l.length k=true):Nat.ble (l.map f).length k=true:=by rw [List.length_map]; exact h
theorem Gx {α:Type} {f:α→List AV} {l:List α} {k:Nat} (h:Nat.ble k l.length=true):Nat.ble k (l.map f).length=true:=by rw [List.length_map]; exact h
theorem JG {α:Type} (f:α→List AV) (l:List α) (a b:Nat):AV.sl (((l.map f).drop a).take b)=AV.sl (((l.drop a).take b).map f):=by rw [List.map_take,List.map_drop]
theorem KA {α:Type} (f:α→List AV) (l:List α) (a b:Nat):b9 (.sl (((l.map f).drop a).take b)) (.sl (((l.drop a).take b).map f)):=by rw [JG]; exact b9.refl _
theorem Bz {α:Type} {f:α→List AV} {l:List α} {h:Int} (e:(decide (0≤h)&&decide (h≤(l.length:Int)))=true):(decide (0≤h)&&decide (h≤(((l.map f).length:Nat):Int)))=true:=by rw [List.length_map]; exact e
theorem HO {α:Type} {f:α→List AV} {l:List α} {a h:Int} (e:(decide (0≤a)&&decide (a≤h)&&decide (h≤(l.length:Int)))=true):(decide (0≤a)&&decide (a≤h)&&decide (h≤(((l.map f).length:Nat):Int)))=true:=by rw [List.length_map]; exact e
theorem I8 {α:Type} (f:α→List AV) {l:List α} (h:l.map f=[]):b9 .nilsl (.sl (l.map f)):=by rw [h]; exact b9.nil
theorem KB {α:Type} (f:α→List AV) (n:Nat) {z:List AV} {x:α} (h:fj z (f x)):lX (List.replicate n z) ((List.replicate n x).map f):=by
 rw [List.map_replicate]
 refine ⟨by simp,fun i a b h1 h2=>?_⟩
 rw [List.getElem?_replicate] at h1 h2
 split at h1
 ·cases h1
  rename_i hi
  rw [if_pos hi] at h2
  cases h2
  exact h
 ·cases h1
theorem I9 (n i off a b:Nat) (z:List AV):AV.msl i off a ((List.replicate n z).length - b)=AV.msl i off a (n - b):=by rw [List.length_replicate]
theorem mH {α:Type} {f:α→List AV} {l:List α} {k m:Nat} (h:Nat.ble (l.length * k) m=true):Nat.ble ((l.map f).length * k) m=true:=by rw [List.length_map]; exact h
theorem gR {α:Type} {f:α→List AV} {l:List α} {k m n:Nat} (h:Nat.ble ((l.length + n) * k) m=true):Nat.ble (((l.map f).length + n) * k) m=true:=by rw [List.length_map]; exact h
theorem Gy {α:Type} {f:α→List AV} {l l':List α} {k m:Nat} (h:Nat.ble ((l.length + l'.length) * k) m=true):Nat.ble (((l.map f).length + (l'.map f).length) * k) m=true:=by rw [List.length_map,List.length_map]; exact h
def pz {α:Type} (f:α→List AV) (c:Option (List α)):Option (List (List AV)):=c.map fun l=>l.map f
section
variable {α:Type} (f:α→List AV)
theorem HP {cs:List (Option (List α))} {i:Nat} {x:Option (List α)} {r:List α} (h:cs[i]?=some x) (h1:x=some r):(cs.map (pz f))[i]?=some (some (r.map f)):=by
 rw [List.getElem?_map,h,h1]
 rfl
theorem KC {cs:List (Option (List α))} {i:Nat} {x:Option (List α)} (h:cs[i]?=some x) (h1:x=none):(cs.map (pz f))[i]?=some none:=by
 rw [List.getElem?_map,h,h1]
 rfl
theorem JH {cs:List (Option (List α))} {i:Nat} {x:Option (List α)} (h:cs[i]?=some x):Nat.blt i (cs.map (pz f)).length=true:=by
 have:i<cs.length:=(List.getElem?_eq_some_iff.1 h).1
 rw [List.length_map]
 exact Nat.blt_eq.mpr this
theorem Np (i:Nat):Nat.beq i i=true:=Nat.beq_refl i
theorem HQ (cs:List (Option (List α))) (i:Nat) (r:List α):(cs.map (pz f)).set i (some (r.map f))=(cs.set i (some r)).map (pz f):=by
 rw [List.map_set]
 rfl
theorem KD (cs:List (Option (List α))) (r:List α):(cs.map (pz f)++[none]).set (cs.map (pz f)).length (some (r.map f))=(cs++[some r]).map (pz f):=by
 rw [List.set_append_right _ _ (Nat.le_refl _),Nat.sub_self,List.map_append]
 rfl
theorem KF (cs:List (Option (List α))):Nat.blt (cs.map (pz f)).length (cs.map (pz f)++[none]).length=true:=by
 rw [List.length_append]
 exact Nat.blt_eq.mpr (Nat.lt_succ_self _)
theorem LI {κ:Type} (kf:κ→AV):∀ (ks:List κ) (cs:List (Option (List α))),nK cs=true→mq (ks.map kf) (cs.map (pz f))=(AJ ks cs).map (nJ kf (py f))
 | [],_,_=>by cases ‹List (Option (List α))› <;> rfl
 | _::_,[],_=>rfl
 | k::ks,c::cs,h=>by
  unfold nK at h
  rw [Bool.and_eq_true] at h
  obtain ⟨r,rfl⟩:=Option.isSome_iff_exists.1 h.1
  show (kf k,AV.sl (r.map f))::mq (ks.map kf) (cs.map (pz f))=_
  rw [LI kf ks cs h.2]
  rfl
end
theorem oy {α:Type} {P:Program} (c:Prop) [Decidable c] (x y:Sem α):aw P (if c then x else y)=if c then aw P x else aw P y:=by
 split <;> rfl
def KG (f:Nat→Option Bool):List Nat→Option Bool
 | []=>some true
 | i::is=>match f i with
  | some e=>match KG f is with
   | some s=>some (e&&s)
   | none=>none
  | none=>none
def Ff (P:Program):Nat→TypeId→Value→Value→Option Bool
 | 0,_,_,_=>none
 | n + 1,t,x,y =>
  match P.underlying t,x,y with
  | some .bool,.bool a,.bool b=>some (a==b)
  | some (.int _),.int k a,.int k' b=>if k=k' then some (a==b) else none
  | some .string,.string a,.string b=>some (a.toList==b.toList)
  | some (.struct fs),.agg xs,.agg ys=>match P.stoodInHeld t with
   | true=>none
   | false => fs.toList.foldr (fun f (r : Option Bool × Bool) => match f.name == "_", aw P (part f.type xs f.offset), aw P (part f.type ys f.offset) with
     | false,some a,some b=>match Ff P n f.type a b,r with
      | some e,(_,false)=>(some e,true)
      | some e,(some s,true)=>(some (e&&s),true)
      | _,_=>(none,true)
     | _,_,_=>(none,true)) (some true,false) |>.1
  | some (.array len e),.agg xs,.agg ys=>match aw P (sizeOf e) with
   | some m=>KG (fun i=>match aw P (part e xs (i * m)),aw P (part e ys (i * m)) with
    | some a,some b=>Ff P n e a b
    | _,_=>none) (List.range' 0 len)
   | none=>none
  | _,_,_=>none
theorem gl {P:Program} {t:TypeId} {d:TypeDesc} (h:P.underlying t=some d):aw P (underlying t)=some d:=by
 unfold underlying
 simp [aH,program,aw,h]
 rfl
theorem Gz {P:Program} {t:TypeId} {fs:Array Field} {xs ys:Array Value} {d:Nat} (ht:P.underlying t=some (.struct fs)) (hp:P.stoodInHeld t=false) :
  aw P (Op.equalIn (d + 1) t (.agg xs) (.agg ys))=aw P (Op.eqFields d xs ys fs.toList):=by
 simp only [Op.equalIn,aH,gl ht,Option.bind_some]
 have hprog:aw P program=some P:=rfl
 simp only [aH,hprog,Option.bind_some,hp,Bool.false_eq_true,if_false]
 rw [← Array.forIn_toList]
 generalize fs.toList=l
 clear ht
 induction l with
 | nil=>rfl
 | cons f l ih =>
  simp only [List.forIn_cons,Op.eqFields,aH,oy]
  split
  ·try simp only [aH]
   generalize aw P (part f.type xs f.offset)=r1
   cases r1 with
   | none=>rfl
   | some a =>
    simp only [Option.bind_some]
    generalize aw P (part f.type ys f.offset)=r2
    cases r2 with
    | none=>rfl
    | some b =>
     simp only [Option.bind_some]
     generalize aw P (Op.equalIn d f.type a b)=r3
     cases r3 with
     | none=>rfl
     | some r =>
      cases r
      ·rfl
      ·simp only [Option.bind_some]
       exact ih
  ·exact ih
def wu (d:Nat) (e:TypeId) (m:Nat) (xs ys:Array Value):List Nat→Sem Bool
 | []=>pure true
 | i::is=>do
  if !(← Op.equalIn d e (← part e xs (i * m)) (← part e ys (i * m))) then return false
  wu d e m xs ys is
theorem HR {P:Program} {t e:TypeId} {len m:Nat} {xs ys:Array Value} {d:Nat} (ht:P.underlying t=some (.array len e)) (hm:aw P (sizeOf e)=some m) :
  aw P (Op.equalIn (d + 1) t (.agg xs) (.agg ys))=aw P (wu d e m xs ys (List.range' 0 len)):=by
 simp only [Op.equalIn,aH,gl ht,Option.bind_some,hm]
 simp only [Std.Legacy.Range.forIn_eq_forIn_range',Std.Legacy.Range.size,Nat.sub_zero,Nat.add_one_sub_one,Nat.div_one]
 generalize List.range' 0 len=l
 clear ht
 induction l with
 | nil=>rfl
 | cons i l ih =>
  simp only [List.forIn_cons,wu,aH,oy]
  generalize aw P (part e xs (i * m))=r1
  cases r1 with
  | none=>rfl
  | some a =>
   simp only [Option.bind_some]
   generalize aw P (part e ys (i * m))=r2
   cases r2 with
   | none=>rfl
   | some b =>
    simp only [Option.bind_some]
    generalize aw P (Op.equalIn d e a b)=r3
    cases r3 with
    | none=>rfl
    | some r =>
     cases r
     ·rfl
     ·simp only [Option.bind_some]
      exact ih
theorem nt {P:Program}:∀ (n d:Nat) {t:TypeId} {x y:Value} {b:Bool},n≤d→Ff P n t x y=some b→aw P (Op.equalIn d t x y)=some b
 | 0,_,_,_,_,_,_,h=>by cases h
 | n + 1,0,_,_,_,_,hd,_=>by omega
 | n + 1,d + 1,t,x,y,b,hd,h=>by
  unfold Ff at h
  split at h
  ·rename_i hu
   cases h
   simp only [Op.equalIn,aH,gl hu,Option.bind_some]
   rfl
  ·rename_i hu
   split at h
   ·rename_i hk
    cases h
    simp only [Op.equalIn,aH,gl hu,Option.bind_some]
    rw [if_pos hk]
    rfl
   ·cases h
  ·rename_i hu
   cases h
   simp only [Op.equalIn,aH,gl hu,Option.bind_some,← beq_toListBytes]
   rfl
  ·rename_i fs xs ys hu
   split at h
   ·cases h
   ·rename_i hp
    rw [Gz hu hp]
    have key : ∀ (l : List Field) (r : Option Bool) (m : Bool), l.foldr (fun f (r : Option Bool × Bool) => match f.name == "_", aw P (part f.type xs f.offset), aw P (part f.type ys f.offset) with
     | false,some a,some b=>match Ff P n f.type a b,r with
      | some e,(_,false)=>(some e,true)
      | some e,(some s,true)=>(some (e&&s),true)
      | _,_=>(none,true)
     | _,_,_=>(none,true)) (some true,false)=(r,m)→(m=false→l=[])∧∀ b,r=some b→aw P (Op.eqFields d xs ys l)=some b:=by
     intro l
     induction l with
     | nil =>
      intro r m h
      cases h
      exact ⟨fun _=>rfl,fun b hb=>by cases hb; rfl⟩
     | cons f l ih =>
      intro r m h
      rw [List.foldr_cons] at h
      generalize hq:(l.foldr _ (some true,false):Option Bool×Bool)=q at h
      obtain ⟨r',m'⟩:=q
      obtain ⟨ih1,ih2⟩:=ih r' m' hq
      split at h
      ·rename_i a b hn ha hb
       have hn' : f.name ≠ "_" := by simpa using hn
       have step:∀ e,Ff P n f.type a b=some e→aw P (Op.eqFields d xs ys (f::l))=match e with | true=>aw P (Op.eqFields d xs ys l) | false=>some false:=by
        intro e he
        simp only [Op.eqFields]
        rw [if_pos hn']
        simp only [aH,ha,hb,Option.bind_some,nt n d (by omega) he]
        cases e <;> rfl
       cases hv:Ff P n f.type a b with
       | none =>
        rw [hv] at h
        cases h
        exact ⟨fun h=>(by cases h),fun b' hb'=>(by cases hb')⟩
       | some e =>
        rw [hv] at h
        cases m' with
        | false =>
         cases h
         refine ⟨fun h=>(by cases h),fun b' hb'=>?_⟩
         cases hb'
         rw [step e hv,ih1 rfl]
         cases e <;> rfl
        | true =>
         cases r' with
         | none =>
          cases h
          exact ⟨fun h=>(by cases h),fun b' hb'=>(by cases hb')⟩
         | some s =>
          cases h
          refine ⟨fun h=>(by cases h),fun b' hb'=>?_⟩
          cases hb'
          rw [step e hv,ih2 s rfl]
          cases e <;> rfl
      ·cases h
       exact ⟨fun h=>(by cases h),fun b' hb'=>(by cases hb')⟩
    generalize hq:(fs.toList.foldr _ (some true,false):Option Bool×Bool)=q at h
    obtain ⟨r,m⟩:=q
    exact (key _ r m hq).2 b h
  ·rename_i len e xs ys hu
   split at h
   ·rename_i m hm
    rw [HR hu hm]
    generalize List.range' 0 len=l at h ⊢
    induction l generalizing b with
    | nil =>
     cases h
     rfl
    | cons i l ih =>
     unfold KG at h
     split at h
     ·rename_i c hc
      split at hc
      ·rename_i u v h1 h2
       split at h
       ·rename_i s hs
        cases h
        simp only [wu,aH,h1,h2,Option.bind_some,nt n d (by omega) hc]
        cases c
        ·rfl
        ·exact ih _ hs
       ·cases h
      ·cases hc
     ·cases h
   ·cases h
  ·cases h
theorem Au {P:Program} {t:TypeId} {xs ys:List Value} {b:Bool} (hg:P.eqGuardType P.depth t=false) (h:Ff P 16 t (.agg xs.toArray) (.agg ys.toArray)=some b):jq P .eql t xs ys=some (.bool b):=by
 unfold jq
 have h1:aw P (eqGuard .eql t (.tmp 0) (.tmp 0) (.agg xs.toArray) (.agg ys.toArray))=some ():=by
  simp [eqGuard,aH,program,aw,hg]
  rfl
 have h2:aw P (binOp .eql t (.agg xs.toArray) (.agg ys.toArray))=some (.bool b):=by
  have:=nt (P:=P) 16 10000 (by omega) h
  simp only [binOp,Op.equal,Op.maxDepth]
  rw [aH,this]
  rfl
 rw [aH,h1]
 exact h2
theorem GA {P:Program} {t:TypeId} {xs ys:List Value} {b:Bool} (hg:P.eqGuardType P.depth t=false) (h:Ff P 16 t (.agg xs.toArray) (.agg ys.toArray)=some b):jq P .neq t xs ys=some (.bool (!b)):=by
 unfold jq
 have h1:aw P (eqGuard .neq t (.tmp 0) (.tmp 0) (.agg xs.toArray) (.agg ys.toArray))=some ():=by
  simp [eqGuard,aH,program,aw,hg]
  rfl
 have h2:aw P (binOp .neq t (.agg xs.toArray) (.agg ys.toArray))=some (.bool (!b)):=by
  have:=nt (P:=P) 16 10000 (by omega) h
  simp only [binOp,Op.equal,Op.maxDepth]
  rw [aH,this]
  rfl
 rw [aH,h1]
 exact h2
structure vx (P:Program) (kt:TypeId) {κ:Type} (kf:κ→AV) (kv:κ→Value) (beq:κ→κ→Bool):Prop where
 tok:∀ k,yE (kf k)=some (kv k)
 eqv:∀ a b,Ff P 16 kt (kv a) (kv b)=some (beq a b)
 chk:∀ e k,aw P (Instr.checkKey e 10000 kt (kv k))=some ()
 sam:∀ a b,beq a b=true→Instr.sameBits 10000 (kv b) (kv a)=true
def BA:List Bool→Nat→Option Nat
 | [],_=>none
 | true::_,i=>some i
 | false::bs,i=>BA bs (i + 1)
theorem yc {P:Program} {kt:TypeId} {x:Value}:∀ {es:List MapEntry} {bs:List Bool} {i:Nat},es.length=bs.length→(∀ (j:Nat) (e:MapEntry) (b:Bool),es[j]?=some e→bs[j]?=some b→Ff P 16 kt x e.key=some b) →
  ∃ r,aw P (Instr.findAsking kt x es i)=some r∧r.map (·.1)=BA bs i
 | [],[],i,_,_=>⟨none,rfl,rfl⟩
 | [],_::_,_,h,_=>by simp at h
 | _::_,[],_,h,_=>by simp at h
 | e::es,b::bs,i,hl,hv=>by
  have h0:=nt (P:=P) 16 10000 (by omega) (hv 0 e b rfl rfl)
  unfold Instr.findAsking
  rw [aH]
  have h1:aw P (Op.equal kt x e.key)=some b:=h0
  rw [h1,Option.bind_some,oy]
  cases b with
  | true=>exact ⟨some (i,e.val),rfl,rfl⟩
  | false=>exact yc (es:=es) (bs:=bs) (i:=i + 1) (by simpa using hl) (fun j e' b' h2 h3=>hv (j + 1) e' b' (by simpa using h2) (by simpa using h3))
theorem Fg {P:Program} {kt:TypeId} {x:Value} {d:TypeDesc} (hd:P.underlying kt=some d):∀ {es:List MapEntry} {bs:List Bool} {i:Nat} {r:Option (Nat×Value)},es.length=bs.length→(∀ (j:Nat) (e:MapEntry) (b:Bool),es[j]?=some e→bs[j]?=some b→Ff P 16 kt x e.key=some b) →
  Instr.findNow d x es i=some r→r.map (·.1)=BA bs i
 | [],[],i,r,_,_,h=>by cases h; rfl
 | [],_::_,_,_,h,_,_=>by simp at h
 | _::_,[],_,_,h,_,_=>by simp at h
 | e::es,b::bs,i,r,hl,hv,h=>by
  have h0:=hv 0 e b rfl rfl
  have hs:∀ c,Instr.sameNow d x e.key=some c→c=b:=by
   intro c hc
   unfold Ff at h0
   rw [hd] at h0
   generalize e.key=y at h0 hc
   unfold Instr.sameNow at hc
   split at hc
   ·dsimp only at h0
    split at hc
    ·rename_i hk
     rw [if_pos hk] at h0
     rw [hc] at h0
     exact Option.some.inj h0
    ·cases hc
   ·dsimp only at h0
    rw [beq_toListBytes] at hc
    rw [hc] at h0
    exact Option.some.inj h0
   ·dsimp only at h0
    rw [hc] at h0
    exact Option.some.inj h0
   ·cases hc
  unfold Instr.findNow at h
  split at h
  ·rename_i hc
   cases h
   rw [← hs _ hc]
   rfl
  ·rename_i hc
   rw [← hs _ hc]
   exact Fg hd (es:=es) (bs:=bs) (i:=i + 1) (by simpa using hl) (fun j e' b' h2 h3=>hv (j + 1) e' b' (by simpa using h2) (by simpa using h3)) h
  ·cases h
theorem I_ {P:Program} {kt:TypeId} {x:Value} {es:List MapEntry} {bs:List Bool} {d:TypeDesc} (hd:P.underlying kt=some d) (hl:es.length=bs.length) (hv:∀ (j:Nat) (e:MapEntry) (b:Bool),es[j]?=some e→bs[j]?=some b→Ff P 16 kt x e.key=some b) :
  ∃ r,aw P (Instr.findKey kt x es)=some r∧r.map (·.1)=BA bs 0:=by
 unfold Instr.findKey
 rw [aH,gl hd,Option.bind_some]
 split
 ·rename_i r hr
  exact ⟨r,rfl,Fg hd hl hv hr⟩
 ·exact yc hl hv
theorem yd {κ β:Type} {kf:κ→AV} {kv:κ→Value} {vf:β→AV} (ht:∀ k,yE (kf k)=some (kv k)):∀ l:List (κ×β),keysOf (l.map (nJ kf vf))=some (l.map fun e=>({ key:=kv e.1,val:=.bool false,born:=0 }:MapEntry))
 | []=>rfl
 | e::l=>by
  show (match yE (kf e.1),keysOf (l.map (nJ kf vf)) with
   | some x,some xs=>some (({ key:=x,val:=.bool false,born:=0 }:MapEntry)::xs)
   | _,_=>none)=_
  rw [ht,yd ht l]
  rfl
theorem uO {P:Program} {kt:TypeId} {κ β:Type} {kf:κ→AV} {kv:κ→Value} {beq:κ→κ→Bool} {vf:β→AV} (hd:(P.underlying kt).isSome=true) (hk:vx P kt kf kv beq) (l:List (κ×β)) (k:κ) {K:Value→Option Nat→Prop}
  (h:K (kv k) (BA (l.map fun e=>beq k e.1) 0)):gy P kt (kf k) (l.map (nJ kf vf)) K:=by
 obtain ⟨d,hd⟩:=Option.isSome_iff_exists.1 hd
 unfold gy
 rw [hk.tok,yd hk.tok]
 dsimp only
 rw [hk.chk]
 obtain ⟨r,h1,h2⟩:=I_ (P:=P) (x:=kv k) (es:=l.map fun e=>({ key:=kv e.1,val:=.bool false,born:=0 }:MapEntry)) (bs:=l.map fun e=>beq k e.1) hd (by simp) (fun j e b h1 h2=>by
  rw [List.getElem?_map,Option.map_eq_some_iff] at h1 h2
  obtain ⟨x,h3,rfl⟩:=h1
  obtain ⟨y,h4,rfl⟩:=h2
  rw [h3] at h4
  cases h4
  exact hk.eqv _ _)
 rw [h1]
 dsimp only
 rw [h2]
 exact h
theorem ye {κ β:Type} {beq:κ→κ→Bool} {k:κ}:∀ (l:List (κ×β)) (i:Nat),(BA (l.map fun e=>beq k e.1) i=none∧jn beq l k=none)∨∃ j e,BA (l.map fun e=>beq k e.1) i=some (i + j)∧l[j]?=some e∧beq k e.1=true∧jn beq l k=some e.2
 | [],i=>.inl ⟨rfl,rfl⟩
 | e::l,i=>by
  rw [List.map_cons]
  cases hb:beq k e.1 with
  | true=>exact .inr ⟨0,e,rfl,rfl,hb,by unfold jn; rw [if_pos hb]⟩
  | false =>
   have hg:jn beq (e::l) k=jn beq l k:=by
    show (if beq k e.1=true then some e.2 else jn beq l k)=_
    rw [if_neg (by rw [hb]; exact Bool.false_ne_true)]
   rcases ye (β:=β) (beq:=beq) (k:=k) l (i + 1) with ⟨h1,h2⟩ | ⟨j,e',h1,h2,h3,h4⟩
   ·exact .inl ⟨h1,hg.trans h2⟩
   ·exact .inr ⟨j + 1,e',by rw [show i + (j + 1)=i + 1 + j by omega]; exact h1,h2,h3,hg.trans h4⟩
def wv (P:Program) (kt e:TypeId) (ok:Bool) {κ β:Type} (kf:κ→AV) (vf:β→AV) (l:List (κ×β)) (k:κ) (a:AV):Prop :=
 ∀ k':AV→Prop,k' a→gy P kt (kf k) (l.map (nJ kf vf)) fun _ r=>kT P e ok (l.map (nJ kf vf)) r k'
theorem Ja {P:Program} {kt e:TypeId} {ok:Bool} {κ β:Type} {kf:κ→AV} {kv:κ→Value} {beq:κ→κ→Bool} {vf:β→AV} (hd:(P.underlying kt).isSome=true) (hk:vx P kt kf kv beq) (z:AV) (hz:∀ k',i7 P e ok k'=k' z) (l:List (κ×β)) (k:κ) (h:jn beq l k=none):wv P kt e ok kf vf l k z:=by
 intro k' hz'
 refine uO hd hk l k ?_
 rcases ye (β:=β) (beq:=beq) (k:=k) l 0 with ⟨h1,h2⟩ | ⟨j,en,h1,h2,h3,h4⟩
 ·rw [h1]
  show i7 P e ok k'
  rw [hz]
  exact hz'
 ·rw [h] at h4
  cases h4
theorem Jb {P:Program} {kt e:TypeId} {ok:Bool} {κ β:Type} {kf:κ→AV} {kv:κ→Value} {beq:κ→κ→Bool} {vf:β→AV} (hd:(P.underlying kt).isSome=true) (hk:vx P kt kf kv beq) (l:List (κ×β)) (k:κ) {v:β} (h:jn beq l k=some v):wv P kt e ok kf vf l k (match ok with | true=>.tup [vf v,.v (.bool true)] | false=>vf v):=by
 intro k' hk'
 refine uO hd hk l k ?_
 rcases ye (β:=β) (beq:=beq) (k:=k) l 0 with ⟨h1,h2⟩ | ⟨j,en,h1,h2,h3,h4⟩
 ·rw [h] at h2
  cases h2
 ·rw [h1]
  show kT P e ok _ (some (0 + j)) k'
  unfold kT
  dsimp only
  rw [Nat.zero_add,List.getElem?_map,h2]
  rw [h] at h4
  cases h4
  cases ok with
  | true=>exact hk'
  | false=>exact hk'
theorem Av {κ:Type} (kf:κ→AV):∀ ks:List κ,gV (ks.map kf)=(ks.map fun k=>(k,())).map (nJ kf fun _=>AV.bad)
 | []=>rfl
 | k::ks=>by
  show (kf k,AV.bad)::gV (ks.map kf)=_
  rw [Av kf ks]
  rfl
theorem yf {κ:Type} {beq:κ→κ→Bool} {k:κ}:∀ (ks:List κ) (i:Nat),BA ((ks.map fun k=>(k,())).map fun e=>beq k e.1) i=(dy beq ks k).map (i + ·)
 | [],_=>rfl
 | e::ks,i=>by
  rw [List.map_cons,List.map_cons]
  cases hb:beq k e with
  | true =>
   show some i=_
   unfold dy
   rw [if_pos hb]
   rfl
  | false =>
   show BA ((ks.map fun k=>(k,())).map fun e=>beq k e.1) (i + 1)=_
   rw [yf ks (i + 1)]
   have hk:dy beq (e::ks) k=(if beq k e=true then some 0 else (dy beq ks k).map (· + 1)):=rfl
   rw [hk,if_neg (by rw [hb]; exact Bool.false_ne_true),Option.map_map]
   congr 1
   funext j
   show i + 1 + j=i + (j + 1)
   omega
theorem Aw {κ:Type} {beq:κ→κ→Bool} {k:κ}:∀ {ks:List κ} {j:Nat},dy beq ks k=some j→∃ e,ks[j]?=some e∧beq k e=true
 | [],_,h=>by cases h
 | e::ks,j,h=>by
  unfold dy at h
  split at h
  ·rename_i hb
   cases h
   exact ⟨e,rfl,hb⟩
  ·rw [Option.map_eq_some_iff] at h
   obtain ⟨j',h1,rfl⟩:=h
   obtain ⟨e',h2,h3⟩:=Aw h1
   exact ⟨e',by simpa using h2,h3⟩
def HS (P:Program) (kt:TypeId) {κ:Type} (kf:κ→AV) (ks:List κ) (k:κ) (r:Option Nat):Prop:=∀ K':Option Nat→Prop,K' r→gy P kt (kf k) (gV (ks.map kf)) fun _ r=>K' r
def Fh (P:Program) (kt:TypeId) {κ:Type} (kf:κ→AV) (ks:List κ) (k:κ) (r:Option Nat) (ks':List AV):Prop:=∀ K':Option Nat→List AV→Prop,K' r ks'→gy P kt (kf k) (gV (ks.map kf)) fun kv r=>bo (wO P kt kv) (match r with
     | some i=>bo (Instr.sameBits 10000 (((ks.map kf)[i]?.bind yE).getD (.bool false)) kv) (K' (some i) ((ks.map kf).set i (kf k)))
     | none=>K' none (ks.map kf++[kf k]))
section
variable {P:Program} {kt:TypeId} {κ:Type} {kf:κ→AV} {kv:κ→Value} {beq:κ→κ→Bool}
theorem KH (hd:(P.underlying kt).isSome=true) (hk:vx P kt kf kv beq) (ks:List κ) (k:κ) {K:Value→Option Nat→Prop} (h:K (kv k) (dy beq ks k)):gy P kt (kf k) (gV (ks.map kf)) K:=by
 rw [Av]
 refine uO hd hk (ks.map fun k=>(k,())) k ?_
 rw [yf]
 have:(dy beq ks k).map (0 + ·)=dy beq ks k:=by
  cases dy beq ks k with
  | none=>rfl
  | some j=>show some (0 + j)=_; rw [Nat.zero_add]
 rw [this]
 exact h
theorem Jc (hd:(P.underlying kt).isSome=true) (hk:vx P kt kf kv beq) (ks:List κ) (k:κ) {r:Option Nat} (h:dy beq ks k=r):∀ K':Option Nat→Prop,K' r→gy P kt (kf k) (gV (ks.map kf)) fun _ r=>K' r:=fun _ hK=>KH hd hk ks k (h.symm▸hK)
theorem Jd (hd:(P.underlying kt).isSome=true) (hk:vx P kt kf kv beq) (ks:List κ) (k:κ) (h:dy beq ks k=none):∀ K':Option Nat→List AV→Prop,K' none ((ks++[k]).map kf)→gy P kt (kf k) (gV (ks.map kf)) fun kv r=>bo (wO P kt kv) (match r with
     | some i=>bo (Instr.sameBits 10000 (((ks.map kf)[i]?.bind yE).getD (.bool false)) kv) (K' (some i) ((ks.map kf).set i (kf k)))
     | none=>K' none (ks.map kf++[kf k])):=by
 intro K' hK
 refine KH hd hk ks k ?_
 refine ap (by unfold wO; rw [hk.chk]) ?_
 rw [h]
 rw [List.map_append] at hK
 exact hK
theorem Je (hd:(P.underlying kt).isSome=true) (hk:vx P kt kf kv beq) (he:∀ a b,beq a b=true→a=b) (ks:List κ) (k:κ) {i:Nat} (h:dy beq ks k=some i):∀ K':Option Nat→List AV→Prop,K' (some i) (ks.map kf)→gy P kt (kf k) (gV (ks.map kf)) fun kv r=>bo (wO P kt kv) (match r with
     | some i=>bo (Instr.sameBits 10000 (((ks.map kf)[i]?.bind yE).getD (.bool false)) kv) (K' (some i) ((ks.map kf).set i (kf k)))
     | none=>K' none (ks.map kf++[kf k])):=by
 intro K' hK
 refine KH hd hk ks k ?_
 refine ap (by unfold wO; rw [hk.chk]) ?_
 obtain ⟨e,h1,h2⟩:=Aw h
 have e1:=he _ _ h2
 subst e1
 rw [h]
 have hm:(ks.map kf)[i]?=some (kf k):=by rw [List.getElem?_map,h1]; rfl
 refine ap ?_ ?_
 ·rw [hm]
  show Instr.sameBits 10000 ((yE (kf k)).getD (.bool false)) (kv k)=true
  rw [hk.tok]
  exact hk.sam _ _ h2
 ·have hset:(ks.map kf).set i (kf k)=ks.map kf:=by
   apply List.ext_getElem?
   intro j
   rw [List.getElem?_set]
   split
   ·rename_i hj
    subst hj
    rw [hm]
    split
    ·rfl
    ·rename_i hn
     exact absurd (List.getElem?_eq_some_iff.1 hm).1 hn
   ·rfl
  rw [hset]
  exact hK
end
def kY (H:Type) (P:Program) (t:TypeId) {α:Type} (f:α→List AV) (wf:α→Prop):Prop:=∀ (n:Nat) (d:DataW H),dk P n t d=true→∃ x,fj (iB P n t d) (f x)∧wf x
def gv (H:Type) (P:Program) (ts:List TypeId) {α:Type} (f:α→List AV) (wf:α→Prop):Prop:=∀ (n:Nat) (ds:List (DataW H)),ds.length=ts.length→((ts.zip ds).all fun x=>dk P n x.1 x.2)=true→∃ x,fj ((ts.zip ds).flatMap fun x=>iB P n x.1 x.2) (f x)∧wf x
section
variable {H:Type} {P:Program} {t:TypeId}
theorem kY.int {k:IntKind} (hu:P.underlying t=some (.int k)):kY H P t (lZ k) (v8 k):=by
 intro n d h
 cases n with
 | zero=>cases h
 | succ n =>
  unfold dk at h
  rw [hu] at h
  cases d with
  | lit l =>
   cases l with
   | int k' m =>
    have h:(decide (k'=k)&&(Lit.int k m).wf)=true:=h
    rw [Bool.and_eq_true] at h
    obtain ⟨h1,h2⟩:=h
    have h1:=of_decide_eq_true h1
    subst h1
    have h2:(decide (k'.min≤m)&&decide (m≤k'.max))=true:=h2
    rw [Bool.and_eq_true] at h2
    refine ⟨m,?_,of_decide_eq_true h2.1,of_decide_eq_true h2.2⟩
    unfold iB
    rw [hu]
    exact fj.refl _
   | _=>cases h
  | _=>cases h
theorem kY.bool (hu:P.underlying t=some .bool):kY H P t eZ (fun _=>True):=by
 intro n d h
 cases n with
 | zero=>cases h
 | succ n =>
  unfold dk at h
  rw [hu] at h
  cases d with
  | lit l =>
   cases l with
   | bool b =>
    refine ⟨b,?_,trivial⟩
    unfold iB
    rw [hu]
    exact fj.refl _
   | _=>cases h
  | _=>cases h
theorem kY.slice {e:TypeId} (hu:P.underlying t=some (.slice e)) {α:Type} {f:α→List AV} {wf:α→Prop} (he:kY H P e f wf):kY H P t (dT f) (fun l=>l.length≤maxLen∧∀ x∈l,wf x):=by
 intro n d h
 cases n with
 | zero=>cases h
 | succ n =>
  unfold dk at h
  rw [hu] at h
  cases d with
  | nil =>
   refine ⟨[],?_,by simp [maxLen],fun x hx=>by cases hx⟩
   unfold iB
   rw [hu]
   exact fj.cons b9.nil fj.nil
  | slice xs sp =>
   have h:(decide (xs.length≤maxLen)&&xs.all (dk P n e))=true:=h
   rw [Bool.and_eq_true] at h
   obtain ⟨h1,h2⟩:=h
   have key:∀ xs:List (DataW H),xs.all (dk P n e)=true→∃ l:List α,lX (xs.map (iB P n e)) (l.map f)∧l.length=xs.length∧∀ x∈l,wf x:=by
    intro xs
    induction xs with
    | nil=>exact fun _=>⟨[],lX.nil,rfl,fun x hx=>by cases hx⟩
    | cons x xs ih =>
     intro h
     rw [List.all_cons,Bool.and_eq_true] at h
     obtain ⟨y,hy1,hy2⟩:=he n x h.1
     obtain ⟨l,hl1,hl2,hl3⟩:=ih h.2
     refine ⟨y::l,lX.cons hy1 hl1,by simp [hl2],fun z hz=>?_⟩
     rcases List.mem_cons.1 hz with rfl | hz
     ·exact hy2
     ·exact hl3 z hz
   obtain ⟨l,hl1,hl2,hl3⟩:=key xs h2
   refine ⟨l,?_,by rw [hl2]; exact of_decide_eq_true h1,hl3⟩
   unfold iB
   rw [hu]
   exact fj.cons (b9.sl hl1) fj.nil
  | _=>cases h
theorem gv.nil:gv H P [] (fun _:Unit=>[]) (fun _=>True):=fun _ _ _ _=>⟨(),fj.nil,trivial⟩
theorem gv.cons {ts:List TypeId} {α β:Type} {f:α→List AV} {wf:α→Prop} {g:β→List AV} {wg:β→Prop} (h:kY H P t f wf) (hs:gv H P ts g wg):gv H P (t::ts) (fun x:α×β=>f x.1++g x.2) (fun x=>wf x.1∧wg x.2):=by
 intro n ds hl ha
 cases ds with
 | nil=>simp at hl
 | cons d ds =>
  rw [List.zip_cons_cons,List.all_cons,Bool.and_eq_true] at ha
  obtain ⟨x,h1,h2⟩:=h n d ha.1
  obtain ⟨y,h3,h4⟩:=hs n ds (by simpa using hl) ha.2
  refine ⟨(x,y),?_,h2,h4⟩
  rw [List.zip_cons_cons,List.flatMap_cons]
  exact h1.app h3
theorem kY.struct {fs:Array Field} (hu:P.underlying t=some (.struct fs)) {α:Type} {g:α→List AV} {wg:α→Prop} (h:gv H P (fs.toList.map (·.type)) g wg):kY H P t g wg:=by
 intro n d hd
 cases n with
 | zero=>cases hd
 | succ n =>
  unfold dk at hd
  rw [hu] at hd
  cases d with
  | agg ds =>
  have hd:(Nat.beq ds.length fs.size&&(fs.toList.zip ds).all fun x=>dk P n x.1.type x.2)=true:=hd
  rw [Bool.and_eq_true] at hd
  obtain ⟨h1,h2⟩:=hd
  have hlen:=Nat.eq_of_beq_eq_true h1
  obtain ⟨x,h3,h4⟩:=h n ds (by simpa using hlen) (by
   rw [List.zip_map_left,List.all_map]
   exact h2)
  refine ⟨x,?_,h4⟩
  unfold iB
  rw [hu]
  dsimp only
  rw [List.zip_map_left,List.flatMap_map] at h3
  exact h3
  | _=>cases hd
theorem kY.conv {α β:Type} {f:α→List AV} {wf:α→Prop} {g:β→List AV} {wg:β→Prop} (h:kY H P t f wf) (φ:α→β) (hf:∀ x,f x=g (φ x)) (hw:∀ x,wf x→wg (φ x)):kY H P t g wg:=fun n d hd=>by
 obtain ⟨x,h1,h2⟩:=h n d hd
 exact ⟨φ x,by rw [← hf]; exact h1,hw x h2⟩
theorem kY.argS {fs:Array Field} (hu:P.underlying t=some (.struct fs)) {α:Type} {f:α→List AV} {wf:α→Prop} (h:kY H P t f wf) {n:Nat} {d:DataW H} (hd:dk P n t d=true):∃ x,b9 (ri P n t d) (.agg (f x))∧wf x:=by
 obtain ⟨x,h1,h2⟩:=h n d hd
 refine ⟨x,?_,h2⟩
 unfold ri
 rw [hu]
 exact b9.agg h1
theorem kY.arg1 (hs:lW P t=false) {α:Type} {f:α→List AV} {wf:α→Prop} {g:α→AV} (h:kY H P t f wf) (hg:∀ x,f x=[g x]) {n:Nat} {d:DataW H} (hd:dk P n t d=true):∃ x,b9 (ri P n t d) (g x)∧wf x:=by
 obtain ⟨x,h1,h2⟩:=h n d hd
 refine ⟨x,?_,h2⟩
 rw [hg] at h1
 unfold lW at hs
 unfold ri
 split
 ·rename_i fs hu
  rw [hu] at hs
  cases hs
 ·generalize iB P n t d=r at h1
  cases r with
  | nil=>exact absurd h1.1 (by simp)
  | cons a r=>exact h1.2 0 a _ rfl rfl
end
end A
end Go.Proofs.YtomahedcdcnnhaaGreatDoor
