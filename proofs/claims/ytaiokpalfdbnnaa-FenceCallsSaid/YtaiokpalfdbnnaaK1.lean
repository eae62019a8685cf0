/- The evaluator and what its values stand for. Nothing is claimed here of the program. -/
import Derived.Calls
import Derived.Still
import Derived.Below
import Derived.Laws.Cells
import Derived.Laws.Entries
import Derived.ChangeKeysEq
namespace Go.Proofs.Ytaiokpalfdbnnaa
namespace A
open Go
inductive Key where
  | L (d:Nat)
  | O (i:Nat)
  | S (id i:Nat)
  deriving DecidableEq
def Key.isS:Key→Bool
  | .S _ _=>true
  | _=>false
inductive AV where
  | bad
  | v (x:Value)
  | nilp
  | ptr (k:Key) (i j:Nat)
  | fptr (row:List AV) (j:Nat)
  | nilsl
  | esl
  | sl (rows:List (List AV))
  | mf (id:Nat)
  | mfx (id:Nat)
  | nn
  | ene
  | msl (id off len ext:Nat)
  | bsl (k:Key) (off len:Nat)
  | nilmap
  | mp (id:Nat)
  | nilfn
  | fn (f:Nat) (first cap:List AV)
  | agg (cs:List AV)
  | tup (vs:List AV)
inductive Ob where
  | arr (fl:Bool) (sz:Nat) (rows:List (List AV))
  | mapo (fl:Bool) (es:List (AV×AV))
  | own (ks:Option (List AV)) (sz:Nat) (cells:List (Option (List (List AV)))) (hole:Option (Nat×AV))
  | dead
structure St where
  t:List AV
  l:List (Nat×List AV)
  o:List Ob
  b:Nat
inductive Ex where
  | nrm
  | ex (id:Nat)
  | ret
structure bK where
  esc:List Nat
  ms:List Nat
  bx:List Nat
  st:List Nat
  fz:List Nat:=[]
  dc:List Nat:=[]
  ow:List Nat:=[]
  oh:List Nat:=[]
  cl:List Nat:=[]
  fr:List Nat:=[]
  ix:List (Nat×Nat):=[]
  nn:List Nat:=[]
  pk:List Nat:=[]
  nw:List Nat:=[]
structure Ctx where
  P:Program
  pure:Nat→Bool
  pol:Nat→bK
  pcall:Nat→List AV→(AV→Prop)→Prop
  scall:Nat→List AV→List Ob→(AV→List Ob→Prop)→Prop
  loop:bK→Code→St→(Ex→St→Prop)→Prop
def af (_n:Nat):Prop:=False
def AB (b:Bool) (X Y:Prop):Prop:=match b with | true=>X | false=>Y
def bG (b:Bool) (X:Prop):Prop:=match b with | true=>X | false=>af 1
def jh (a:AV) (k:AV→Prop):Prop :=
  match a with
  | .bad=>k .bad
  | .v x=>k (.v x)
  | .nilp=>k .nilp
  | .ptr x i j=>k (.ptr x i j)
  | .fptr r j=>k (.fptr r j)
  | .nilsl=>k .nilsl
  | .esl=>k .esl
  | .sl r=>k (.sl r)
  | .mf i=>k (.mf i)
  | .mfx i=>k (.mfx i)
  | .nn=>k .nn
  | .ene=>k .ene
  | .msl i a b c=>k (.msl i a b c)
  | .bsl x a b=>k (.bsl x a b)
  | .nilmap=>k .nilmap
  | .mp i=>k (.mp i)
  | .nilfn=>k .nilfn
  | .fn f a b=>k (.fn f a b)
  | .agg c=>k (.agg c)
  | .tup c=>k (.tup c)
def iJ:List AV→(List AV→Prop)→Prop
  | [],k=>k []
  | x::xs,k=>iJ xs fun ys=>k (x::ys)
def vd:List AV→(List AV→Prop)→Prop
  | [],k=>k []
  | x::xs,k=>jh x fun y=>vd xs fun ys=>k (y::ys)
def qD:List AV→Nat→(AV→Prop)→Prop
  | [],_,_=>af 2
  | x::_,0,k=>k x
  | _::xs,n + 1,k=>qD xs n k
def sT:List AV→Nat→AV→(List AV→Prop)→Prop
  | [],_,_,k=>k []
  | _::xs,0,v,k=>k (v::xs)
  | x::xs,n + 1,v,k=>sT xs n v fun ys=>k (x::ys)
def vz:Value→AV
  | .bool b=>.v (.bool b)
  | .int k n=>.v (.int k n)
  | .float k n=>.v (.float k n)
  | .string s=>.v (.string s)
  | .pointer none=>.nilp
  | .slice none 0 0=>.nilsl
  | .map none=>.nilmap
  | .nilFunc=>.nilfn
  | _=>.bad
def Es:Value→AV
  | .agg cs=>.agg (cs.toList.map vz)
  | x=>vz x
def II (_:Nat):Option (List AV):=none
def cR (S:St) (x:Operand) (k:AV→Prop):Prop :=
  match x with
  | .tmp t=>qD S.t t k
  | .const c=>jh (Es c) k
  | .func f=>k (.fn f [] [])
  | .global g=>match II g with | some row=>k (.fptr row 0) | none=>af 3
def dp (S:St):List Operand→(List AV→Prop)→Prop
  | [],k=>k []
  | x::xs,k=>cR S x fun a=>dp S xs fun as=>k (a::as)
def bB (dst:Option Tmp) (a:AV) (S:St) (K:St→Prop):Prop :=
  match dst with
  | none=>K S
  | some d=>sT S.t d a fun t=>K { t:=t,l:=S.l,o:=S.o,b:=S.b }
def vB (d:Nat) (S:St) (k:Bool→St→Prop):Prop :=
  qD S.t d fun a =>
    match a with
    | .v (.bool b)=>AB b (sT S.t d (.v (.bool true)) fun t=>k true { t:=t,l:=S.l,o:=S.o,b:=S.b }) (sT S.t d (.v (.bool false)) fun t=>k false { t:=t,l:=S.l,o:=S.o,b:=S.b })
    | _=>af 4
def ol (c:Operand) (S:St) (k:Bool→St→Prop):Prop :=
  match c with
  | .tmp d=>vB d S k
  | .const (.bool b)=>AB b (k true S) (k false S)
  | _=>af 5
def Ay (sz:Nat):Bool:=Nat.ble 65536 sz
def vC (sz:Nat):Nat:=match Ay sz with | true=>sz - 65536 | false=>sz
def Fx (sz k:Nat):AV:=match Ay sz with | true=>.mfx k | false=>.mf k
def KO (a:AV):AV:=match a with | .mfx k=>.mf k | a=>a
def JK (a:AV):AV:=match a with | .mf k=>.mfx k | _=>.bad
def KC (b:Bool) (a:AV):AV:=match b with | true=>JK a | false=>a
def IJ (b:Bool):AV:=match b with | true=>.ene | false=>.esl
def cX:Nat→Key→AV→AV
  | 0,_,_=>.bad
  | n + 1,k,a =>
    match a with
    | .ptr k' i j=>if k'=k then .bad else .ptr k' i j
    | .mf id=>if Key.O id=k then .bad else .mf id
    | .mfx id=>if Key.O id=k then .bad else .mfx id
    | .msl id a b c=>if Key.O id=k then .bad else .msl id a b c
    | .bsl k' a b=>if k'=k then .bad else .bsl k' a b
    | .mp id=>if Key.O id=k then .bad else .mp id
    | .fn f x y=>.fn f (x.map (cX n k)) (y.map (cX n k))
    | .agg cs=>.agg (cs.map (cX n k))
    | .tup cs=>.tup (cs.map (cX n k))
    | a=>a
def mK (k:Key):List AV→(List AV→Prop)→Prop
  | [],K=>K []
  | x::xs,K=>jh (cX 4 k x) fun y=>mK k xs fun ys=>K (y::ys)
def m6 (k:Key):List (Nat×List AV)→(List (Nat×List AV)→Prop)→Prop
  | [],K=>K []
  | (d,c)::xs,K=>mK k c fun c'=>m6 k xs fun ys=>K ((d,c')::ys)
def dT (k:Key):Ob→Ob
  | .arr false sz rows=>.arr false sz (rows.map (List.map (cX 4 k)))
  | .mapo false es=>.mapo false (es.map fun e=>(e.1,cX 4 k e.2))
  | .own ks sz cells (some h)=>.own ks sz cells (some (h.1,cX 4 k h.2))
  | o=>o
def iK (k:Key):List Ob→(List Ob→Prop)→Prop
  | [],K=>K []
  | .arr true sz rows::xs,K=>iK k xs fun ys=>K (.arr true sz rows::ys)
  | .dead::xs,K=>iK k xs fun ys=>K (.dead::ys)
  | .mapo true es::xs,K=>iK k xs fun ys=>K (.mapo true es::ys)
  | .arr false sz rows::xs,K=>iK k xs fun ys=>K (.arr false sz (rows.map (List.map (cX 4 k)))::ys)
  | .mapo false es::xs,K=>iK k xs fun ys=>K (.mapo false (es.map fun e=>(e.1,cX 4 k e.2))::ys)
  | .own ks sz cells none::xs,K=>iK k xs fun ys=>K (.own ks sz cells none::ys)
  | .own ks sz cells (some h)::xs,K=>iK k xs fun ys=>K (.own ks sz cells (some (h.1,cX 4 k h.2))::ys)
def dj:Nat→AV→Bool
  | 0,_=>false
  | n + 1,a =>
    match a with
    | .v _ | .nilp | .fptr .. | .nilsl | .esl | .sl _ | .nilmap | .nilfn=>true
    | .fn _ x y=>x.all (dj n)&&y.all (dj n)
    | .agg cs | .tup cs=>cs.all (dj n)
    | _=>false
def uM:Nat→AV→Bool
  | 0,_=>false
  | n + 1,a =>
    match a with
    | .ptr (.L _) _ _ | .bsl (.L _) _ _ | .bad=>false
    | .fn _ x y=>x.all (uM n)&&y.all (uM n)
    | .agg cs | .tup cs=>cs.all (uM n)
    | _=>true
def kV:AV→Bool
  | .bad | .agg _ | .tup _=>false
  | _=>true
def vD:Nat→AV→Bool
  | 0,_=>false
  | n + 1,a =>
    match a with
    | .v _ | .nilp | .nilsl | .esl | .nilmap | .nilfn=>true
    | .agg cs | .tup cs=>cs.all (vD n)
    | _=>false
def cx (size:Nat):List (List AV)→Bool
  | []=>true
  | r::_=>Nat.beq r.length size
def m7 (a:AV) (k:List AV→Prop):Prop :=
  match a with
  | .agg cs=>bG (cs.all kV) (k cs)
  | .bad | .tup _=>af 6
  | a=>k [a]
def over:List AV→List AV→List AV
  | xs,[]=>xs
  | [],_=>[]
  | _::xs,c::cs=>c::over xs cs
def splice:List AV→Nat→List AV→List AV
  | row,0,cs=>over row cs
  | [],_ + 1,_=>[]
  | x::xs,n + 1,cs=>x::splice xs n cs
def aL:List (Nat×List AV)→Nat→Option (List AV)
  | [],_=>none
  | (d,c)::xs,e=>if d=e then some c else aL xs e
def qa:List (Nat×List AV)→Nat→List (Nat×List AV)
  | [],_=>[]
  | (d,c)::xs,e=>if d=e then qa xs e else (d,c)::qa xs e
def rB:List (Nat×List AV)→Nat→List AV→List (Nat×List AV)
  | [],_,_=>[]
  | (d,c)::xs,e,c'=>if d=e then (d,c')::xs else (d,c)::rB xs e c'
def om:List (Nat×List AV)→(List (Nat×List AV)→Prop)→Prop
  | [],k=>k []
  | (d,c)::xs,k=>om xs fun ys=>k ((d,c)::ys)
def bi:List Ob→(List Ob→Prop)→Prop
  | [],k=>k []
  | x::xs,k=>bi xs fun ys=>k (x::ys)
def xF (S:St) (key:Key) (i:Nat) (k:List AV→Prop):Prop :=
  match key with
  | .L d =>
    match aL S.l d with
    | some row=>match i with | 0=>k row | _ + 1=>af 7
    | none=>af 8
  | .O id =>
    match S.o[id]? with
    | some (.arr _ _ rows)=>match rows[i]? with | some row=>k row | none=>af 9
    | _=>af 10
  | .S _ _=>af 11
def Fy (S:St) (a:AV) (k:List AV→Nat→Prop):Prop :=
  match a with
  | .ptr key i j=>xF S key i fun row=>k row j
  | .fptr row j=>k row j
  | _=>af 11
def iL (P:Program) (t:TypeId) (row:List AV) (j:Nat) (k:AV→Prop):Prop :=
  match P.underlying t with
  | some (.struct _) | some (.array _ _) =>
    match P.info? t with
    | some i=>bG (Nat.ble (j + i.size) row.length) (iJ ((row.drop j).take i.size) fun cs=>k (.agg cs))
    | none=>af 12
  | some _=>match row[j]? with | some c=>k c | none=>af 13
  | none=>af 14
def ma (S:St) (a:AV) (cs:List AV) (K:St→Prop):Prop :=
  match a with
  | .ptr (.L d) i j =>
    match aL S.l d with
    | some row =>
      match i with
      | 0=>bG (Nat.ble (j + cs.length) row.length) (iJ (splice row j cs) fun row'=>om (rB S.l d row') fun l=>K { t:=S.t,l:=l,o:=S.o,b:=S.b })
      | _ + 1=>af 15
    | none=>af 16
  | .ptr (.O id) i j =>
    match S.o[id]? with
    | some (.arr fl sz rows) =>
      match rows[i]? with
      | some row=>bG (Nat.ble (j + cs.length) row.length&&cs.all (uM 4)) (iJ (splice row j cs) fun row'=>bi (S.o.set id (.arr (fl&&cs.all (dj 4)) sz (rows.set i row'))) fun o=>K { t:=S.t,l:=S.l,o:=o,b:=S.b })
      | none=>af 17
    | _=>af 18
  | _=>af 19
def Hm (op:BinOp) (x y:Value):Option Value :=
  match x,y with
  | .int k a,.int k' b =>
    match op with
    | .add=>if k=k' then some (.int k (k.wrap (a + b))) else none
    | .sub=>if k=k' then some (.int k (k.wrap (a - b))) else none
    | .mul=>if k=k' then some (.int k (k.wrap (a * b))) else none
    | .eql=>if k=k' then some (.bool (a==b)) else none
    | .neq=>if k=k' then some (.bool (a != b)) else none
    | .lss=>if k=k' then some (.bool (a<b)) else none
    | .leq=>if k=k' then some (.bool (a≤b)) else none
    | .gtr=>if k=k' then some (.bool (a>b)) else none
    | .geq=>if k=k' then some (.bool (a≥b)) else none
    | .and=>if k=k' then some (.int k (k.wrap (BitVec.ofInt k.bits a &&& BitVec.ofInt k.bits b).toNat)) else none
    | .or=>if k=k' then some (.int k (k.wrap (BitVec.ofInt k.bits a ||| BitVec.ofInt k.bits b).toNat)) else none
    | .xor=>if k=k' then some (.int k (k.wrap (BitVec.ofInt k.bits a ^^^ BitVec.ofInt k.bits b).toNat)) else none
    | .andNot=>if k=k' then some (.int k (k.wrap (BitVec.ofInt k.bits a &&& ~~~ BitVec.ofInt k.bits b).toNat)) else none
    | _=>none
  | .string a,.string b =>
    match op with
    | .eql=>some (.bool (a.toList==b.toList))
    | .neq=>some (.bool (!(a.toList==b.toList)))
    | .lss=>some (.bool (Op.bytesLess a.toList b.toList))
    | _=>none
  | _,_=>none
def vE (op:BinOp) (x y:Value) (K:Value→Prop):Prop :=
  match op,x,y with
  | .quo,.int k a,.int k' b=>bG (decide (k=k')&&!(b==0)) (K (.int k (k.wrap (a.tdiv b))))
  | .rem,.int k a,.int k' b=>bG (decide (k=k')&&!(b==0)) (K (.int k (a.tmod b)))
  | .shl,.int k a,.int _ b=>bG (decide (0≤b)) (K (.int k (k.wrap (a * 2 ^ (min b.toNat k.bits)))))
  | .shr,.int k a,.int _ b=>bG (decide (0≤b)) (K (.int k (a.fdiv (2 ^ (min b.toNat k.bits)))))
  | .add,.string a,.string b=>bG (decide (((a.size + b.size:Nat):Int)≤9223372036854775807)) (K (.string (a++b)))
  | _,_,_=>af 20
def JL:AV→Option Value
  | .v x=>some x
  | _=>none
def uN:List AV→Option (List Value)
  | []=>some []
  | a::as=>match JL a,uN as with
    | some x,some xs=>some (x::xs)
    | _,_=>none
def aA {α:Type} (P:Program):Sem α→Option α
  | .pure a=>some a
  | .program k=>aA P (k P)
  | _=>none
def Dm (x y:AV):Option Bool :=
  match x,y with
  | .nilp,.nilp | .nilsl,.nilsl | .nilmap,.nilmap | .nilfn,.nilfn=>some true
  | .ptr ..,.nilp | .nilp,.ptr .. | .fptr ..,.nilp | .nilp,.fptr ..=>some false
  | .sl (_::_),.nilsl | .nilsl,.sl (_::_)=>some false
  | .mp _,.nilmap | .nilmap,.mp _=>some false
  | .fn ..,.nilfn | .nilfn,.fn ..=>some false
  | _,_=>none
def AC (P:Program) (op:BinOp) (t:TypeId) (a b:Bool) (K:AV→Prop):Prop :=
  match P.underlying t with
  | some .bool=>match op with
    | .eql=>K (.v (.bool (a==b)))
    | .neq=>K (.v (.bool (!(a==b))))
    | _=>af 221
  | _=>af 222
def yo (P:Program) (op:BinOp) (t:TypeId) (a b:Value) (K:AV→Prop):Prop :=
  match Hm op a b with
  | some c=>K (.v c)
  | none=>match a,b with
    | .bool x,.bool y=>AC P op t x y K
    | a,b=>vE op a b fun c=>K (.v c)
def FC (op:BinOp) (x y:AV) (K:AV→Prop):Prop :=
  match op with
  | .eql=>match Dm x y with | some b=>K (.v (.bool b)) | none=>af 223
  | .neq=>match Dm x y with | some b=>K (.v (.bool (!b))) | none=>af 224
  | _=>af 225
def kindOk (P:Program) (t:TypeId) (x y:AV):Bool :=
  match P.underlying t,x,y with
  | some (.pointer _),.nilp,_ | some (.pointer _),_,.nilp=>true
  | some (.slice _),.nilsl,_ | some (.slice _),_,.nilsl=>true
  | some (.map _ _),.nilmap,_ | some (.map _ _),_,.nilmap=>true
  | some (.func _ _ _),.nilfn,_ | some (.func _ _ _),_,.nilfn=>true
  | _,_,_=>false
def bE (P:Program) (op:BinOp) (t:TypeId) (xs ys:List Value):Option Value :=
  aA P (do eqGuard op t (.tmp 0) (.tmp 0) (.agg xs.toArray) (.agg ys.toArray); binOp op t (.agg xs.toArray) (.agg ys.toArray))
def Cd (P:Program) (op:BinOp) (t:TypeId) (x y:AV) (K:AV→Prop):Prop :=
  match x,y with
  | .v a,.v b=>yo P op t a b K
  | .agg as,.agg bs =>
    match uN as,uN bs with
    | some xs,some ys =>
      match bE P op t xs ys with
      | some (.bool b)=>K (.v (.bool b))
      | _=>af 226
    | _,_=>af 227
  | x,y=>bG (kindOk P t x y) (FC op x y K)
def JM (op:UnOp) (x:AV) (K:AV→Prop):Prop :=
  match op,x with
  | .not,.v (.bool b)=>K (.v (.bool (!b)))
  | .neg,.v (.int k n)=>K (.v (.int k (k.wrap (0 - n))))
  | .xor,.v (.int k n)=>K (.v (.int k (k.wrap (BitVec.ofInt k.bits (if k.signed then -1 else k.max) ^^^ BitVec.ofInt k.bits n).toNat)))
  | _,_=>af 28
def cE (P:Program) (e:TypeId) (k:List AV→Prop):Prop :=
  match P.info? e with
  | some i=>match i.zero with
    | some z=>bG (z.cells.size==i.size) (vd (z.cells.toList.map vz) k)
    | none=>af 29
  | none=>af 30
def cV:List Nat→Nat→Bool
  | [],_=>false
  | x::xs,d=>Nat.beq x d||cV xs d
def yp (d:Nat) (S:St) (K:St→Prop):Prop :=
  match aL S.l d with
  | none=>K S
  | some _=>mK (.L d) S.t fun t=>m6 (.L d) (qa S.l d) fun l=>K { t:=t,l:=l,o:=S.o,b:=S.b }
def m8:List Nat→St→(St→Prop)→Prop
  | [],S,K=>K S
  | d::ds,S,K=>yp d S fun S'=>m8 ds S' K
def vG:List (Nat×Nat)→Option Nat→Nat→Nat
  | [],_,n=>n
  | (s,j)::ix,d,n=>match d with
    | some e=>match Nat.beq s e with | true=>j | false=>vG ix d n
    | none=>n
def oq (j:Nat) (o:List Ob) (b:Nat) (ob:Ob) (k:List Ob→Prop):Prop :=
  match (o++List.replicate (j + 1 - o.length) Ob.dead)[j]? with
  | some .dead=>bG (Nat.ble b j) (bi ((o++List.replicate (j + 1 - o.length) Ob.dead).set j ob) k)
  | _=>af 331
def AD (pl:bK) (dst:Option Tmp) (cs:List AV) (S:St) (K:St→Prop):Prop :=
  match dst with
  | none=>af 31
  | some d=>bG (Nat.blt 0 cs.length) (
    match cV pl.esc d with
    | true=>bG (cs.all (uM 4)) (oq (vG pl.ix (some d) S.o.length) S.o S.b (.arr (cs.all (dj 4)) cs.length [cs]) fun o=>sT S.t d (.ptr (.O (vG pl.ix (some d) S.o.length)) 0 0) fun t=>K { t:=t,l:=S.l,o:=o,b:=S.b })
    | false=>yp d S fun S'=>mK (.L d) cs fun cs'=>sT S'.t d (.ptr (.L d) 0 0) fun t'=>K { t:=t',l:=(d,cs')::S'.l,o:=S'.o,b:=S'.b })
def nN (place:Nat→Option (Nat×Nat)):List AV→List (Nat×AV)→(List AV→Prop)→Prop
  | cells,[],k=>iJ cells k
  | cells,(i,x)::rest,k =>
    match place i with
    | some (off,size)=>m7 x fun cs=>bG (Nat.beq cs.length size&&Nat.ble (off + cs.length) cells.length) (nN place (splice cells off cs) rest k)
    | none=>af 32
def zx (P:Program) (fs:Array Field) (i:Nat):Option (Nat×Nat) :=
  match fs[i]? with
  | some f=>match P.info? f.type with
    | some fi=>some (f.offset,fi.size)
    | none=>none
  | none=>none
def vH (P:Program) (t:TypeId) (parts:List (Nat×AV)) (k:AV→Prop):Prop :=
  cE P t fun z =>
  match P.underlying t with
  | some (.struct fs)=>bG (fs.toList.all fun f=>(P.info? f.type).isSome) (nN (zx P fs) z parts fun cs=>k (.agg cs))
  | some (.array _ e)=>match P.info? e with
    | some i=>nN (fun n=>some (n * i.size,i.size)) z parts fun cs=>k (.agg cs)
    | none=>af 33
  | _=>af 34
def rC (n:Nat):Nat→List AV→List (List AV)
  | 0,_=>[]
  | m + 1,xs=>xs.take n::rC n m (xs.drop n)
def fw:List (List AV)→(List (List AV)→Prop)→Prop
  | [],k=>k []
  | x::xs,k=>iJ x fun y=>fw xs fun ys=>k (y::ys)
def jQ (P:Program) (pl:bK) (dst:Option Tmp) (t:TypeId) (len:Nat) (parts:List (Nat×AV)) (S:St) (K:St→Prop):Prop :=
  match len with
  | 0=>match P.underlying t with
    | some (.slice e)=>match P.info? e with
      | some _=>bG (parts.isEmpty) (bB dst (IJ (cV pl.nn (dst.getD 0))) S K)
      | none=>af 35
    | _=>af 36
  | len + 1 =>
    match P.underlying t with
    | some (.slice e)=>match P.info? e with
      | some i=>cE P e fun z=>bG (Nat.blt 0 i.size&&Nat.ble ((len + 1) * i.size) 16777216) (nN (fun n=>some (n * i.size,i.size)) (List.replicate (len + 1) z).flatten parts fun cs =>
          match cV pl.ms (dst.getD 0)||!(cs.all (dj 4)) with
          | false=>fw (rC i.size (len + 1) cs) fun rows=>bB dst (.sl rows) S K
          | true=>bG (cs.all (uM 4)) (fw (rC i.size (len + 1) cs) fun rows=>bi (S.o++[.arr (cs.all (dj 4)) i.size rows]) fun o=>bB dst (.mf S.o.length) { t:=S.t,l:=S.l,o:=o,b:=S.b } K))
      | none=>af 37
    | _=>af 38
def ot (P:Program) (pl:bK) (dst:Option Tmp) (t:TypeId) (len:Nat) (parts:List (Nat×AV)) (k:AV→Prop):Prop :=
  match len with
  | 0=>match P.underlying t with
    | some (.slice e)=>match P.info? e with
      | some _=>bG (parts.isEmpty) (k (IJ (cV pl.nn (dst.getD 0))))
      | none=>af 213
    | _=>af 214
  | len + 1 =>
    match P.underlying t with
    | some (.slice e)=>match P.info? e with
      | some i=>cE P e fun z=>bG (Nat.blt 0 i.size&&Nat.ble ((len + 1) * i.size) 16777216) (nN (fun n=>some (n * i.size,i.size)) (List.replicate (len + 1) z).flatten parts fun cs =>
          bG (!(cV pl.ms (dst.getD 0))&&cs.all (dj 4)) (fw (rC i.size (len + 1) cs) fun rows=>k (.sl rows)))
      | none=>af 215
    | _=>af 216
def FE (P:Program) (t:TypeId) (S:St) (x:AV) (k:AV→Prop):Prop :=
  match P.underlying t with
  | some (.slice _)=>match x with
    | .nilsl | .esl=>k (.v (.int .i64 0))
    | .sl rows=>k (.v (.int .i64 rows.length))
    | .mf id=>match S.o[id]? with | some (.arr _ _ rows)=>k (.v (.int .i64 rows.length)) | some (.own none _ cells _)=>k (.v (.int .i64 cells.length)) | _=>af 39
    | .msl _ _ len _=>k (.v (.int .i64 len))
    | .bsl _ _ len=>k (.v (.int .i64 len))
    | _=>af 40
  | some .string=>match x with
    | .v (.string s)=>k (.v (.int .i64 s.size))
    | _=>af 41
  | some (.array n _)=>k (.v (.int .i64 n))
  | some (.map _ _)=>match x with
    | .nilmap=>k (.v (.int .i64 0))
    | .mp id=>match S.o[id]? with | some (.mapo _ es)=>k (.v (.int .i64 es.length)) | _=>af 42
    | _=>af 43
  | _=>af 44
def jR (size:Nat) (S:St) (x:AV) (k:Bool→List (List AV)→Prop):Prop :=
  match x with
  | .nilsl | .esl=>k true []
  | .sl rows=>bG (cx size rows) (k true rows)
  | .mf id=>match S.o[id]? with | some (.arr fl sz rows)=>bG (Nat.beq sz size) (k fl rows) | _=>af 45
  | .msl id off len _=>match S.o[id]? with | some (.arr fl sz rows)=>bG (Nat.beq sz size) (k fl ((rows.drop off).take len)) | _=>af 46
  | .v (.string s)=>bG (Nat.beq size 1) (k true (s.data.toList.map fun b=>[.v (.int .u8 b.toNat)]))
  | .bsl (.O id) off len=>xF S (.O id) 0 fun row=>bG (Nat.beq size 1&&Nat.ble (off + len) row.length&&((row.drop off).take len).all (vD 2)) (k true (((row.drop off).take len).map fun c=>[c]))
  | _=>af 47
def vJ (S:St) (id:Nat):Bool:=Nat.blt id S.b
def qb (S:St) (id:Nat) (ob:Ob) (k:St→Nat→Prop):Prop :=
  mK (.O id) S.t fun t=>m6 (.O id) S.l fun l=>iK (.O id) S.o fun o =>
    match vJ S id with
    | false=>bi (o.set id (dT (.O id) ob)) fun o'=>k { t:=t,l:=l,o:=o',b:=S.b } id
    | true=>bi (o.set id .dead++[dT (.O id) ob]) fun o'=>k { t:=t,l:=l,o:=o',b:=S.b } o.length
def aO (src:List (List AV)):Bool:=src.all fun r=>r.all kV
def Ia (i:TypeInfo):Bool:=match i.zero with | some z=>Nat.beq z.cells.size i.size | none=>false
def jF (P:Program) (ts:List TypeId) (base x:AV) (S:St) (k:St→AV→Prop):Prop :=
  match ts with
  | [t0,t1] =>
    match P.underlying t0 with
    | some (.slice e) =>
      match P.info? e with
      | some i=>bG (Nat.blt 0 i.size&&Nat.blt 0 i.bytes&&Ia i&&(match P.underlying t1 with | some (.slice _) | some .string=>true | _=>false)) (jR i.size S x fun fl src=>bG (aO src) (
          match base with
          | .nilsl | .esl=>bG (Nat.ble (src.length * i.bytes) 140737488355328) (bi (S.o++[.arr fl i.size src]) fun o=>k { t:=S.t,l:=S.l,o:=o,b:=S.b } (.mf S.o.length))
          | .mf id=>match S.o[id]? with
            | some (.arr fl' sz rows)=>bG (Nat.beq sz i.size&&Nat.ble ((rows.length + src.length) * i.bytes) 140737488355328&&(fl||!fl')) (qb S id (.arr (fl'&&fl) sz (rows++src)) fun S' id'=>k S' (.mf id'))
            | _=>af 48
          | .msl id off len ext=>match S.o[id]? with
            | some (.arr fl' sz rows)=>bG (Nat.beq sz i.size&&(fl||!fl')) (
              match Nat.ble src.length ext with
              | true=>bG (Nat.ble (off + len + ext) rows.length) (bi (S.o.set id (.arr (fl'&&fl) sz (rows.take (off + len)++(src++rows.drop (off + len + src.length))))) fun o=>k { t:=S.t,l:=S.l,o:=o,b:=S.b } (.msl id off (len + src.length) (ext - src.length)))
              | false=>bG (Nat.ble ((len + src.length) * i.bytes) 140737488355328) (qb S id (.arr (fl'&&fl) sz ((rows.drop off).take len++src)) fun S' id'=>k S' (.mf id')))
            | _=>af 49
          | _=>af 50))
      | none=>af 51
    | _=>af 52
  | _=>af 53
def JA:St:={ t:=[],l:=[],o:=[],b:=0 }
def kW (P:Program) (ts:List TypeId) (base x:AV) (k:AV→Prop):Prop :=
  match ts with
  | [t0,t1] =>
    match P.underlying t0 with
    | some (.slice e) =>
      match P.info? e with
      | some i=>bG (Nat.blt 0 i.size&&Nat.blt 0 i.bytes&&Ia i&&(match P.underlying t1 with | some (.slice _) | some .string=>true | _=>false)) (jR i.size JA x fun fl src=>bG (fl&&aO src&&Nat.ble (src.length * i.bytes) 140737488355328) (
          match base with
          | .nilsl | .esl=>k (.sl src)
          | _=>af 254))
      | none=>af 255
    | _=>af 256
  | _=>af 257
def kX (P:Program) (ts:List TypeId) (base:AV) (n:Int) (S:St) (k:St→AV→Prop):Prop :=
  match ts with
  | [t0,t1] =>
    match P.underlying t0,P.underlying t1 with
    | some (.slice e),some (.int _) =>
      match P.info? e with
      | some i=>bG (Nat.blt 0 i.size&&Nat.blt 0 i.bytes&&decide (0<n)&&decide (n * i.bytes≤140737488355328)&&decide (n≤140737488355328)) (cE P e fun z=>bG (z.all (dj 2)) (
          match base with
          | .nilsl | .esl=>bi (S.o++[.arr true i.size (List.replicate n.toNat z)]) fun o=>k { t:=S.t,l:=S.l,o:=o,b:=S.b } (.mf S.o.length)
          | _=>af 250))
      | none=>af 251
    | _,_=>af 252
  | _=>af 253
def FF (P:Program) (ts:List TypeId) (x:AV) (k:AV→Prop):Prop :=
  match ts with
  | t::_ =>
    match P.underlying t with
    | some (.slice _)=>match x with
      | .nilsl | .esl=>k (.v (.int .i64 0))
      | _=>af 240
    | _=>af 241
  | []=>af 242
def JB:AV→Bool
  | .v _=>true
  | _=>false
def t9 (P:Program) (ts:List TypeId) (x y:AV) (M:St) (k:AV→St→Prop):Prop :=
  match ts with
  | t::_ =>
    match P.underlying t with
    | some (.slice e) =>
      match P.info? e with
      | some i=>bG (Nat.blt 0 i.size) (jR i.size M y fun fl src=>bG (aO src&&!(JB y)) (
          match x with
          | .mf id=>match M.o[id]? with
            | some (.arr fl' sz rows)=>bG (Nat.beq sz i.size) (bi (M.o.set id (.arr (fl'&&fl) sz (src.take rows.length++rows.drop src.length))) fun o=>k (.v (.int .i64 ((min src.length rows.length:Nat):Int))) { t:=M.t,l:=M.l,o:=o,b:=M.b })
            | _=>af 243
          | .msl id off len _=>match M.o[id]? with
            | some (.arr fl' sz rows)=>bG (Nat.beq sz i.size&&Nat.ble (off + len) rows.length) (bi (M.o.set id (.arr (fl'&&fl) sz (rows.take off++(src.take len++rows.drop (off + min src.length len))))) fun o=>k (.v (.int .i64 ((min src.length len:Nat):Int))) { t:=M.t,l:=M.l,o:=o,b:=M.b })
            | _=>af 244
          | _=>af 245))
      | none=>af 246
    | _=>af 247
  | []=>af 248
def ou (P:Program) (ts:List TypeId) (x:AV) (S:St) (K:St→Prop):Prop :=
  match ts with
  | t::_ =>
    match P.underlying t with
    | some (.slice e) =>
      match P.info? e with
      | some i=>bG (Nat.blt 0 i.size) (
          match x with
          | .nilsl | .esl=>K S
          | .msl id off len _=>match S.o[id]? with
            | some (.arr fl sz rows)=>bG (Nat.beq sz i.size&&Nat.ble (off + len) rows.length) (cE P e fun z=>bG (z.all (dj 2)&&z.all kV) (bi (S.o.set id (.arr (fl&&true) sz (rows.take off++(List.replicate len z++rows.drop (off + len))))) fun o=>K { t:=S.t,l:=S.l,o:=o,b:=S.b }))
            | _=>af 267
          | _=>af 268)
      | none=>af 269
    | _=>af 270
  | []=>af 271
def intOf (a:AV) (k:Int→Prop):Prop :=
  match a with
  | .v (.int _ n)=>k n
  | _=>af 60
def bQ (P:Program) (t:TypeId) (l c:AV) (S:St) (k:St→AV→Prop):Prop :=
  match P.underlying t with
  | some (.slice e) =>
    match P.info? e with
    | some i=>intOf l fun l=>intOf c fun c=>bG (decide (0≤l)&&decide (l≤c)&&decide (i.bytes * c≤140737488355328)&&decide (c≤140737488355328)&&Nat.blt 0 i.size)
        (cE P e fun z=>bG (z.all (dj 2)) (bi (S.o++[.arr true i.size (List.replicate l.toNat z)]) fun o=>k { t:=S.t,l:=S.l,o:=o,b:=S.b } (.mf S.o.length)))
    | none=>af 61
  | _=>af 62
def sU (len cap:Nat) (lo hi mx:Option Int) (k:Nat→Nat→Nat→Prop):Prop :=
  match lo,hi,mx with
  | none,none,none=>k 0 len cap
  | some l,none,none=>bG (decide (0≤l)&&decide (l≤len)) (k l.toNat len cap)
  | none,some h,none=>bG (decide (0≤h)&&decide (h≤cap)) (k 0 h.toNat cap)
  | some l,some h,none=>bG (decide (0≤l)&&decide (l≤h)&&decide (h≤cap)) (k l.toNat h.toNat cap)
  | none,some h,some m=>bG (decide (0≤h)&&decide (h≤m)&&decide (m≤cap)) (k 0 h.toNat m.toNat)
  | some l,some h,some m=>bG (decide (0≤l)&&decide (l≤h)&&decide (h≤m)&&decide (m≤cap)) (k l.toNat h.toNat m.toNat)
  | _,_,_=>af 63
def d9:Option Int→Bool
  | some (.ofNat 0)=>true
  | _=>false
def ji (P:Program) (t:TypeId) (x:AV) (lo hi mx:Option Int) (S:St) (k:AV→Prop):Prop :=
  match P.underlying t with
  | some .string =>
    match x,mx with
    | .v (.string s),none=>sU s.size s.size lo hi none fun l h _=>k (.v (.string (s.extract l h)))
    | _,_=>af 64
  | some (.slice e) =>
    match P.info? e with
    | some i=>bG (Nat.blt 0 i.size) (
      match x with
      | .nilsl=>sU 0 0 lo hi mx fun _ _ _=>k .nilsl
      | .esl=>sU 0 0 lo hi mx fun _ _ _=>k .esl
      | .sl rows=>bG (cx i.size rows) (sU rows.length rows.length lo hi mx fun l h _ =>
        match lo,hi,d9 hi&&d9 mx with
        | _,_,true=>k .esl
        | none,none,_=>k (.sl rows)
        | _,none,_=>k (.sl (rows.drop l))
        | none,_,_=>k (.sl (rows.take h))
        | _,_,_=>k (.sl ((rows.drop l).take (h - l))))
      | .mf id=>match S.o[id]? with
        | some (.arr _ sz rows)=>bG (Nat.beq sz i.size) (sU rows.length rows.length lo hi mx fun l h m =>
          match lo,hi,d9 hi&&d9 mx with
          | _,_,true=>k .esl
          | none,none,_=>k (.mf id)
          | _,none,_=>k (.msl id l (rows.length - l) 0)
          | _,_,_=>k (.msl id l (h - l) (m - h)))
        | _=>af 65
      | .msl id off len ext=>match S.o[id]? with
        | some (.arr _ sz _)=>bG (Nat.beq sz i.size) (sU len (len + ext) lo hi mx fun l h m =>
          match d9 hi&&d9 mx with
          | true=>k .esl
          | false=>k (.msl id (l + off) (h - l) (m - h)))
        | _=>af 66
      | _=>af 67)
    | none=>af 68
  | some (.array n e) =>
    match P.info? e,x with
    | some i,.ptr key 0 j=>bG (Nat.beq i.size 1) (sU n n lo hi mx fun l h m=>bG (Nat.blt l m) (k (.bsl key (j + l) (h - l))))
    | _,_=>af 263
  | _=>af 69
def hZ (P:Program) (t:TypeId) (x ix:AV) (S:St) (k:AV→Prop):Prop :=
  intOf ix fun i =>
  match P.underlying t with
  | some (.slice e) =>
    match P.info? e with
    | some inf =>
      match x with
      | .sl rows=>match (if 0≤i then rows[i.toNat]? else none) with
        | some row=>bG (Nat.beq row.length inf.size&&Nat.blt 0 inf.size) (k (.fptr row 0))
        | none=>af 70
      | .mf id=>match S.o[id]? with
        | some (.arr _ _ rows)=>match (if 0≤i then rows[i.toNat]? else none) with
          | some row=>bG (Nat.beq row.length inf.size&&Nat.blt 0 inf.size) (k (.ptr (.O id) i.toNat 0))
          | none=>af 71
        | some (.own none _ cells _)=>bG (decide (0≤i)&&Nat.blt i.toNat cells.length&&Nat.beq inf.size 1) (k (.ptr (.O id) i.toNat 0))
        | _=>af 72
      | .msl id off len _=>match S.o[id]? with
        | some (.arr _ _ rows)=>bG (decide (0≤i)&&decide (i<len)) (match rows[i.toNat + off]? with
          | some row=>bG (Nat.beq row.length inf.size&&Nat.blt 0 inf.size) (k (.ptr (.O id) (i.toNat + off) 0))
          | none=>af 73)
        | _=>af 74
      | .bsl key off len=>bG (decide (0≤i)&&decide (i<len)&&Nat.beq inf.size 1) (k (.ptr key 0 (off + i.toNat)))
      | _=>af 75
    | none=>af 76
  | some (.array len e) =>
    match P.info? e with
    | some inf=>bG (decide (0≤i)&&decide (i<len)) (
      match x with
      | .ptr key a j=>k (.ptr key a (i.toNat * inf.size + j))
      | .fptr row j=>k (.fptr row (i.toNat * inf.size + j))
      | _=>af 77)
    | none=>af 78
  | _=>af 79
def qE (P:Program) (t:TypeId) (x ix:AV) (k:AV→Prop):Prop :=
  intOf ix fun i =>
  match P.underlying t,x with
  | some (.array len e),.agg cs=>match P.info? e with
    | some inf=>bG (decide (0≤i)&&decide (i<len)) (iL P e cs (i.toNat * inf.size) k)
    | none=>af 80
  | some .string,.v (.string s)=>match (if 0≤i then s[i.toNat]? else none) with
    | some b=>k (.v (.int .u8 b.toNat))
    | none=>af 81
  | _,_=>af 82
def kY (P:Program) (t:TypeId) (x:AV) (f:Nat) (k:AV→Prop):Prop :=
  match P.underlying t with
  | some (.struct fs)=>match fs[f]? with
    | some fl=>match P.info? fl.type with
      | some inf=>bG (Nat.blt 0 inf.size) (match x with
        | .ptr key i j=>k (.ptr key i (j + fl.offset))
        | .fptr row j=>k (.fptr row (j + fl.offset))
        | _=>af 83)
      | none=>af 84
    | none=>af 85
  | _=>af 86
def vK (P:Program) (t:TypeId) (x:AV) (f:Nat) (k:AV→Prop):Prop :=
  match P.underlying t,x with
  | some (.struct fs),.agg cs=>match fs[f]? with
    | some fl=>iL P fl.type cs fl.offset k
    | none=>af 87
  | _,_=>af 88
def bytesOf:List (List AV)→Option (List UInt8)
  | []=>some []
  | [.v (.int .u8 n)]::rs=>match bytesOf rs with | some bs=>some (UInt8.ofNat n.toNat::bs) | none=>none
  | _=>none
def ov (P:Program) (src dst:TypeId) (x:AV) (k:AV→Prop):Prop :=
  match P.underlying src,P.underlying dst with
  | some _,some (.int kd)=>match x with | .v (.int _ n)=>k (.v (.int kd (kd.wrap n))) | _=>af 89
  | some .string,some .string=>match x with | .v (.string s)=>k (.v (.string s)) | _=>af 90
  | _,_=>af 92
def fx (P:Program) (src dst:TypeId) (x:AV) (S:St) (k:AV→Prop):Prop :=
  match P.underlying src,P.underlying dst with
  | some (.slice e),some .string =>
    match P.underlying e with
    | some (.int .u8)=>bG (!(JB x)) (jR 1 S x fun _ rows=>match bytesOf rows with | some bs=>k (.v (.string ⟨bs.toArray⟩)) | none=>af 261)
    | _=>af 262
  | _,_=>ov P src dst x k
def qF (S:St) (x:AV):Bool :=
  match x with
  | .mf id=>match S.o[id]? with
    | some (.arr _ _ (_::_))=>true
    | _=>false
  | .mfx _ | .nn | .ene=>true
  | .sl (_::_)=>true
  | .msl _ _ len ext=>Nat.blt 0 (len + ext)
  | _=>false
def t_ (P:Program) (op:BinOp) (t:TypeId) (x y:AV) (S:St) (k:AV→Prop):Prop :=
  match qF S x,y with
  | true,.nilsl=>match P.underlying t,op with
    | some (.slice _),.eql=>k (.v (.bool false))
    | some (.slice _),.neq=>k (.v (.bool true))
    | _,_=>af 265
  | _,_=>Cd P op t x y k
def jS {α β:Type} (f:α→Option β):List α→Option (List β)
  | []=>some []
  | x::xs=>match f x,jS f xs with
    | some y,some ys=>some (y::ys)
    | _,_=>none
def sV (f:AV→Option AV) (fl:Bool) (rows:List (List AV)):Option (List (List AV)) :=
  match fl with
  | true=>some rows
  | false=>jS (jS f) rows
def Ib (f:AV→Option AV) (fl:Bool) (row:List AV):Option (List AV) :=
  match fl with
  | true=>some row
  | false=>jS f row
def B7 (o:List Ob):Nat→AV→Option AV
  | 0,_=>none
  | n + 1,a =>
    match a with
    | .v x=>some (.v x)
    | .nilp=>some .nilp
    | .fptr r j=>some (.fptr r j)
    | .nilsl=>some .nilsl
    | .esl=>some (.sl [])
    | .sl r=>some (.sl r)
    | .nilmap=>some .nilmap
    | .nilfn=>some .nilfn
    | .mf id=>match o[id]? with
      | some (.arr fl _ rows)=>match sV (B7 o n) fl rows with | some r=>some (.sl r) | none=>none
      | _=>none
    | .msl id off len _=>match o[id]? with
      | some (.arr fl _ rows)=>match sV (B7 o n) fl ((rows.drop off).take len) with | some r=>some (.sl r) | none=>none
      | _=>none
    | .ptr (.O id) i j=>match o[id]? with
      | some (.arr fl _ rows)=>match rows[i]? with
        | some row=>match Ib (B7 o n) fl row with | some r=>some (.fptr r j) | none=>none
        | none=>none
      | _=>none
    | .fn f x y=>match jS (B7 o n) x,jS (B7 o n) y with | some x',some y'=>some (.fn f x' y') | _,_=>none
    | .agg cs=>match jS (B7 o n) cs with | some r=>some (.agg r) | none=>none
    | .tup cs=>match jS (B7 o n) cs with | some r=>some (.tup r) | none=>none
    | _=>none
def dq (o:List Ob):Nat→AV→List Nat
  | 0,_=>[]
  | n + 1,a =>
    match a with
    | .mf id=>id::(match o[id]? with | some (.arr false _ rows)=>rows.flatten.flatMap (dq o n) | _=>[])
    | .msl id off len _=>id::(match o[id]? with | some (.arr false _ rows)=>((rows.drop off).take len).flatten.flatMap (dq o n) | _=>[])
    | .ptr (.O id) i _=>id::(match o[id]? with | some (.arr false _ rows)=>(match rows[i]? with | some row=>row.flatMap (dq o n) | none=>[]) | _=>[])
    | .fn _ x y=>x.flatMap (dq o n)++y.flatMap (dq o n)
    | .agg cs | .tup cs=>cs.flatMap (dq o n)
    | _=>[]
def zy (o:List Ob) (a:AV) (k:AV→Prop):Prop :=
  match B7 o 6 a with
  | some b=>jh b k
  | none=>af 96
def i_ (o:List Ob):List AV→(List AV→Prop)→Prop
  | [],k=>k []
  | a::as,k=>zy o a fun b=>i_ o as fun bs=>k (b::bs)
def eN:List Nat→St→(St→Prop)→Prop
  | [],S,K=>K S
  | id::ids,S,K=>mK (.O id) S.t fun t=>m6 (.O id) S.l fun l=>iK (.O id) S.o fun o=>bi (o.set id .dead) fun o'=>eN ids { t:=t,l:=l,o:=o',b:=S.b } K
def bY:List Ob→List Ob→Nat→List Nat
  | .dead::xs,_::ys,n=>bY xs ys (n + 1)
  | _::xs,.dead::ys,n=>n::bY xs ys (n + 1)
  | _::xs,_::ys,n=>bY xs ys (n + 1)
  | _,_,_=>[]
def j_:List Nat→List AV→List (Nat×List AV)→(List AV→List (Nat×List AV)→Prop)→Prop
  | [],t,l,K=>K t l
  | id::ids,t,l,K=>mK (.O id) t fun t'=>m6 (.O id) l fun l'=>j_ ids t' l' K
def yq (C:Ctx) (f:AV) (args:List AV) (S:St) (k:St→AV→Prop):Prop :=
  match f with
  | .fn fid first cap =>
    match C.pure fid with
    | true=>i_ S.o (first++args++cap) fun as=>C.pcall fid as fun r =>
        match vD 4 r with
        | true=>k S r
        | false=>eN ((first++args++cap).flatMap (dq S.o 6)) S fun S'=>k S' r
    | false=>bG ((first++args++cap).all (uM 4)) (C.scall fid (first++args++cap) S.o fun r o'=>j_ (bY S.o o' 0) S.t S.l fun t l=>k { t:=t,l:=l,o:=o',b:=S.b } r)
  | _=>af 97
def B8:AV→Option Value
  | .v x=>some x
  | .agg cs=>match uN cs with | some xs=>some (.agg xs.toArray) | none=>none
  | _=>none
def keysOf:List (AV×AV)→Option (List MapEntry)
  | []=>some []
  | (k,_)::es=>match B8 k,keysOf es with
    | some x,some xs=>some ({ key:=x,val:=.bool false,born:=0 }::xs)
    | _,_=>none
def lQ (P:Program) (kt:TypeId) (key:AV) (es:List (AV×AV)) (k:Value→Option Nat→Prop):Prop :=
  match B8 key,keysOf es with
  | some x,some xs =>
    match aA P (Instr.checkKey xs.isEmpty 10000 kt x),aA P (Instr.findKey kt x xs) with
    | some _,some r=>k x (r.map (·.1))
    | _,_=>af 98
  | _,_=>af 99
def ox (ok:Bool) (x:AV) (b:Bool) (k:AV→Prop):Prop :=
  match ok with
  | true=>k (.tup [x,.v (.bool b)])
  | false=>k x
def kg (P:Program) (e:TypeId) (ok:Bool) (k:AV→Prop):Prop :=
  match P.info? e with
  | some i=>match i.zero with
    | some z=>jh (Es z) fun z=>ox ok z false k
    | none=>af 230
  | none=>af 231
def pF (P:Program) (e:TypeId) (ok:Bool) (es:List (AV×AV)) (r:Option Nat) (k:AV→Prop):Prop :=
  match r with
  | some i=>match es[i]? with
    | some en=>ox ok en.2 true k
    | none=>af 232
  | none=>kg P e ok k
def pG (P:Program) (t:TypeId) (m key:AV) (ok:Bool) (S:St) (k:AV→Prop):Prop :=
  match P.underlying t with
  | some (.map kt e) =>
    match m with
    | .nilmap=>lQ P kt key [] fun _ _=>kg P e ok k
    | .mp id=>match S.o[id]? with
      | some (.mapo _ es)=>lQ P kt key es fun _ r=>pF P e ok es r k
      | _=>af 233
    | _=>af 234
  | _=>af 235
def Et (P:Program) (kt:TypeId) (x:Value):Bool:=match aA P (Instr.checkKey false 10000 kt x) with | some _=>true | none=>false
def et (P:Program) (t:TypeId) (m key x:AV) (S:St) (K:St→Prop):Prop :=
  match P.underlying t with
  | some (.map kt _) =>
    match m with
    | .mp id=>match S.o[id]? with
      | some (.mapo fl es)=>bG (uM 4 x) (lQ P kt key es fun kv r=>bG (Et P kt kv) (
          match r with
          | some i=>bG (Instr.sameBits 10000 ((es[i]?.bind fun e=>B8 e.1).getD (.bool false)) kv) (bi (S.o.set id (.mapo (fl&&dj 4 x) (es.set i (key,x)))) fun o=>K { t:=S.t,l:=S.l,o:=o,b:=S.b })
          | none=>bi (S.o.set id (.mapo (fl&&dj 4 x) (es++[(key,x)]))) fun o=>K { t:=S.t,l:=S.l,o:=o,b:=S.b }))
      | _=>af 106
    | _=>af 107
  | _=>af 108
def pop (C:Ctx) (pl:bK) (o:Oper) (vs:List AV) (k:AV→Prop):Prop :=
  match o.op,vs with
  | .move _,[a]=>k a
  | .assign _,[a]=>k a
  | .pick _ _ _,[.v (.bool c),a,b]=>AB c (k a) (k b)
  | .build t parts,vs=>bG (Nat.beq parts.size vs.length) (vH C.P t ((parts.toList.map (·.1)).zip vs) k)
  | .buildSlice t len parts,vs=>bG (Nat.beq parts.size vs.length) (ot C.P pl o.dst t len ((parts.toList.map (·.1)).zip vs) k)
  | .nilCheck _,[.ptr x i j]=>k (.ptr x i j)
  | .nilCheck _,[.fptr r j]=>k (.fptr r j)
  | .nilCheck _,[.fn f x y]=>k (.fn f x y)
  | .binOp op t _ _ _,[a,b]=>Cd C.P op t a b k
  | .unOp op _ _,[a]=>JM op a k
  | .makeFunc f first cap,vs=>match f with
    | .func fid=>bG (Nat.beq (first.size + cap.size) vs.length) (iJ (vs.take first.size) fun xs=>iJ (vs.drop first.size) fun ys=>k (.fn fid xs ys))
    | _=>af 201
  | .fieldAddr t _ f,[a]=>kY C.P t a f k
  | .field t _ f,[a]=>vK C.P t a f k
  | .index t _ _,[a,i]=>qE C.P t a i k
  | .extract _ ix,[.tup xs]=>qD xs ix k
  | .call c,vs=>match c.callee,vs with
    | .builtin .min,[.v (.int a m),.v (.int b n)]=>bG (decide (a=b)) (k (.v (.int a (if n<m then n else m))))
    | .builtin .max,[.v (.int a m),.v (.int b n)]=>bG (decide (a=b)) (k (.v (.int a (if n>m then n else m))))
    | .builtin .cap,[x]=>FF C.P c.argTypes.toList x k
    | _,_=>af 204
  | _,_=>af 207
def pY (C:Ctx) (o:Oper) (vs:List AV) (M:St) (k:AV→Prop):Prop :=
  match o.op,vs with
  | .load t _,[p]=>Fy M p fun row j=>iL C.P t row j k
  | .convert src dst _,[a]=>fx C.P src dst a M k
  | .slice t _ lo hi mx,a::rest =>
    match lo,hi,mx,rest with
    | none,none,none,[]=>ji C.P t a none none none M k
    | some _,none,none,[x]=>intOf x fun x=>ji C.P t a (some x) none none M k
    | none,some _,none,[y]=>intOf y fun y=>ji C.P t a none (some y) none M k
    | some _,some _,none,[x,y]=>intOf x fun x=>intOf y fun y=>ji C.P t a (some x) (some y) none M k
    | none,some _,some _,[y,z]=>intOf y fun y=>intOf z fun z=>ji C.P t a none (some y) (some z) M k
    | some _,some _,some _,[x,y,z]=>intOf x fun x=>intOf y fun y=>intOf z fun z=>ji C.P t a (some x) (some y) (some z) M k
    | _,_,_,_=>af 202
  | .binOp op t _ _ _,[a,b]=>t_ C.P op t a b M k
  | .indexAddr t _ _,[a,i]=>hZ C.P t a i M k
  | .lookup t _ _ ok,[m,key]=>pG C.P t m key ok M k
  | .call c,vs=>match c.callee with
    | .builtin b=>match b,vs with
      | .len,[x]=>match c.argTypes.toList with | t::_=>FE C.P t M x k | []=>af 203
      | _,_=>af 204
    | .value _=>match vs with
      | .fn fid first cap::as=>bG (C.pure fid) (i_ M.o (first++as++cap) fun bs=>C.pcall fid bs fun r=>bG (vD 4 r||((first++as++cap).flatMap (dq M.o 6)).isEmpty) (k r))
      | _=>af 205
    | .invoke _ _=>af 206
  | _,_=>af 207
def vL (P:Program) (t:TypeId) (l c:AV) (k:AV→Prop):Prop :=
  bQ P t l c JA fun S' _=>match S'.o with
    | [.arr _ _ rows]=>k (.sl rows)
    | _=>af 312
def IK (C:Ctx) (o:Oper) (vs:List AV) (k:AV→Prop):Prop :=
  match o.op,vs with
  | .call c,[x,y]=>match c.callee with
    | .builtin .append=>kW C.P c.argTypes.toList x y k
    | _=>af 258
  | .makeSlice t _ _,[l,c]=>vL C.P t l c k
  | _,_=>af 259
def yr (C:Ctx) (o:Oper) (vs:List AV) (M:St) (k:AV→St→Prop):Prop :=
  match o.op,vs with
  | .store t _ _,[p,y]=>m7 y fun cs=>match C.P.info? t with
    | some i=>bG (Nat.beq cs.length i.size) (ma M p cs fun M'=>k .bad M')
    | none=>af 208
  | _,_=>af 209
def cY (S:St):St:={ t:=[],l:=S.l,o:=S.o,b:=S.b }
def fg (S M:St):St:={ t:=S.t,l:=M.l,o:=M.o,b:=M.b }
def addrOf (o:Oper):Option Nat :=
  match o.op with
  | .load _ (.tmp t)=>some t
  | .store _ (.tmp t) _=>some t
  | _=>none
def fX (pl:bK) (o:Oper):Bool :=
  match o.op with
  | .load _ (.tmp t)=>cV pl.ow t
  | .store _ (.tmp t) _=>cV pl.ow t
  | .makeSlice _ _ _=>cV pl.ow (o.dst.getD 0)
  | .makeMap _ _=>cV pl.ow (o.dst.getD 0)
  | .lookup _ _ _ _=>cV pl.ow (o.dst.getD 0)
  | .mapUpdate _ (.tmp t) _ _=>cV pl.ow t
  | .insert _ (.tmp t) _ _=>cV pl.ow t
  | _=>false
def Dn (pl:bK) (o:Oper):Bool :=
  match addrOf o with
  | some t=>cV pl.oh t
  | none=>false
def iM (S:St) (id:Nat) (K:St→Prop):Prop :=
  match S.o[id]? with
  | some (.own ks sz cells (some (j,.nilsl)))=>bG (Nat.blt j cells.length) (bi (S.o.set id (.own ks sz (cells.set j none) none)) fun o=>K { t:=S.t,l:=S.l,o:=o,b:=S.b })
  | some (.own ks sz cells (some (j,.mf k)))=>match S.o[k]? with
    | some (.arr true sz' rows)=>bG (Nat.beq sz' (vC sz)&&Nat.blt j cells.length&&!Ay sz) (eN [k] S fun S1=>bi (S1.o.set id (.own ks sz (cells.set j (some rows)) none)) fun o=>K { t:=S1.t,l:=S1.l,o:=o,b:=S1.b })
    | _=>af 320
  | some (.own ks sz cells (some (j,.mfx k)))=>match S.o[k]? with
    | some (.arr true sz' rows)=>bG (Nat.beq sz' (vC sz)&&Nat.blt j cells.length) (eN [k] S fun S1=>bi (S1.o.set id (.own ks sz (cells.set j (some rows)) none)) fun o=>K { t:=S1.t,l:=S1.l,o:=o,b:=S1.b })
    | _=>af 320
  | some (.own _ _ _ (some _))=>af 321
  | _=>K S
def m9:List Nat→St→(St→Prop)→Prop
  | [],S,K=>K S
  | id::ids,S,K=>iM S id fun S'=>m9 ids S' K
def mb:Option (List (List AV))→AV
  | none=>.nilsl
  | some rows=>.sl rows
def oy:List AV→List (Option (List (List AV)))→List (AV×AV)
  | k::ks,c::cs=>(k,mb c)::oy ks cs
  | _,_=>[]
def kB (S:St) (id:Nat) (K:St→Prop):Prop :=
  match S.o[id]? with
  | some (.own (some ks) _ cells none)=>bi (S.o.set id (.mapo true (oy ks cells))) fun o=>K { t:=S.t,l:=S.l,o:=o,b:=S.b }
  | some (.own none _ cells none)=>bi (S.o.set id (.arr true 1 (cells.map fun c=>[mb c]))) fun o=>K { t:=S.t,l:=S.l,o:=o,b:=S.b }
  | _=>K S
def kZ:List Nat→St→(St→Prop)→Prop
  | [],S,K=>K S
  | id::ids,S,K=>kB S id fun S'=>kZ ids S' K
def Ce:Nat→List Nat
  | 0=>[]
  | n + 1=>n::Ce n
def kp (pl:bK) (id:Nat) (S:St) (K:St→Prop):Prop :=
  match cV pl.cl id with
  | false=>K S
  | true=>m9 (Ce S.o.length) S fun S1=>match cV pl.fr id with
    | false=>K S1
    | true=>kZ (Ce S1.o.length) S1 K
def fh (M:St) (pk:Bool) (id i:Nat) (k:AV→St→Prop):Prop :=
  match M.o[id]? with
  | some (.own ks sz cells none)=>match cells[i]? with
    | some none=>k .nilsl M
    | some (some rows)=>match pk&&Ay sz with
      | true=>k .nn M
      | false=>jh (Fx sz M.o.length) fun h=>bi (M.o.set id (.own ks sz cells (some (i,h)))++[.arr true (vC sz) rows]) fun o=>k (.mf M.o.length) { t:=M.t,l:=M.l,o:=o,b:=M.b }
    | none=>af 322
  | _=>af 323
def iN (P:Program) (t:TypeId) (same pk:Bool) (M:St) (id i:Nat) (k:AV→St→Prop):Prop :=
  match same with
  | true=>match M.o[id]? with
    | some (.own none _ cells (some (j,a)))=>bG (Nat.beq i j&&Nat.blt j cells.length) (iL P t [KO a] 0 fun r=>k r M)
    | _=>af 324
  | false=>fh M pk id i fun a M'=>iL P t [a] 0 fun r=>k r M'
def Cf (v:AV):Bool:=match v with | .nilsl=>true | .mf _=>true | _=>false
def Hn (sz:Nat) (v:AV):Bool:=match v with | .nilsl=>true | .mf _=>!Ay sz | .mfx _=>true | _=>false
def kh (hole:Option (Nat×AV)) (i:Nat):Bool :=
  match hole with
  | none=>true
  | some (j,_)=>Nat.beq i j
def gm (P:Program) (t:TypeId) (M:St) (id i:Nat) (v:AV) (K:St→Prop):Prop :=
  match P.info? t,M.o[id]? with
  | some inf,some (.own none sz cells hole)=>bG (Hn sz v&&Nat.blt i cells.length&&Nat.beq inf.size 1&&kh hole i) (bi (M.o.set id (.own none sz cells (some (i,v)))) fun o=>K { t:=M.t,l:=M.l,o:=o,b:=M.b })
  | _,_=>af 325
def gM (P:Program) (nw:Bool) (j:Nat) (t:TypeId) (l c:AV) (M:St) (k:AV→St→Prop):Prop :=
  match P.underlying t with
  | some (.slice e) =>
    match P.info? e,P.underlying e with
    | some i,some (.slice e2)=>match P.info? e2 with
      | some i2=>intOf l fun l=>intOf c fun c=>bG (decide (0≤l)&&decide (l≤c)&&decide (i.bytes * c≤140737488355328)&&decide (c≤140737488355328)&&Nat.blt 0 i.size&&Nat.beq i.size 1&&(Nat.blt 0 i2.size&&Nat.blt i2.size 65536))
          (cE P e fun z=>match z with
            | [.nilsl]=>oq j M.o M.b (.own none (match nw with | true=>i2.size + 65536 | false=>i2.size) (List.replicate l.toNat none) none) fun o=>k (.mf j) { t:=M.t,l:=M.l,o:=o,b:=M.b }
            | _=>af 325)
      | none=>af 326
    | _,_=>af 61
  | _=>af 62
def fY (P:Program) (t:TypeId) (M:St) (k:AV→St→Prop):Prop :=
  match P.underlying t with
  | some (.map _ e)=>match P.underlying e with
    | some (.slice e2)=>match P.info? e2 with
      | some i2=>bG ((Nat.blt 0 i2.size&&Nat.blt i2.size 65536)) (bi (M.o++[.own (some []) i2.size [] none]) fun o=>k (.mp M.o.length) { t:=M.t,l:=M.l,o:=o,b:=M.b })
      | none=>af 336
    | _=>af 337
  | _=>af 338
def lR:List AV→List (AV×AV)
  | []=>[]
  | k::ks=>(k,.bad)::lR ks
def iO (P:Program) (t:TypeId) (m key:AV) (ok:Bool) (M:St) (k:AV→St→Prop):Prop :=
  match P.underlying t with
  | some (.map kt e)=>match m with
    | .mp id=>match M.o[id]? with
      | some (.own (some ks) _ _ none)=>lQ P kt key (lR ks) fun _ r=>match r with
        | some i=>fh M false id i fun a M'=>ox ok a true fun r=>k r M'
        | none=>kg P e ok fun r=>k r M
      | _=>af 333
    | _=>af 334
  | _=>af 335
def jG (P:Program) (t:TypeId) (m key x:AV) (M:St) (K:St→Prop):Prop :=
  match P.underlying t with
  | some (.map kt _)=>match m with
    | .mp id=>match M.o[id]? with
      | some (.own (some ks) sz cells hole)=>bG (Cf x&&!Ay sz) (lQ P kt key (lR ks) fun kv r=>bG (Et P kt kv) (match r with
          | some i=>bG (Instr.sameBits 10000 ((ks[i]?.bind B8).getD (.bool false)) kv&&kh hole i) (bi (M.o.set id (.own (some (ks.set i key)) sz cells (some (i,x)))) fun o=>K { t:=M.t,l:=M.l,o:=o,b:=M.b })
          | none=>match hole with
            | none=>bi (M.o.set id (.own (some (ks++[key])) sz (cells++[none]) (some (cells.length,x)))) fun o=>K { t:=M.t,l:=M.l,o:=o,b:=M.b }
            | some _=>af 339))
      | _=>af 340
    | _=>af 341
  | _=>af 342
def jj (M:St) (p:AV) (k:Nat→Nat→Prop):Prop :=
  match p with
  | .ptr (.O id) i 0=>match M.o[id]? with
    | some (.own none _ _ _)=>k id i
    | _=>af 331
  | _=>af 332
def lJ (P:Program) (pl:bK) (o:Oper) (vs:List AV) (M:St) (k:AV→St→Prop):Prop :=
  match o.op,vs with
  | .load t _,[p]=>jj M p fun id i=>iN P t (Dn pl o) (cV pl.pk (o.dst.getD 0)) M id i k
  | .store t _ _,[p,v]=>jj M p fun id i=>gm P t M id i v fun M'=>k .bad M'
  | .makeSlice t _ _,[l,c]=>gM P (cV pl.nw (o.dst.getD 0)) (vG pl.ix o.dst M.o.length) t l c M k
  | .makeMap t none,[]=>fY P t M k
  | .lookup t _ _ ok,[m,key]=>iO P t m key ok M k
  | .mapUpdate t _ _ _,[m,key,x]=>jG P t m key x M fun M'=>k .bad M'
  | .insert t _ _ _,[m,key,x]=>jG P t m key x M fun M'=>k .bad M'
  | _,_=>af 330
def sX (C:Ctx) (pl:bK) (o:Oper) (S:St) (K:St→Prop):Prop :=
  dp S o.op.operands.toList fun vs=>lJ C.P pl o vs (cY S) fun r M=>bB o.dst r (fg S M) K
def FG (x:Operand):Bool :=
  match x with
  | .const (.slice none 0 0)=>true
  | _=>false
def FH (o:Oper):Nat :=
  match o.op with
  | .binOp _ _ _ y _=>match FG y with | true=>1 | false=>0
  | .move _ | .assign _ | .pick _ _ _ | .build _ _ | .nilCheck _ | .unOp _ _ _ | .makeFunc _ _ _ | .fieldAddr _ _ _ | .field _ _ _ | .index _ _ _ | .extract _ _=>0
  | .load _ _ | .convert _ _ _ | .slice _ _ _ _ _ | .indexAddr _ _ _ | .lookup _ _ _ _=>1
  | .store _ _ _=>2
  | .call c=>match c.callee with
    | .builtin .min | .builtin .max | .builtin .cap=>0
    | .builtin .len=>1
    | _=>3
  | _=>3
def yu (pl:bK) (o:Oper):Nat :=
  match o.op with
  | .buildSlice _ _ _=>match cV pl.ms (o.dst.getD 0) with | true=>3 | false=>0
  | .alloc _=>4
  | .makeSlice _ _ _=>match cV pl.fz (o.dst.getD 0) with | true=>5 | false=>2
  | .call c=>match c.callee with
    | .value (.func f)=>match cV pl.dc f with | true=>2 | false=>match cV pl.st f with | true=>3 | false=>1
    | .value _=>1
    | .builtin .append=>match cV pl.fz (o.dst.getD 0) with | true=>5 | false=>3
    | _=>FH o
  | _=>FH o
def fC (pl:bK) (o:Oper):Nat :=
  match fX pl o with
  | true=>2
  | false=>yu pl o
def AE (pl:bK) (o:Oper):Bool :=
  match o.op with
  | .alloc _=>true
  | .box _ _=>!(cV pl.esc (o.dst.getD 0))
  | _=>false
def Eu (C:Ctx) (pl:bK) (o:Oper) (S:St) (K:St→Prop):Prop :=
  dp S o.op.operands.toList fun vs=>pop C pl o vs fun r=>bB o.dst r S K
def Ev (C:Ctx) (o:Oper) (S:St) (K:St→Prop):Prop :=
  dp S o.op.operands.toList fun vs=>pY C o vs (cY S) fun r=>bB o.dst r S K
def Ew (C:Ctx) (o:Oper) (S:St) (K:St→Prop):Prop :=
  dp S o.op.operands.toList fun vs=>yr C o vs (cY S) fun r M=>bB o.dst r (fg S M) K
def Ey (C:Ctx) (o:Oper) (S:St) (K:St→Prop):Prop :=
  dp S o.op.operands.toList fun vs=>IK C o vs fun r=>bB o.dst r S K
def lS (C:Ctx) (o:Oper) (vs:List AV) (M:St) (k:AV→St→Prop):Prop :=
  match o.op,vs with
  | .makeSlice t _ _,[l,c]=>bQ C.P t l c M fun M' r=>k r M'
  | .call c,.fn fid first cap::as=>match c.callee with
    | .value _=>bG (!(C.pure fid)&&(first++as++cap).all (uM 4)) (C.scall fid (first++as++cap) M.o fun r o'=>bG (bY M.o o' 0).isEmpty (k r { t:=M.t,l:=M.l,o:=o',b:=M.b }))
    | _=>af 310
  | _,_=>yr C o vs M k
def m_ (C:Ctx) (pl:bK) (o:Oper) (vs:List AV) (M:St) (k:AV→St→Prop):Prop :=
  match fX pl o with
  | true=>lJ C.P pl o vs M k
  | false=>lS C o vs M k
def qc (C:Ctx) (pl:bK) (o:Oper) (S:St) (K:St→Prop):Prop :=
  dp S o.op.operands.toList fun vs=>m_ C pl o vs (cY S) fun r M=>bB o.dst r (fg S M) K
def vM (C:Ctx) (pl:bK) (o:Oper) (S:St) (K:St→Prop):Prop :=
  match o.op with
  | .alloc e=>cE C.P e fun cs=>AD pl o.dst cs S K
  | .box _ x=>cR S x fun a=>m7 a fun cs=>AD pl o.dst cs S K
  | .buildSlice t len parts=>dp S (parts.toList.map (·.2)) fun vs=>bG (Nat.beq parts.size vs.length) (jQ C.P pl o.dst t len ((parts.toList.map (·.1)).zip vs) S K)
  | .makeMap _ r=>match r with
    | none=>bi (S.o++[.mapo true []]) fun o'=>bB o.dst (.mp S.o.length) { t:=S.t,l:=S.l,o:=o',b:=S.b } K
    | some _=>af 209
  | .makeSlice t l c=>cR S l fun l=>cR S c fun c=>bQ C.P t l c S fun S' a=>bB o.dst (KC (cV pl.nn (o.dst.getD 0)) a) S' K
  | .mapUpdate t m key x=>cR S m fun m=>cR S key fun key=>cR S x fun x=>et C.P t m key x S fun S'=>bB o.dst .bad S' K
  | .insert t m key x=>cR S m fun m=>cR S key fun key=>cR S x fun x=>et C.P t m key x S fun S'=>bB o.dst .bad S' K
  | .call c=>match c.callee with
    | .builtin b=>match b with
      | .append=>dp S c.args.toList fun as=>match as with
        | [x,.v (.int _ n)]=>kX C.P c.argTypes.toList x n S fun S' r=>bB o.dst r S' K
        | [.ene,y]=>bG (cV pl.nn (o.dst.getD 0)) (jF C.P c.argTypes.toList .esl y S fun S' r=>bB o.dst (JK r) S' K)
        | [x,y]=>jF C.P c.argTypes.toList x y S fun S' r=>bB o.dst r S' K
        | _=>af 210
      | .copy=>dp S c.args.toList fun as=>match as with
        | [x,y]=>t9 C.P c.argTypes.toList x y S fun r S'=>bB o.dst r S' K
        | _=>af 211
      | .clear=>dp S c.args.toList fun as=>match as with
        | [x]=>ou C.P c.argTypes.toList x S fun S'=>bB o.dst (.tup []) S' K
        | _=>af 272
      | _=>af 212
    | .value f=>cR S f fun fv=>dp S c.args.toList fun as=>yq C fv as S fun S' r=>bB o.dst r S' K
    | .invoke _ _=>af 213
  | _=>af 214
def xE (C:Ctx) (pl:bK) (o:Oper) (S:St) (K:St→Prop):Prop :=
  match fC pl o with
  | 0=>Eu C pl o S K
  | 1=>Ev C o S K
  | 2=>qc C pl o S K
  | 4=>match o.dst with
    | some d=>bB o.dst (.ptr (.L d) 0 0) S K
    | none=>af 217
  | 5=>Ey C o S K
  | _=>match AE pl o with
    | true=>af 219
    | false=>vM C pl o S K
def zA (C:Ctx) (pl:bK) (o:Oper) (S:St) (K:St→Prop):Prop :=
  match FH o with
  | 0=>Eu C pl o S K
  | 1=>Ev C o S K
  | 2=>Ew C o S K
  | _=>vM C pl o S K
def FI (C:Ctx) (pl:bK) (o:Oper) (S:St) (K:St→Prop):Prop :=
  match fX pl o with
  | true=>sX C pl o S K
  | false=>zA C pl o S K
def zB:List Oper→Nat→Option Nat
  | [],_=>none
  | o::os,t =>
    match o.dst,o.op with
    | some d,.fieldAddr _ (.tmp t') _=>match Nat.beq d t with | true=>some t' | false=>zB os t
    | some d,.indexAddr _ (.tmp t') _=>match Nat.beq d t with | true=>some t' | false=>zB os t
    | _,_=>zB os t
def FJ (all:List Oper):Nat→Nat→Nat
  | 0,t=>t
  | n + 1,t=>match zB all t with
    | some t'=>FJ all n t'
    | none=>t
def fD (pl:bK) (all:Array Oper) (o:Oper):Option Nat :=
  match addrOf o with
  | some t=>match cV pl.bx (FJ all.toList 6 t) with
    | true=>some (FJ all.toList 6 t)
    | false=>none
  | none=>none
def oz (a:AV) (site:Option Nat):Bool :=
  match a,site with
  | .ptr (.L d) _ _,some r=>Nat.beq d r
  | .ptr (.O _) _ _,none=>true
  | .fptr _ _,none=>true
  | _,_=>false
def jk (pl:bK) (all:Array Oper) (o:Oper) (S:St):Bool :=
  match addrOf o with
  | some t=>match S.t[t]? with
    | some a=>oz a (fD pl all o)
    | none=>false
  | none=>true
def rD (all:Array Oper) (j:Nat):Option Nat:=(all[j]?).bind (·.dst)
def gn (d:Nat) (S:St) (k:Option Bool→St→Prop):Prop :=
  qD S.t d fun a =>
    match a with
    | .v (.bool b)=>AB b (sT S.t d (.v (.bool true)) fun t=>k (some true) { t:=t,l:=S.l,o:=S.o,b:=S.b }) (sT S.t d (.v (.bool false)) fun t=>k (some false) { t:=t,l:=S.l,o:=S.o,b:=S.b })
    | .tup []=>k none S
    | _=>af 4
def gsel (b:Option Bool) (want:Bool) (X Y:Prop):Prop :=
  match b,want with
  | some true,true=>X
  | some false,false=>X
  | _,_=>Y
def sY (C:Ctx) (pl:bK) (all:Array Oper):List Oper→St→(St→Prop)→Prop
  | [],S,K=>K S
  | o::rest,S,K =>
    match o.guard with
    | none=>FI C pl o S fun S'=>sY C pl all rest S' K
    | some (j,want) =>
      match rD all j with
      | none=>af 218
      | some d=>gn d S fun b S1=>gsel b want (FI C pl o S1 fun S'=>sY C pl all rest S' K) (bB o.dst (.tup []) S1 fun S'=>sY C pl all rest S' K)
def qG (C:Ctx) (pl:bK) (all:Array Oper) (o:Oper) (S:St) (K:St→Prop):Prop:=bG (jk pl all o S) (xE C pl o S K)
def ag (C:Ctx) (pl:bK) (all:Array Oper) (o:Oper) (S:St) (K:St→Prop):Prop :=
  match o.guard with
  | none=>qG C pl all o S K
  | some (j,want) =>
    match rD all j with
    | none=>af 218
    | some d=>gn d S fun b S1=>gsel b want (qG C pl all o S1 K) (bB o.dst (.tup []) S1 K)
def jl (pl:bK) (ai:Array Oper) (x y:Oper):Bool :=
  match fD pl ai x,fD pl ai y with
  | some a,some b=>!(Nat.beq a b)
  | some _,none=>true
  | none,some _=>true
  | none,none=>false
def vN (pl:bK) (ai:Array Oper) (x y:Oper):Bool :=
  Oper.apart ai x y&&(match fC pl x,fC pl y with
    | 2,0 | 0,2 | 0,0 | 0,1 | 1,0 | 1,1 | 4,0 | 4,1 | 4,2 | 4,4 | 0,4 | 1,4 | 2,4 | 5,0 | 5,1 | 5,2 | 5,4 | 5,5 | 0,5 | 1,5 | 2,5 | 4,5=>true
    | 1,2 | 2,1=>jl pl ai x y
    | _,_=>false)
def bZ:List Oper→List Nat→List Nat
  | [],acc=>acc
  | o::os,acc=>bZ os (acc++[o.after.toList.foldl (fun s e=>match Region.binds .any e with | true=>Nat.lor s (Nat.lor (Nat.pow 2 e.on) (acc.getD e.on 0)) | false=>s) 0])
def Do (pl:bK) (ai:Array Oper) (ws:List Nat) (listed:Array Bool) (i:Nat):Bool :=
  match ai[i]? with
  | none=>false
  | some oi=>(List.range ai.size).all fun j =>
    Nat.beq j i||listed.getD j true ||
      (match ai[j]? with
       | none=>true
       | some oj=>Nat.testBit (ws.getD j 0) i||vN pl ai oi oj)
def Cg (n:Nat):Bool :=
  match n with
  | 0 | 1 | 2 | 4 | 5=>true
  | _=>false
def oF (pl:bK) (ai:Array Oper) (ws:List Nat) (listed:Array Bool):List Nat→Option Nat
  | []=>none
  | i::is=>match (match ai[i]? with | some o=>Cg (fC pl o) | none=>false)&&Do pl ai ws listed i with
    | true=>some i
    | false=>oF pl ai ws listed is
def KP:Value→Value→Bool
  | .bool a,.bool b=>a==b
  | .int k a,.int l b=>decide (k=l)&&(a==b)
  | .string a,.string b=>a.data.toList==b.data.toList
  | _,_=>false
def KQ:Key→Key→Bool
  | .L a,.L b=>Nat.beq a b
  | .O a,.O b=>Nat.beq a b
  | _,_=>false
def AF {α:Type} (f:α→α→Bool):List α→List α→Bool
  | [],[]=>true
  | x::xs,y::ys=>f x y&&AF f xs ys
  | _,_=>false
def Ez:Nat→AV→AV→Bool
  | 0,_,_=>false
  | n + 1,x,y =>
    match x,y with
    | .bad,.bad=>true
    | .v a,.v b=>KP a b
    | .nilp,.nilp=>true
    | .ptr k i j,.ptr k' i' j'=>KQ k k'&&Nat.beq i i'&&Nat.beq j j'
    | .fptr r j,.fptr r' j'=>AF (Ez n) r r'&&Nat.beq j j'
    | .nilsl,.nilsl=>true
    | .esl,.esl=>true
    | .sl r,.sl r'=>AF (AF (Ez n)) r r'
    | .mf i,.mf j=>Nat.beq i j
    | .mfx i,.mfx j=>Nat.beq i j
    | .nn,.nn=>true
    | .ene,.ene=>true
    | .msl a b c d,.msl a' b' c' d'=>Nat.beq a a'&&Nat.beq b b'&&Nat.beq c c'&&Nat.beq d d'
    | .nilmap,.nilmap=>true
    | .mp i,.mp j=>Nat.beq i j
    | .nilfn,.nilfn=>true
    | .fn f x y,.fn f' x' y'=>Nat.beq f f'&&AF (Ez n) x x'&&AF (Ez n) y y'
    | .agg c,.agg d=>AF (Ez n) c d
    | .tup c,.tup d=>AF (Ez n) c d
    | _,_=>false
def IL:Ob→Ob→Bool
  | .arr a s r,.arr b s' r'=>(a==b)&&Nat.beq s s'&&AF (AF (Ez 8)) r r'
  | .mapo a e,.mapo b e'=>(a==b)&&AF (fun x y=>Ez 8 x.1 y.1&&Ez 8 x.2 y.2) e e'
  | .dead,.dead=>true
  | _,_=>false
def IM (S S':St):Bool :=
  AF (Ez 8) S.t S'.t&&AF (fun x y=>Nat.beq x.1 y.1&&AF (Ez 8) x.2 y.2) S.l S'.l&&AF IL S.o S'.o&&Nat.beq S.b S'.b
def yv (C:Ctx) (pl:bK) (ai:Array Oper) (i:Nat) (S:St) (K:St→Prop):Prop :=
  match ai[i]? with
  | none=>af 303
  | some o=>ag C pl ai o S K
def ua (S2 S1:St) (X:Prop):Prop :=
  match IM S2 S1 with
  | true=>X
  | false=>S2=S1∧X
def Ci (go:Nat→(St→Prop)→Prop):List Nat→St→Prop→Prop
  | [],_,X=>X
  | i::is,S1,X=>go i fun S2=>ua S2 S1 (Ci go is S1 X)
def jT (C:Ctx) (pl:bK) (ai:Array Oper) (ws:List Nat):Nat→Array Bool→St→(St→Prop)→Prop
  | 0,listed,S,K=>match Region.ready .any ai listed with
    | []=>K S
    | _::_=>af 304
  | n + 1,listed,S,K =>
    match Region.ready .any ai listed with
    | []=>K S
    | r::rs =>
      match oF pl ai ws listed (r::rs) with
      | some k=>yv C pl ai k S fun S'=>jT C pl ai ws n (listed.setIfInBounds k true) S' K
      | none=>yv C pl ai r S fun S'=>jT C pl ai ws n (listed.setIfInBounds r true) S' fun S1 =>
          Ci (fun i K'=>yv C pl ai i S fun S'=>jT C pl ai ws n (listed.setIfInBounds i true) S' K') rs S1 (K S1)
def sZ (o:Oper):Bool :=
  match o.guard with
  | some _=>false
  | none=>match o.op with
    | .move _ | .assign _ | .nilCheck _ | .fieldAddr _ _ _=>true
    | _=>false
def oG (ai:Array Oper) (listed:Array Bool):List Nat→Option Nat
  | []=>none
  | i::is=>match (match ai[i]? with | some o=>sZ o | none=>false)&&Region.free .any ai listed i with
    | true=>some i
    | false=>oG ai listed is
def uO (C:Ctx) (pl:bK) (ai:Array Oper) (ws:List Nat):Nat→Array Bool→St→(St→Prop)→Prop
  | 0,listed,S,K=>jT C pl ai ws 0 listed S K
  | n + 1,listed,S,K=>match oG ai listed (Region.ready .any ai listed) with
    | some i=>yv C pl ai i S fun S'=>uO C pl ai ws n (listed.setIfInBounds i true) S' K
    | none=>jT C pl ai ws (n + 1) listed S K
def Ic (ai:Array Oper):Bool:=Region.noSelect ai&&ai.toList.all fun o=>match o.op with | .defer _=>false | _=>true
def xG (C:Ctx) (pl:bK) (ai:Array Oper) (S:St) (K:St→Prop):Prop :=
  bG (Ic ai) (match pl.cl with
    | []=>jT C pl ai (bZ ai.toList []) ai.size (Array.replicate ai.size false) S K
    | _::_=>uO C pl ai (bZ ai.toList []) ai.size (Array.replicate ai.size false) S K)
def cy:List Oper→List (Nat×TypeId)
  | []=>[]
  | o::os=>match o.op,o.dst with
    | .alloc e,some d=>(d,e)::cy os
    | _,_=>cy os
def kC (pl:bK):List (Nat×TypeId)→Bool
  | []=>true
  | (d,_)::xs=>!(cV pl.esc d)&&!(cV (xs.map (·.1)) d)&&kC pl xs
def ve:List Oper→Bool
  | []=>true
  | o::os=>(match o.op,o.guard with | .alloc _,some _=>false | _,_=>true)&&ve os
def uc (pl:bK) (ai:Array Oper):Bool:=kC pl (cy ai.toList)&&ve ai.toList
def zC (P:Program):List (Nat×TypeId)→St→(St→Prop)→Prop
  | [],S,K=>K S
  | (d,e)::xs,S,K=>cE P e fun cs=>bG (Nat.blt 0 cs.length) (zC P xs { t:=S.t,l:=(d,cs)::S.l,o:=S.o,b:=S.b } K)
def xH (P:Program) (xs:List (Nat×TypeId)) (S:St) (K:St→Prop):Prop :=
  m8 (xs.map (·.1)) S fun S'=>zC P xs S' K
def k8:List (Nat×TypeId)→St→Prop→Prop
  | [],_,X=>X
  | (d,_)::xs,S,X=>qD S.t d fun a=>match a with
    | .ptr (.L d') _ _=>bG (Nat.beq d' d) (k8 xs S X)
    | _=>af 302
def gN (C:Ctx) (pl:bK):Code→St→(Ex→St→Prop)→Prop
  | .skip,S,K=>K .nrm S
  | .region id ai draw,S,K =>
    match draw with
    | false=>sY C pl ai ai.toList S fun S'=>kp pl id S' fun S''=>K .nrm S''
    | true=>bG (uc pl ai) (xH C.P (cy ai.toList) S fun S1=>xG C pl ai S1 fun S'=>k8 (cy ai.toList) S' (kp pl id S' fun S''=>K .nrm S''))
  | .seq a b,S,K=>gN C pl a S fun e S'=>match e with
    | .nrm=>gN C pl b S' K
    | .ex i=>K (.ex i) S'
    | .ret=>K .ret S'
  | .cond c x y,S,K=>ol c S fun b S'=>match b with
    | true=>gN C pl x S' K
    | false=>gN C pl y S' K
  | .block id c,S,K=>gN C pl c S fun e S'=>match e with
    | .ex i=>match Nat.beq i id with | true=>K .nrm S' | false=>K (.ex i) S'
    | .nrm=>K .nrm S'
    | .ret=>K .ret S'
  | .loop c,S,K=>C.loop pl c S K
  | .exit id,S,K=>K (.ex id) S
  | .ret,S,K=>K .ret S
  | _,_,_=>af 119
def xI (P:Program) (S:St):List ResultVar→(List AV→Prop)→Prop
  | [],k=>k []
  | .tmp t::rs,k=>qD S.t t fun a=>xI P S rs fun as=>k (a::as)
  | .cell a t::rs,k=>qD S.t a fun p=>Fy S p fun row j=>iL P t row j fun x=>xI P S rs fun as=>k (x::as)
def AG (as:List AV) (k:AV→Prop):Prop :=
  match as with
  | [a]=>k a
  | as=>k (.tup as)
def zD:Nat→List AV
  | 0=>[]
  | n + 1=>.bad::zD n
def vO (C:Ctx) (k:Ctx→Prop):Prop :=
  match C with
  | ⟨a,b,c,d,e,f⟩=>k ⟨a,b,c,d,e,f⟩
def Cj (p:bK) (k:bK→Prop):Prop :=
  match p with
  | ⟨a,b,c,d,e,f,g,h,i,j,l,m,n,o⟩=>k ⟨a,b,c,d,e,f,g,h,i,j,l,m,n,o⟩
def vP (C:Ctx) (f:Nat) (args:List AV) (o:List Ob) (K:AV→St→Prop):Prop :=
  match C.P.funcs[f]? with
  | some fn=>match fn.body with
    | some c=>Cj (C.pol f) fun pl=>gN C pl c { t:=args++zD (fn.ntmps - args.length),l:=[],o:=o,b:=o.length } fun e S =>
        match e with
        | .ex _=>af 120
        | _=>xI C.P S fn.results.toList fun rs=>AG rs fun r=>K r S
    | none=>af 121
  | none=>af 122
def ud (C:Ctx) (f:Nat) (args:List AV) (o:List Ob) (K:AV→St→Prop):Prop:=vO C fun C=>vP C f args o K
def rE (C:Ctx) (f:Nat) (args:List AV) (K:AV→Prop):Prop :=
  ud C f args [] fun r S=>zy S.o r K
def s3 (C:Ctx) (f:Nat) (args:List AV) (o:List Ob) (K:AV→List Ob→Prop):Prop :=
  ud C f args o fun r S=>bG (uM 4 r&&Nat.beq S.b o.length) (K r S.o)
structure pZ where
  P:Program
  pure:Nat→Bool
  pol:Nat→bK
  xs:Nat→Bool:=fun _=>false
  xc:Nat→List AV→List Ob→(AV→List Ob→Prop)→Prop:=fun _ _ _ _=>False
  xq:Nat→List AV→Option AV:=fun _ _=>none
def gp (G:pZ):Nat→Ctx
  | 0=>{ P:=G.P,pure:=G.pure,pol:=G.pol,pcall:=fun _ _ _=>af 123,scall:=fun _ _ _ _=>af 124,loop:=fun _ _ _ _=>af 125 }
  | n + 1=>{ P:=G.P,pure:=G.pure,pol:=G.pol,pcall:=fun f args K=>match G.xq f args with | some r=>K r | none=>rE (gp G n) f args K,scall:=fun f args o K=>match G.xs f with | true=>G.xc f args o K | false=>s3 (gp G n) f args o K,loop:=fun pl c S K=>vO (gp G n) fun C=>gN C pl c S fun e S'=>match e with
                 | .nrm=>C.loop pl c S' K
                 | .ex i=>K (.ex i) S'
                 | .ret=>K .ret S' }
inductive MV where
  | blk (b o sz n:Nat)
  | virt
structure Env where
  F:Nat→Prop
  mu:Key→Option MV
  h:Array Obj
def Env.fz (E:Env):Env:=⟨E.F,fun _=>none,E.h⟩
def yw (mu:Key→Option MV):Key→Option MV
  | .L _=>none
  | .O i=>mu (.O i)
  | .S id i=>mu (.S id i)
def Env.ob (E:Env):Env:=⟨E.F,yw E.mu,E.h⟩
def dI (h:Array Obj) (b i:Nat):Option Value :=
  match h[b]? with
  | some (.cells c _ _)=>c[i]?
  | _=>none
def bj (h:Array Obj) (b:Nat):Nat :=
  match h[b]? with
  | some (.cells c _ _)=>c.size
  | _=>0
def plain:Value→Bool
  | .bool _ | .int _ _ | .float _ _ | .complex _ _ _ | .string _=>true
  | _=>false
inductive VR:Env→AV→Value→Prop where
  | bad (E:Env) (u:Value):VR E .bad u
  | v (E:Env) (x:Value):plain x=true→VR E (.v x) x
  | nilp (E:Env):VR E .nilp (.pointer none)
  | ptr {E:Env} {k:Key} {b o sz n:Nat} (i j:Nat) (hs:k.isS=false):E.mu k=some (.blk b o sz n)→VR E (.ptr k i j) (.pointer (some ⟨b,o + i * sz + j,none⟩))
  | fptr {E:Env} {row:List AV} {b o:Nat} (j:Nat) (us:List Value):us.length=row.length→(∀ (m:Nat) (c:AV) (u:Value),row[m]?=some c→us[m]?=some u→VR E.fz c u) →
      E.F b→(∀ (m:Nat) (u:Value),us[m]?=some u→dI E.h b (o + m)=some u)→VR E (.fptr row j) (.pointer (some ⟨b,o + j,none⟩))
  | nilsl (E:Env):VR E .nilsl (.slice none 0 0)
  | esln (E:Env):VR E .esl (.slice none 0 0)
  | esl (E:Env) (a:Addr):VR E .esl (.slice (some a) 0 0)
  | ene (E:Env) (a:Addr):VR E .ene (.slice (some a) 0 0)
  | sln (E:Env):VR E (.sl []) (.slice none 0 0)
  | sle (E:Env) (a:Addr) (cap:Nat):VR E (.sl []) (.slice (some a) 0 cap)
  | sl {E:Env} {rows:List (List AV)} {sz b o cap:Nat} (us:List Value):0<sz→(∀ r∈rows,r.length=sz)→us.length=rows.flatten.length →
      (∀ (m:Nat) (c:AV) (u:Value),rows.flatten[m]?=some c→us[m]?=some u→VR E.fz c u)→E.F b→(∀ (m:Nat) (u:Value),us[m]?=some u→dI E.h b (o + m)=some u) →
      rows.length≤cap→VR E (.sl rows) (.slice (some ⟨b,o,none⟩) rows.length cap)
  | mfn {E:Env} {id:Nat}:E.mu (.O id)=some .virt→VR E (.mf id) (.slice none 0 0)
  | mfe {E:Env} {id:Nat} (a:Addr):E.mu (.O id)=some .virt→VR E (.mf id) (.slice (some a) 0 0)
  | mf {E:Env} {id b o sz n:Nat} (cap:Nat):E.mu (.O id)=some (.blk b o sz n)→n≤cap→o + cap * sz≤bj E.h b→VR E (.mf id) (.slice (some ⟨b,o,none⟩) n cap)
  | mfxe {E:Env} {id:Nat} (a:Addr):E.mu (.O id)=some .virt→VR E (.mfx id) (.slice (some a) 0 0)
  | mfx {E:Env} {id b o sz n:Nat} (cap:Nat):E.mu (.O id)=some (.blk b o sz n)→n≤cap→o + cap * sz≤bj E.h b→VR E (.mfx id) (.slice (some ⟨b,o,none⟩) n cap)
  | nn (E:Env) (a:Addr) (n cap:Nat):VR E .nn (.slice (some a) n cap)
  | msle {E:Env} {id:Nat} {x:MV} (off:Nat) (a:Option Addr):E.mu (.O id)=some x→VR E (.msl id off 0 0) (.slice a 0 0)
  | msl {E:Env} {id b o sz n:Nat} (off len ext cap:Nat):E.mu (.O id)=some (.blk b o sz n)→off + len + ext≤n→len + ext≤cap→o + (off + cap) * sz≤bj E.h b →
      VR E (.msl id off len ext) (.slice (some ⟨b,o + off * sz,none⟩) len cap)
  | bsl {E:Env} {k:Key} {b o sz n:Nat} (off len cap:Nat) (hs:k.isS=false):E.mu k=some (.blk b o sz n)→len≤cap→VR E (.bsl k off len) (.slice (some ⟨b,o + off,none⟩) len cap)
  | nilmap (E:Env):VR E .nilmap (.map none)
  | mp {E:Env} {id b o sz n:Nat}:E.mu (.O id)=some (.blk b o sz n)→VR E (.mp id) (.map (some b))
  | nilfn (E:Env):VR E .nilfn .nilFunc
  | fn {E:Env} {f:Nat} {xs ys:List AV} (us ws:Array Value):xs.length=us.size→(∀ (m:Nat) (c:AV) (u:Value),xs[m]?=some c→us[m]?=some u→VR E c u) →
      ys.length=ws.size→(∀ (m:Nat) (c:AV) (u:Value),ys[m]?=some c→ws[m]?=some u→VR E c u)→VR E (.fn f xs ys) (.func (.func f) us ws)
  | agg {E:Env} {cs:List AV} (us:Array Value):cs.length=us.size→(∀ (m:Nat) (c:AV) (u:Value),cs[m]?=some c→us[m]?=some u→VR E c u)→VR E (.agg cs) (.agg us)
  | tup {E:Env} {cs:List AV} (us:Array Value):cs.length=us.size→(∀ (m:Nat) (c:AV) (u:Value),cs[m]?=some c→us[m]?=some u→VR E c u)→VR E (.tup cs) (.tuple us)
structure LE (E E':Env):Prop where
  F:∀ b,E.F b→E'.F b
  mu:∀ k x,k.isS=false→E.mu k=some x→E'.mu k=some x
  hF:∀ b,E.F b→E'.h[b]?=E.h[b]?
  sz:∀ k b o s n,k.isS=false→E.mu k=some (.blk b o s n)→bj E'.h b=bj E.h b
theorem LE.refl (E:Env):LE E E:=⟨fun _ h=>h,fun _ _ _ h=>h,fun _ _=>rfl,fun _ _ _ _ _ _ _=>rfl⟩
theorem LE.trans {E E' E'':Env} (h:LE E E') (k:LE E' E''):LE E E'' :=
  ⟨fun b hb=>k.F b (h.F b hb),fun x y hs hx=>k.mu x y hs (h.mu x y hs hx),fun b hb=>(k.hF b (h.F b hb)).trans (h.hF b hb),
   fun x b o s n hs hx=>(k.sz x b o s n hs (h.mu _ _ hs hx)).trans (h.sz x b o s n hs hx)⟩
theorem LE.fz {E E':Env} (h:LE E E'):LE E.fz E'.fz:=⟨h.F,fun _ _ _ hx=>(by cases hx),h.hF,fun _ _ _ _ _ _ hx=>(by cases hx)⟩
theorem fZ {mu:Key→Option MV} {k:Key} {x:MV} (h:yw mu k=some x):mu k=some x:=by
  cases k with
  | L d=>cases h
  | O i=>exact h
  | S id i=>exact h
theorem LE.ob {E E':Env} (h:LE E E'):LE E.ob E'.ob :=
  ⟨h.F,fun k x hs hx=>(by
    cases k with
    | L d=>cases hx
    | O i=>exact h.mu _ _ hs hx
    | S id i=>cases hs),h.hF,fun k b o s n hs hx=>h.sz k b o s n hs (fZ hx)⟩
theorem oH {h h':Array Obj} {b:Nat} (e:h'[b]?=h[b]?) (i:Nat):dI h' b i=dI h b i:=by
  unfold dI; rw [e]
theorem VR.mono {E:Env} {a:AV} {u:Value} (hv:VR E a u):∀ {E':Env},LE E E'→VR E' a u:=by
  induction hv with
  | bad E u=>intro E' _; exact .bad _ _
  | v E x hx=>intro E' _; exact .v _ _ hx
  | nilp E=>intro E' _; exact .nilp _
  | ptr i j hs hm=>intro E' h; exact .ptr i j hs (h.mu _ _ hs hm)
  | fptr j us hl hc hF hcell ih=>intro E' h; exact .fptr j us hl (fun m c u h1 h2=>ih m c u h1 h2 h.fz) (h.F _ hF) (fun m u hu=>(oH (h.hF _ hF) _).trans (hcell m u hu))
  | nilsl E=>intro E' _; exact .nilsl _
  | esln E=>intro E' _; exact .esln _
  | esl E a=>intro E' _; exact .esl _ a
  | ene E a=>intro E' _; exact .ene _ a
  | sln E=>intro E' _; exact .sln _
  | sle E a cap=>intro E' _; exact .sle _ a cap
  | sl us hsz hr hl hc hF hcell hcap ih=>intro E' h; exact .sl us hsz hr hl (fun m c u h1 h2=>ih m c u h1 h2 h.fz) (h.F _ hF) (fun m u hu=>(oH (h.hF _ hF) _).trans (hcell m u hu)) hcap
  | mfn hm=>intro E' h; exact .mfn (h.mu _ _ rfl hm)
  | mfe a hm=>intro E' h; exact .mfe a (h.mu _ _ rfl hm)
  | mf cap hm hn hc=>intro E' h; exact .mf cap (h.mu _ _ rfl hm) hn (by rw [h.sz _ _ _ _ _ rfl hm]; exact hc)
  | mfxe a hm=>intro E' h; exact .mfxe a (h.mu _ _ rfl hm)
  | mfx cap hm hn hc=>intro E' h; exact .mfx cap (h.mu _ _ rfl hm) hn (by rw [h.sz _ _ _ _ _ rfl hm]; exact hc)
  | nn E a n cap=>intro E' _; exact .nn _ a n cap
  | msle off a hm=>intro E' h; exact .msle off a (h.mu _ _ rfl hm)
  | msl off len ext cap hm h1 h2 h3=>intro E' h; exact .msl off len ext cap (h.mu _ _ rfl hm) h1 h2 (by rw [h.sz _ _ _ _ _ rfl hm]; exact h3)
  | bsl off len cap hs hm h1=>intro E' h; exact .bsl off len cap hs (h.mu _ _ hs hm) h1
  | nilmap E=>intro E' _; exact .nilmap _
  | mp hm=>intro E' h; exact .mp (h.mu _ _ rfl hm)
  | nilfn E=>intro E' _; exact .nilfn _
  | fn us ws h1 h2 h3 h4 ih1 ih2=>intro E' h; exact .fn us ws h1 (fun m c u hc hu=>ih1 m c u hc hu h) h3 (fun m c u hc hu=>ih2 m c u hc hu h)
  | agg us h1 h2 ih=>intro E' h; exact .agg us h1 (fun m c u hc hu=>ih m c u hc hu h)
  | tup us h1 h2 ih=>intro E' h; exact .tup us h1 (fun m c u hc hu=>ih m c u hc hu h)
theorem VR.of_fz {E:Env} {a:AV} {u:Value} (hv:VR E.fz a u):VR E a u :=
  hv.mono ⟨fun _ h=>h,fun _ _ _ h=>(by cases h),fun _ _=>rfl,fun _ _ _ _ _ _ h=>(by cases h)⟩
theorem VR.of_ob {E:Env} {a:AV} {u:Value} (hv:VR E.ob a u):VR E a u :=
  hv.mono ⟨fun _ h=>h,fun _ _ _ h=>fZ h,fun _ _=>rfl,fun _ _ _ _ _ _ _=>rfl⟩
theorem VR.fz_ob {E:Env} {a:AV} {u:Value} (hv:VR E.fz a u):VR E.ob a u :=
  hv.mono ⟨fun _ h=>h,fun _ _ _ h=>(by cases h),fun _ _=>rfl,fun _ _ _ _ _ _ h=>(by cases h)⟩
def cb (E:Env) (cs:List AV) (us:List Value):Prop :=
  cs.length=us.length∧∀ (m:Nat) (c:AV) (u:Value),cs[m]?=some c→us[m]?=some u→VR E c u
theorem cb.mono {E E':Env} {cs:List AV} {us:List Value} (h:cb E cs us) (hl:LE E E'):cb E' cs us:=⟨h.1,fun m c u h1 h2=>(h.2 m c u h1 h2).mono hl⟩
theorem cb.nil (E:Env):cb E [] []:=⟨rfl,fun m c u h=>(by simp at h)⟩
theorem cb.cons {E:Env} {c:AV} {u:Value} {cs:List AV} {us:List Value} (h:VR E c u) (hs:cb E cs us):cb E (c::cs) (u::us) :=
  ⟨by simp [hs.1],fun m c' u' h1 h2=>by
    cases m with
    | zero=>simp at h1 h2; subst h1 h2; exact h
    | succ m=>exact hs.2 m c' u' (by simpa using h1) (by simpa using h2)⟩
theorem cb.uncons {E:Env} {c:AV} {cs:List AV} {vs:List Value} (h:cb E (c::cs) vs):∃ u us,vs=u::us∧VR E c u∧cb E cs us:=by
  cases vs with
  | nil=>exact absurd h.1 (by simp)
  | cons u us=>exact ⟨u,us,rfl,h.2 0 c u rfl rfl,by simpa using h.1,fun m c' u' h1 h2=>h.2 (m + 1) c' u' (by simpa using h1) (by simpa using h2)⟩
theorem cb.unnil {E:Env} {vs:List Value} (h:cb E [] vs):vs=[]:=List.eq_nil_of_length_eq_zero h.1.symm
theorem cb.get {E:Env} {cs:List AV} {us:List Value} (h:cb E cs us) {m:Nat} {c:AV} (hc:cs[m]?=some c):∃ u,us[m]?=some u∧VR E c u:=by
  have hm:m<us.length:=by rw [← h.1]; exact (List.getElem?_eq_some_iff.1 hc).1
  exact ⟨us[m],List.getElem?_eq_getElem hm,h.2 m c _ hc (List.getElem?_eq_getElem hm)⟩
theorem cb.append {E:Env} {cs ds:List AV} {us vs:List Value} (h:cb E cs us) (k:cb E ds vs):cb E (cs++ds) (us++vs):=by
  induction cs generalizing us with
  | nil=>rw [h.unnil]; exact k
  | cons c cs ih =>
    obtain ⟨u,us',rfl,hc,hs⟩:=h.uncons
    exact .cons hc (ih hs)
theorem cb.take {E:Env} {cs:List AV} {us:List Value} (h:cb E cs us) (n:Nat):cb E (cs.take n) (us.take n) :=
  ⟨by simp [h.1],fun m c u h1 h2=>by
    rw [List.getElem?_take] at h1 h2
    split at h1
    · rename_i hm; rw [if_pos hm] at h2; exact h.2 m c u h1 h2
    · cases h1⟩
theorem cb.drop {E:Env} {cs:List AV} {us:List Value} (h:cb E cs us) (n:Nat):cb E (cs.drop n) (us.drop n) :=
  ⟨by simp [h.1],fun m c u h1 h2=>by
    rw [List.getElem?_drop] at h1 h2
    exact h.2 _ c u h1 h2⟩
theorem cb.of_fz {E:Env} {cs:List AV} {us:List Value} (h:cb E.fz cs us):cb E cs us:=⟨h.1,fun m c u h1 h2=>(h.2 m c u h1 h2).of_fz⟩
theorem cb.of_ob {E:Env} {cs:List AV} {us:List Value} (h:cb E.ob cs us):cb E cs us:=⟨h.1,fun m c u h1 h2=>(h.2 m c u h1 h2).of_ob⟩
theorem cb.aggV {E:Env} {cs:List AV} {us:Array Value} (h:cb E cs us.toList):VR E (.agg cs) (.agg us) :=
  .agg us (by simpa using h.1) (fun m c u h1 h2=>h.2 m c u h1 (by simpa using h2))
theorem VR.aggI {E:Env} {cs:List AV} {u:Value} (h:VR E (.agg cs) u):∃ us:Array Value,u=.agg us∧cb E cs us.toList:=by
  cases h with
  | agg us h1 h2=>exact ⟨us,rfl,by simpa using h1,fun m c u hc hu=>h2 m c u hc (by simpa using hu)⟩
theorem VR.tupI {E:Env} {cs:List AV} {u:Value} (h:VR E (.tup cs) u):∃ us:Array Value,u=.tuple us∧cb E cs us.toList:=by
  cases h with
  | tup us h1 h2=>exact ⟨us,rfl,by simpa using h1,fun m c u hc hu=>h2 m c u hc (by simpa using hu)⟩
theorem VR.vI {E:Env} {x u:Value} (h:VR E (.v x) u):u=x∧plain x=true:=by
  cases h with
  | v _ _ hx=>exact ⟨rfl,hx⟩
def cz (E':Env) (h:Array Obj) (rows:List (List AV)) (b o sz:Nat):Prop :=
  0<sz∧(∀ r∈rows,r.length=sz)∧∃ (us:Array Value) (ty:TypeId),h[b]?=some (.cells us ty (0,0))∧o + rows.length * sz≤us.size ∧
    ∀ (m:Nat) (c:AV),rows.flatten[m]?=some c→∃ u,us[o + m]?=some u∧VR E' c u
def cG (E:Env) (fl:Bool):Env:=match fl with | true=>E.fz | false=>E.ob
def uP (ms:Array MapEntry) (clock:Nat):Prop:=(∀ x∈ms.toList,x.born<clock)∧(ms.toList.map (·.born)).Nodup
theorem uP.empty (clock:Nat):uP #[] clock:=⟨by simp,by simp⟩
theorem uP.push {ms:Array MapEntry} {clock:Nat} (h:uP ms clock) (key val:Value):uP (ms.push { key:=key,val:=val,born:=clock }) (clock + 1):=by
  obtain ⟨h1,h2⟩:=h
  refine ⟨fun x hx=>?_,?_⟩
  · simp only [Array.toList_push,List.mem_append,List.mem_singleton] at hx
    rcases hx with hx | rfl
    · exact Nat.lt_succ_of_lt (h1 x hx)
    · exact Nat.lt_succ_self _
  · simp only [Array.toList_push,List.map_append,List.map_cons,List.map_nil]
    refine List.nodup_append.2 ⟨h2,by simp,fun a ha b hb=>?_⟩
    simp only [List.mem_singleton] at hb
    subst hb
    obtain ⟨x,hx,rfl⟩:=List.mem_map.1 ha
    exact Nat.ne_of_lt (h1 x hx)
theorem uP.modify {ms:Array MapEntry} {clock:Nat} (h:uP ms clock) (i:Nat) (key val:Value):uP (ms.modify i fun e=>{ e with key:=key,val:=val }) clock:=by
  have hb:(ms.modify i fun e=>{ e with key:=key,val:=val }).toList.map (·.born)=ms.toList.map (·.born):=by
    apply List.ext_getElem?
    intro j
    simp only [List.getElem?_map,Array.getElem?_toList,Array.getElem?_modify]
    split
    · rename_i e
      subst e
      cases ms[i]? <;> rfl
    · rfl
  refine ⟨fun x hx=>?_,by rw [hb]; exact h.2⟩
  have:x.born∈(ms.modify i fun e=>{ e with key:=key,val:=val }).toList.map (·.born):=List.mem_map.2 ⟨x,hx,rfl⟩
  rw [hb] at this
  obtain ⟨y,hy,e⟩:=List.mem_map.1 this
  rw [← e]
  exact h.1 y hy
def FK (E:Env) (h:Array Obj) (fl:Bool) (es:List (AV×AV)) (b:Nat):Prop :=
  ∃ (ms:Array MapEntry) (clock:Nat),h[b]?=some (.map ms clock)∧(es.length=ms.size∧uP ms clock) ∧
    ∀ (i:Nat) (e:AV×AV) (m:MapEntry),es[i]?=some e→ms[i]?=some m→B8 e.1=some m.key∧VR (cG E fl) e.2 m.val
def fy (E:Env) (x:Option Ob) (mv:Option MV):Prop :=
  match x,mv with
  | some (.arr _ _ rows),some .virt=>rows=[]
  | some (.arr fl sz rows),some (.blk b o s n)=>(s=sz∧n=rows.length)∧cz (cG E fl) E.h rows b o s
  | some (.mapo fl es),some (.blk b _ _ _)=>FK E E.h fl es b
  | some (.own ks _ cells _),some .virt=>ks=none∧cells=[]
  | some (.own ks _ cells _),some (.blk _ _ s n)=>ks=none→s=1∧n=cells.length
  | some .dead,none=>True
  | none,none=>True
  | _,_=>False
def gO (pend:Nat→Option (List AV)) (E:Env) (x:Option (List AV)) (d:Nat):Prop :=
  match x with
  | none=>E.mu (.L d)=none
  | some row=>(∃ b,E.mu (.L d)=some (.blk b 0 row.length 1)∧cz E E.h [row] b 0 row.length)∨(E.mu (.L d)=none∧pend d=some row∧∀ k,row.map (cX 4 k)=row)
def cg (E:Env) (sz:Nat) (c:Option (List (List AV))) (mv:Option MV) (u:Value):Prop :=
  match c,mv with
  | none,none=>u=.slice none 0 0
  | some rows,some .virt=>rows=[]∧∃ a,u=.slice a 0 0∧(Ay sz=true→a.isSome=true)
  | some rows,some (.blk b o s n)=>(s=vC sz∧n=rows.length)∧cz E.fz E.h rows b o s∧∃ cap,n≤cap∧o + cap * s≤bj E.h b∧u=.slice (some ⟨b,o,none⟩) n cap
  | _,_=>False
def Ie (E:Env) (sz:Nat) (hole:Option (Nat×AV)) (i:Nat) (c:Option (List (List AV))) (mv:Option MV) (u:Value):Prop :=
  match hole with
  | some (j,a)=>if j=i then mv=none∧VR E.ob a u else cg E sz c mv u
  | none=>cg E sz c mv u
def gP (h:Array Obj) (b o i:Nat):Option Value :=
  match h[b]? with
  | some (.cells us _ _)=>us[o + i]?
  | some (.map ms _)=>(ms[i]?).map (·.val)
  | _=>none
def yx (h:Array Obj) (ks:Option (List AV)) (b o n:Nat):Prop :=
  match ks with
  | none=>∃ us ty,h[b]?=some (.cells us ty (0,0))∧o + n≤us.size
  | some ks=>∃ ms clock,h[b]?=some (.map ms clock)∧(n=ms.size∧n=ks.length∧uP ms clock)∧∀ (i:Nat) (k:AV) (m:MapEntry),ks[i]?=some k→ms[i]?=some m→B8 k=some m.key
theorem yx.congr {h h':Array Obj} {ks:Option (List AV)} {b o n:Nat} (hb:yx h ks b o n) (e:h'[b]?=h[b]?):yx h' ks b o n:=by
  cases ks with
  | none =>
    obtain ⟨us,ty,h1,h2⟩:=hb
    exact ⟨us,ty,e.trans h1,h2⟩
  | some ks =>
    obtain ⟨ms,clock,h1,h2⟩:=hb
    exact ⟨ms,clock,e.trans h1,h2⟩
theorem AH {h h':Array Obj} {b:Nat} (e:h'[b]?=h[b]?) (o i:Nat):gP h' b o i=gP h b o i:=by
  unfold gP
  rw [e]
theorem AI {h:Array Obj} {b o n i:Nat} {u:Value} (hb:yx h none b o n) (hv:gP h b o i=some u):dI h b (o + i)=some u:=by
  obtain ⟨us,ty,h1,_⟩:=hb
  unfold gP at hv
  unfold dI
  rw [h1] at hv ⊢
  exact hv
def dJ (E:Env) (id:Nat) (x:Option Ob):Prop :=
  match x with
  | some (.own ks sz cells hole)=>0<vC sz∧(∀ i,cells.length≤i→E.mu (.S id i)=none) ∧
      ∀ b o s n,E.mu (.O id)=some (.blk b o s n)→yx E.h ks b o cells.length ∧
        ∀ i c,cells[i]?=some c→∃ u,gP E.h b o i=some u∧Ie E sz hole i c (E.mu (.S id i)) u
  | _=>∀ i,E.mu (.S id i)=none
theorem cg.mono {E E':Env} {sz:Nat} {c:Option (List (List AV))} {mv:Option MV} {u:Value} (h:cg E sz c mv u) (hf:LE E.fz E'.fz) (hh:∀ b o s n,mv=some (.blk b o s n)→E'.h[b]?=E.h[b]?):cg E' sz c mv u:=by
  revert h
  cases c with
  | none =>
    cases mv with
    | none=>exact fun h=>h
    | some mv=>cases mv <;> exact fun h=>h.elim
  | some rows =>
    cases mv with
    | none=>exact fun h=>h.elim
    | some mv =>
      cases mv with
      | virt=>exact fun h=>h
      | blk b o s n =>
        rintro ⟨h0,⟨h1,h2,us,ty,h3,h4,h5⟩,cap,h6,h7,h8⟩
        have hb:=hh _ _ _ _ rfl
        refine ⟨h0,⟨h1,h2,us,ty,hb.trans h3,h4,fun m c hc=>?_⟩,cap,h6,?_,h8⟩
        · obtain ⟨u,hu,hv⟩:=h5 m c hc
          exact ⟨u,hu,hv.mono hf⟩
        · have:bj E'.h b=bj E.h b:=by unfold bj; rw [hb]
          rw [this]
          exact h7
theorem dJ.mono {E E':Env} {id:Nat} {x:Option Ob} (h:dJ E id x) (hO:E'.mu (.O id)=E.mu (.O id)) (hS:∀ i,E'.mu (.S id i)=E.mu (.S id i)) (hf:LE E.fz E'.fz) (hb:LE E.ob E'.ob)
    (hh:∀ k b o s n,(k=.O id∨∃ i,k=.S id i)→E.mu k=some (.blk b o s n)→E'.h[b]?=E.h[b]?):dJ E' id x:=by
  revert h
  unfold dJ
  split
  · rename_i ks sz cells hole
    rintro ⟨h1,h2,h3⟩
    refine ⟨h1,fun i hi=>(hS i).trans (h2 i hi),fun b o s n hm=>?_⟩
    rw [hO] at hm
    obtain ⟨h4,h6⟩:=h3 b o s n hm
    have hbb:=hh _ _ _ _ _ (.inl rfl) hm
    refine ⟨h4.congr hbb,fun i c hc=>?_⟩
    obtain ⟨u,hu,h7⟩:=h6 i c hc
    refine ⟨u,(AH hbb _ _).trans hu,?_⟩
    rw [hS i]
    have hcell:cg E sz c (E.mu (.S id i)) u→cg E' sz c (E.mu (.S id i)) u:=fun h=>h.mono hf fun b o s n e=>hh _ _ _ _ _ (.inr ⟨i,rfl⟩) e
    unfold Ie at h7 ⊢
    split at h7
    · rename_i j a
      by_cases hj:j=i
      · rw [if_pos hj] at h7 ⊢
        exact ⟨h7.1,h7.2.mono hb⟩
      · rw [if_neg hj] at h7 ⊢
        exact hcell h7
    · exact hcell h7
  · exact fun h i=>(hS i).trans (h i)
theorem dJ.arr {E:Env} {id sz:Nat} {fl:Bool} {rows:List (List AV)}:dJ E id (some (.arr fl sz rows))↔∀ i,E.mu (.S id i)=none:=Iff.rfl
theorem dJ.mapo {E:Env} {id:Nat} {fl:Bool} {es:List (AV×AV)}:dJ E id (some (.mapo fl es))↔∀ i,E.mu (.S id i)=none:=Iff.rfl
def iP:Option Ob→Bool
  | some (.own _ _ _ _)=>false
  | _=>true
theorem dJ.not {E:Env} {id:Nat} {x:Option Ob} (h:iP x=true):dJ E id x↔∀ i,E.mu (.S id i)=none:=by
  unfold dJ
  split
  · cases h
  · exact Iff.rfl
structure Gh where
  w0:World
  M:Nat→Prop
  F:Nat→Prop
  mu:Nat→Option MV
structure ah (G:Gh) (pend:Nat→Option (List AV)) (E:Env) (S:St) (w:World):Prop where
  hp:E.h=w.heap
  os:w.os=G.w0.os
  tape:w.tape=G.w0.tape
  output:w.output=G.w0.output
  size:G.w0.heap.size≤w.heap.size
  keep:∀ b,b<G.w0.heap.size→¬ G.M b→w.heap[b]?=G.w0.heap[b]?
  F0:∀ b,G.F b→E.F b
  Flt:∀ b,E.F b→b<w.heap.size
  Fnew:∀ b,E.F b→b<G.w0.heap.size→G.F b∨G.M b
  own:∀ k b o s n,E.mu k=some (.blk b o s n)→¬ E.F b∧b<w.heap.size∧(G.M b∨G.w0.heap.size≤b)
  inj:∀ k k' b o s n o' s' n',E.mu k=some (.blk b o s n)→E.mu k'=some (.blk b o' s' n')→k=k'
  loc:∀ d,gO pend E (aL S.l d) d
  obj:∀ id,fy E S.o[id]? (E.mu (.O id))
  old:∀ id,id<S.b→S.o[id]?=some .dead∨E.mu (.O id)=G.mu id
  bl:S.b≤S.o.length
  szs:∀ b,b<G.w0.heap.size→bj w.heap b=bj G.w0.heap b
  pk:∀ d row,pend d=some row→E.mu (.L d)=none∧aL S.l d=some row
  ow:∀ id,dJ E id S.o[id]?
def Ck (E:Env):Prop:=∀ g row,II g=some row→VR E.fz (.fptr row 0) (.pointer (some ⟨g,0,none⟩))∧dI E.h g row.length=none
theorem zE {E E':Env} {row:List AV} {g:Nat} (h:VR E (.fptr row 0) (.pointer (some ⟨g,0,none⟩))∧dI E.h g row.length=none) (hl:LE E E'):VR E' (.fptr row 0) (.pointer (some ⟨g,0,none⟩))∧dI E'.h g row.length=none:=by
  refine ⟨h.1.mono hl,?_⟩
  obtain ⟨h1,h2⟩:=h
  cases h1 with
  | fptr j us _ _ hF _=>exact (oH (hl.hF _ hF) _).trans h2
theorem Ck.mono {E E':Env} (h:Ck E) (hl:LE E E'):Ck E':=fun g row e=>zE (h g row e) hl.fz
theorem Ck.up {E:Env} (h:Ck E) {F':Nat→Prop} {mu':Key→Option MV} {h':Array Obj} (hF:∀ b,E.F b→F' b) (hh:E.h=h'):Ck ⟨F',mu',h'⟩:=fun g row e=>zE (E:=E.fz) (E':=⟨F',fun _=>none,h'⟩) (h g row e) ⟨hF,fun _ _ _ hx=>(by cases hx),fun _ _=>(by rw [← hh]; rfl),fun _ _ _ _ _ _ hx=>(by cases hx)⟩
structure TR (E:Env) (t:List AV) (a:Act):Prop where
  len:t.length=a.tmps.size
  val:∀ (n:Nat) (c:AV) (u:Value),t[n]?=some c→a.tmps[n]?=some u→VR E c u
  df:a.defers=[]
  gt:Ck E
theorem TR.mono {E E':Env} {t:List AV} {a:Act} (h:TR E t a) (hl:LE E E'):TR E' t a:=⟨h.len,fun n c u h1 h2=>(h.val n c u h1 h2).mono hl,h.df,h.gt.mono hl⟩
theorem ac {b:Bool} {X:Prop} (h:bG b X):b=true∧X:=by
  cases b with
  | true=>exact ⟨rfl,h⟩
  | false=>exact False.elim h
theorem al {b:Bool} {X:Prop} (hb:b=true) (h:X):bG b X:=by subst hb; exact h
theorem mL {b:Bool} {X Y:Prop} (h:AB b X Y):(b=true∧X)∨(b=false∧Y):=by
  cases b with
  | true=>exact .inl ⟨rfl,h⟩
  | false=>exact .inr ⟨rfl,h⟩
theorem Cm {b:Bool} {X Y:Prop} (hX:b=true→X) (hY:b=false→Y):AB b X Y:=by
  cases b with
  | true=>exact hX rfl
  | false=>exact hY rfl
theorem b9 {a:AV} {k:AV→Prop}:jh a k↔k a:=by cases a <;> exact Iff.rfl
theorem dD:∀ {xs:List AV} {k:List AV→Prop},iJ xs k↔k xs
  | [],_=>Iff.rfl
  | _::xs,_=>dD (xs:=xs)
theorem ik:∀ {xs:List AV} {k:List AV→Prop},vd xs k↔k xs
  | [],_=>Iff.rfl
  | x::xs,k=>by
    show jh x _↔_
    rw [b9]
    exact ik (xs:=xs)
theorem ax:∀ {xs:List Ob} {k:List Ob→Prop},bi xs k↔k xs
  | [],_=>Iff.rfl
  | _::xs,_=>ax (xs:=xs)
theorem iQ:∀ {xs:List (Nat×List AV)} {k:List (Nat×List AV)→Prop},om xs k↔k xs
  | [],_=>Iff.rfl
  | (_,_)::xs,_=>iQ (xs:=xs)
theorem jH:∀ {xs:List (List AV)} {k:List (List AV)→Prop},fw xs k↔k xs
  | [],_=>Iff.rfl
  | x::xs,k=>by
    show iJ x _↔_
    rw [dD]
    exact jH (xs:=xs)
theorem cj:∀ {xs:List AV} {n:Nat} {k:AV→Prop},qD xs n k↔∃ a,xs[n]?=some a∧k a
  | [],_,_=>⟨fun h=>False.elim h,fun ⟨a,h,_⟩=>by simp at h⟩
  | x::xs,0,k=>⟨fun h=>⟨x,rfl,h⟩,fun ⟨a,h,hk⟩=>by simp at h; subst h; exact hk⟩
  | x::xs,n + 1,k=>by
    show qD xs n k↔_
    rw [cj]
    simp
theorem d3:∀ {xs:List AV} {n:Nat} {v:AV} {k:List AV→Prop},sT xs n v k↔k (xs.set n v)
  | [],_,_,_=>Iff.rfl
  | _::xs,0,_,_=>Iff.rfl
  | x::xs,n + 1,v,k=>by
    show sT xs n v _↔_
    rw [d3]
    rfl
def k9 (S:St) (dst:Option Tmp) (a:AV):St :=
  match dst with
  | none=>S
  | some d=>{ t:=S.t.set d a,l:=S.l,o:=S.o,b:=S.b }
theorem aB {dst:Option Tmp} {a:AV} {S:St} {K:St→Prop}:bB dst a S K↔K (k9 S dst a):=by
  cases dst with
  | none=>exact Iff.rfl
  | some d=>exact d3
theorem s4 {c:Value} {E:Env}:VR E (vz c) c:=by
  unfold vz
  split <;> first
    | exact .v _ _ rfl
    | exact .nilp _
    | exact .nilsl _
    | exact .nilmap _
    | exact .nilfn _
    | exact .bad _ _
theorem zF (E:Env) (c:Value):VR E (Es c) c:=by
  unfold Es
  split
  · rename_i cs
    refine .agg cs (by simp) (fun m x u h1 h2=>?_)
    simp only [List.getElem?_map,Array.getElem?_toList,Option.map_eq_some_iff] at h1
    obtain ⟨y,hy,rfl⟩:=h1
    rw [hy] at h2
    cases h2
    exact s4
  · exact s4
theorem c_ {S:St} {x:Operand} {k:AV→Prop} {E:Env} {a:Act} (h:cR S x k) (ht:TR E S.t a):∃ c,k c∧VR E c (a.eval x):=by
  unfold cR at h
  split at h
  · rename_i t
    obtain ⟨c,hc,hk⟩:=cj.1 h
    have hlt:t<a.tmps.size:=by rw [← ht.len]; exact (List.getElem?_eq_some_iff.1 hc).1
    refine ⟨c,hk,ht.val t c _ hc ?_⟩
    simp [Act.eval,Array.getD,hlt]
  · rename_i c
    exact ⟨_,b9.1 h,zF E c⟩
  · rename_i f
    exact ⟨_,h,.fn #[] #[] rfl (fun m c u hc=>by simp at hc) rfl (fun m c u hc=>by simp at hc)⟩
  · rename_i g
    split at h
    · rename_i row e
      exact ⟨_,h,(ht.gt g row e).1.of_fz⟩
    · exact False.elim h
theorem da {S:St} {E:Env} {a:Act} (ht:TR E S.t a):∀ {xs:List Operand} {k:List AV→Prop},dp S xs k→∃ cs,k cs∧cb E cs (xs.map a.eval)
  | [],_,h=>⟨[],h,.nil _⟩
  | x::xs,k,h=>by
    obtain ⟨c,hk,hc⟩:=c_ h ht
    obtain ⟨cs,hk',hcs⟩:=da ht hk
    exact ⟨c::cs,hk',.cons hc hcs⟩
theorem TR.put {E:Env} {S:St} {a:Act} (h:TR E S.t a) {dst:Option Tmp} {c:AV} {u:Value} (hv:VR E c u):TR E (k9 S dst c).t (a.put dst u):=by
  cases dst with
  | none=>exact h
  | some d =>
    refine ⟨by simp [k9,Act.put,h.len],fun n c' u' h1 h2=>?_,h.df,h.gt⟩
    simp only [k9,Act.put,List.getElem?_set,Array.getElem?_setIfInBounds] at h1 h2
    by_cases hd:d=n
    · subst hd
      simp only [if_true] at h1 h2
      split at h1
      · rename_i hl
        rw [if_pos (by rw [← h.len]; exact hl)] at h2
        cases h1; cases h2
        exact hv
      · cases h1
    · rw [if_neg hd] at h1 h2
      exact h.val n c' u' h1 h2
theorem eO {α:Type} {P:Program}:∀ (s:Sem α) {x:α} (w:World),aA P s=some x→s.run P w=.ok x w
  | .pure a,x,w,h=>by simp only [aA,Option.some.injEq] at h; subst h; rfl
  | .program k,x,w,h=>by simp only [aA] at h; exact eO (k P) w h
  | .load _ _ _,_,_,h=>by cases h
  | .store _ _ _ _,_,_,h=>by cases h
  | .new _ _,_,_,h=>by cases h
  | .shape _ _,_,_,h=>by cases h
  | .freeze _ _ _,_,_,h=>by cases h
  | .frozen _ _,_,_,h=>by cases h
  | .getObj _ _,_,_,h=>by cases h
  | .setObj _ _ _,_,_,h=>by cases h
  | .choose _ _,_,_,h=>by cases h
  | .sys _ _,_,_,h=>by cases h
  | .mark _ _,_,_,h=>by cases h
  | .halt _,_,_,h=>by cases h
theorem Cn {P:Program} {op:BinOp} {a b c:Value} (h:Hm op a b=some c) (t:TypeId) (w:World) :
    (binOp op t a b).run P w=.ok c w∧plain c=true:=by
  unfold Hm at h
  split at h
  · split at h <;> first
      | (split at h
         · rename_i hk
           subst hk
           simp only [Option.some.injEq] at h
           subst h
           refine ⟨?_,rfl⟩
           simp [binOp,Op.intArith,Op.intCmp,Op.intBits]
         · cases h)
      | cases h
  · split at h <;> first
      | (simp only [Option.some.injEq] at h
         subst h
         refine ⟨?_,rfl⟩
         simp [binOp,Op.stringOp])
      | cases h
  · cases h
theorem AJ {P:Program} {op:BinOp} {a b:Value} {K:Value→Prop} (h:vE op a b K) (t:TypeId) (w:World) :
    ∃ c,K c∧(binOp op t a b).run P w=.ok c w∧plain c=true:=by
  unfold vE at h
  split at h <;> first
    | exact False.elim h
    | (obtain ⟨hc,hK⟩:=ac h
       refine ⟨_,hK,?_,rfl⟩
       simp only [Bool.and_eq_true,decide_eq_true_eq,Bool.not_eq_true',beq_eq_false_iff_ne,ne_eq] at hc
       first
         | (obtain ⟨rfl,hb⟩:=hc; simp [binOp,Op.intDiv,hb])
         | (have hb:¬ _<(0:Int):=Int.not_lt.2 hc
            simp [binOp,Op.shift,hb])
         | (simp only [binOp,Op.stringOp]
            rw [if_neg (by rw [show IntKind.i64.max=9223372036854775807 from rfl]; omega)]
            rfl))
theorem EA {P:Program} {op:UnOp} {x:AV} {K:AV→Prop} {E:Env} {u:Value} (h:JM op x K) (hx:VR E x u) (w:World) :
    ∃ r z,K r∧VR E r z∧(Op.unary op u).run P w=.ok z w:=by
  unfold JM at h
  split at h <;> first
    | exact False.elim h
    | (obtain ⟨rfl,_⟩:=hx.vI
       exact ⟨_,_,h,.v _ _ rfl,by simp [Op.unary,Op.intArith,Op.intBits]⟩)
theorem na {E:Env}:∀ {as:List AV} {xs:List Value} {us:List Value},uN as=some xs→cb E as us→us=xs
  | [],xs,us,h,hv=>by simp only [uN,Option.some.injEq] at h; subst h; exact hv.unnil
  | a::as,xs,us,h,hv=>by
    obtain ⟨u,us',rfl,ha,hs⟩:=hv.uncons
    unfold uN at h
    split at h
    · rename_i x xs' h1 h2
      simp only [Option.some.injEq] at h
      subst h
      unfold JL at h1
      split at h1
      · simp only [Option.some.injEq] at h1
        subst h1
        rw [ha.vI.1,na h2 hs]
      · cases h1
    · cases h
def FL:Value→Bool
  | .nilIface | .agg _=>false
  | _=>true
theorem jm {op:BinOp} {t:TypeId} {X Y:Operand} {a b:Value} (h:FL a=true):eqGuard op t X Y a b=pure ():=by
  unfold eqGuard
  cases a <;> first | (cases op <;> rfl) | (cases h; done)
theorem s5 {P:Program} {t:TypeId} {u v:Value} {b:Bool} {w:World} (h:∀ d:Nat,(Op.equalIn (d + 1) t u v).run P w=.ok b w):(Op.equal t u v).run P w=.ok b w:=h 9999
theorem yy {P:Program} {t:TypeId} (hu:P.underlying t=some .bool) (a b:Bool) (w:World) (d:Nat):(Op.equalIn (d + 1) t (.bool a) (.bool b)).run P w=.ok (a==b) w:=by
  unfold Op.equalIn
  rw [Sem.run_bind,run_underlying hu]
  rfl
theorem ue {P:Program} {t:TypeId} {x y:AV} {E:Env} {u v:Value} {b:Bool} (hk:kindOk P t x y=true) (h:Dm x y=some b) (hx:VR E x u) (hy:VR E y v) (w:World) :
    (Op.equal t u v).run P w=.ok b w∧FL u=true∧(binOp .eql t u v).run P w=((Op.equal t u v).run P w).andThen (fun r w=>.ok (.bool r) w)∧(binOp .neq t u v).run P w=((Op.equal t u v).run P w).andThen (fun r w=>.ok (.bool (!r)) w):=by
  have key:(∀ d:Nat,(Op.equalIn (d + 1) t u v).run P w=.ok b w)→FL u=true∧binOp .eql t u v=(do pure (.bool (← Op.equal t u v)))∧binOp .neq t u v=(do pure (.bool (!(← Op.equal t u v)))) →
      (Op.equal t u v).run P w=.ok b w∧FL u=true∧(binOp .eql t u v).run P w=((Op.equal t u v).run P w).andThen (fun r w=>.ok (.bool r) w)∧(binOp .neq t u v).run P w=((Op.equal t u v).run P w).andThen (fun r w=>.ok (.bool (!r)) w) :=
    fun h1 h2=>⟨s5 h1,h2.1,by rw [h2.2.1,Sem.run_bind]; rfl,by rw [h2.2.2,Sem.run_bind]; rfl⟩
  unfold Dm at h
  split at h
  all_goals first
    | (cases h; done)
    | (simp only [Option.some.injEq] at h
       subst h
       unfold kindOk at hk
       split at hk
       all_goals first
         | (cases hk; done)
         | (cases hx <;> cases hy <;> have hu:=‹P.underlying t=some _› <;> first
              | (refine key (fun d=>?_) ⟨rfl,rfl,rfl⟩; unfold Op.equalIn; rw [Sem.run_bind,run_underlying hu]; rfl)
              | (exfalso; simp_all; done)))
theorem Co {P:Program} {op:BinOp} {t:TypeId} {x y:AV} {K:AV→Prop} {E:Env} {u v:Value} (hk:kindOk P t x y=true) (h:FC op x y K) (hx:VR E x u) (hy:VR E y v) (w:World) (X Y:Operand) :
    ∃ r z,K r∧VR E r z∧(do eqGuard op t X Y u v; binOp op t u v:Sem Value).run P w=.ok z w:=by
  unfold FC at h
  split at h
  · split at h
    · rename_i b hb
      obtain ⟨h1,h2,h3⟩:=ue hk hb hx hy w
      exact ⟨_,_,h,.v _ _ rfl,by rw [jm h2]; simp [h3.1,h1]⟩
    · exact False.elim h
  · split at h
    · rename_i b hb
      obtain ⟨h1,h2,h3⟩:=ue hk hb hx hy w
      exact ⟨_,_,h,.v _ _ rfl,by rw [jm h2]; simp [h3.2,h1]⟩
    · exact False.elim h
  · exact False.elim h
theorem vQ {P:Program} {op:BinOp} {t:TypeId} {x y:AV} {K:AV→Prop} {E:Env} {u v:Value} (h:Cd P op t x y K) (hx:VR E x u) (hy:VR E y v) (w:World) (X Y:Operand) :
    ∃ r z,K r∧VR E r z∧(do eqGuard op t X Y u v; binOp op t u v:Sem Value).run P w=.ok z w:=by
  unfold Cd at h
  split at h
  · rename_i a b
    obtain ⟨rfl,pa⟩:=hx.vI
    obtain ⟨rfl,pb⟩:=hy.vI
    have hg:(eqGuard op t X Y u v).run P w=.ok () w:=by
      rw [jm (by cases u <;> first | rfl | (cases pa; done))]
      rfl
    unfold yo at h
    split at h
    · rename_i c hc
      obtain ⟨h1,h2⟩:=Cn (P:=P) hc t w
      exact ⟨_,_,h,.v _ _ h2,by simp [hg,h1]⟩
    · split at h
      · unfold AC at h
        split at h
        · rename_i hu
          split at h <;> first
            | exact False.elim h
            | (refine ⟨_,_,h,.v _ _ rfl,?_⟩
               rw [Sem.run_bind,hg,Result.andThen_ok]
               first
                 | (show (Op.equal t (.bool _) (.bool _) >>= fun r=>(pure (Value.bool r):Sem Value)).run P w=_
                    rw [Sem.run_bind,s5 (yy hu _ _ w)]
                    rfl)
                 | (show (Op.equal t (.bool _) (.bool _) >>= fun r=>(pure (Value.bool (!r)):Sem Value)).run P w=_
                    rw [Sem.run_bind,s5 (yy hu _ _ w)]
                    rfl))
        · exact False.elim h
      · obtain ⟨c,hK,h1,h2⟩:=AJ (P:=P) h t w
        exact ⟨_,_,hK,.v _ _ h2,by simp [hg,h1]⟩
  · rename_i as bs
    obtain ⟨us,rfl,hus⟩:=hx.aggI
    obtain ⟨ws,rfl,hws⟩:=hy.aggI
    split at h
    · rename_i xs ys h1 h2
      have e1:=na h1 hus
      have e2:=na h2 hws
      split at h
      · rename_i b hb
        have hr:=eO _ w hb
        refine ⟨_,_,h,.v _ _ rfl,?_⟩
        have e3:us=xs.toArray:=by rw [← e1]
        have e4:ws=ys.toArray:=by rw [← e2]
        subst e3 e4
        rw [← hr]
        rfl
      · exact False.elim h
    · exact False.elim h
  · obtain ⟨hk,h⟩:=ac h
    exact Co hk h hx hy w X Y
theorem run_sizeOf {P:Program} {t:TypeId} {i:TypeInfo} (h:P.info? t=some i) (w:World):(sizeOf t).run P w=.ok i.size w:=by
  unfold sizeOf
  rw [Sem.run_bind,run_typeInfo w h]
  rfl
theorem kJ {P:Program} {t:TypeId} {d:TypeDesc} (h:P.underlying t=some d) (w:World):(isAgg t).run P w=.ok (match d with | .struct _ | .array _ _=>true | _=>false) w:=by
  unfold isAgg
  rw [Sem.run_bind,run_underlying h,Result.andThen_ok]
  cases d <;> rfl
theorem vR {P:Program} {t:TypeId} {row:List AV} {j:Nat} {k:AV→Prop} {E:Env} {us:Array Value} (h:iL P t row j k) (hr:cb E row us.toList) (w:World) :
    ∃ r u,k r∧VR E r u∧(part t us j).run P w=.ok u w:=by
  have agg:∀ i,P.info? t=some i→bG (Nat.ble (j + i.size) row.length) (iJ ((row.drop j).take i.size) fun cs=>k (.agg cs))→(isAgg t).run P w=.ok true w →
      ∃ r u,k r∧VR E r u∧(part t us j).run P w=.ok u w:=by
    intro i hi h ha
    obtain ⟨hl,hk⟩:=ac h
    rw [dD] at hk
    refine ⟨_,.agg (us.extract j (j + i.size)),hk,cb.aggV ?_,?_⟩
    · have:=(hr.drop j).take i.size
      rw [Array.toList_extract]
      simpa [List.extract] using this
    · unfold part
      rw [Sem.run_bind,ha,Result.andThen_ok,if_pos rfl,Sem.run_bind,run_sizeOf hi]
      rfl
  unfold iL at h
  split at h
  · rename_i hu
    split at h
    · rename_i i hi
      exact agg i hi h (by rw [kJ hu])
    · exact False.elim h
  · rename_i hu
    split at h
    · rename_i i hi
      exact agg i hi h (by rw [kJ hu])
    · exact False.elim h
  · rename_i d h1 h2 hu
    split at h
    · rename_i c hc
      obtain ⟨u,hu',hv⟩:=hr.get hc
      refine ⟨_,_,h,hv,?_⟩
      unfold part
      have ha:(isAgg t).run P w=.ok false w:=by
        rw [kJ hu]
        cases d <;> first | rfl | (exact absurd rfl (h1 _)) | (exact absurd rfl (h2 _ _))
      rw [Sem.run_bind,ha,Result.andThen_ok,if_neg (by simp)]
      rw [Array.getElem?_toList] at hu'
      rw [hu']
      rfl
    · exact False.elim h
  · exact False.elim h
theorem fj (b o m:Nat):(⟨b,o,none⟩:Addr).add m=⟨b,o + m,none⟩:=by
  unfold Addr.add
  split
  · rename_i h; subst h; rfl
  · rfl
theorem kK (w:World) (b i:Nat):w.cell? ⟨b,i,none⟩=dI w.heap b i:=by
  unfold World.cell? dI
  split <;> simp_all
theorem qH {P:Program} {t:TypeId} {row:List AV} {j:Nat} {k:AV→Prop} {E:Env} {us:List Value} {b o:Nat} (h:iL P t row j k) (hr:cb E row us) (w:World)
    (hc:∀ (m:Nat) (u:Value),us[m]?=some u→dI w.heap b (o + m)=some u) :
    ∃ r u,k r∧VR E r u∧(Instr.loadAt t (.pointer (some ⟨b,o + j,none⟩))).run P w=.ok u w:=by
  have agg:∀ i,P.info? t=some i→bG (Nat.ble (j + i.size) row.length) (iJ ((row.drop j).take i.size) fun cs=>k (.agg cs))→(isAgg t).run P w=.ok true w →
      ∃ r u,k r∧VR E r u∧(Instr.loadAt t (.pointer (some ⟨b,o + j,none⟩))).run P w=.ok u w:=by
    intro i hi h ha
    obtain ⟨hl,hk⟩:=ac h
    rw [dD] at hk
    have hle:j + i.size≤us.length:=by rw [← hr.1]; exact Nat.le_of_ble_eq_true hl
    have hlen:((us.drop j).take i.size).length=i.size:=by simp; omega
    refine ⟨_,.agg ((us.drop j).take i.size).toArray,hk,cb.aggV (by simpa using (hr.drop j).take i.size),?_⟩
    have hrun:=run_loadCells_list (P:=P) (w:=w) ⟨b,o + j,none⟩ ((us.drop j).take i.size) (fun m v hv=>by
      rw [fj,kK,Nat.add_assoc]
      refine hc _ _ ?_
      rw [List.getElem?_take] at hv
      split at hv
      · rw [List.getElem?_drop] at hv
        exact hv
      · cases hv)
    rw [hlen] at hrun
    unfold Instr.loadAt Instr.sureAddr loadVar
    simp only [Sem.run_bind,Sem.run_pure,Result.andThen_ok,ha,if_true,run_sizeOf hi,hrun]
  unfold iL at h
  split at h
  · rename_i hu
    split at h
    · rename_i i hi
      exact agg i hi h (by rw [kJ hu])
    · exact False.elim h
  · rename_i hu
    split at h
    · rename_i i hi
      exact agg i hi h (by rw [kJ hu])
    · exact False.elim h
  · rename_i d h1 h2 hu
    split at h
    · rename_i c hcc
      obtain ⟨u,hu',hv⟩:=hr.get hcc
      refine ⟨_,_,h,hv,?_⟩
      have ha:(isAgg t).run P w=.ok false w:=by
        rw [kJ hu]
        cases d <;> first | rfl | (exact absurd rfl (h1 _)) | (exact absurd rfl (h2 _ _))
      unfold Instr.loadAt Instr.sureAddr loadVar
      have hcell:w.cell? ⟨b,o + j,none⟩=some u:=by rw [kK]; exact hc _ _ hu'
      simp [ha,hcell]
    · exact False.elim h
  · exact False.elim h
theorem AK:∀ (xs cs:List AV) (m:Nat),(over xs cs)[m]?=if m<cs.length∧m<xs.length then cs[m]? else xs[m]?
  | xs,[],m=>by simp [over]
  | [],c::cs,m=>by simp [over]
  | x::xs,c::cs,0=>by simp [over]
  | x::xs,c::cs,m + 1=>by
    have:=AK xs cs m
    simp only [over,List.getElem?_cons_succ,List.length_cons,this]
    by_cases h:m<cs.length∧m<xs.length
    · rw [if_pos h,if_pos (by omega)]
    · rw [if_neg h,if_neg (by omega)]
theorem uf:∀ (xs cs:List AV),(over xs cs).length=xs.length
  | xs,[]=>by simp [over]
  | [],c::cs=>by simp [over]
  | x::xs,c::cs=>by simp [over,uf xs cs]
theorem qI:∀ (row:List AV) (n:Nat) (cs:List AV) (m:Nat),(splice row n cs)[m]?=if n≤m∧m<n + cs.length∧m<row.length then cs[m - n]? else row[m]?
  | row,0,cs,m=>by
    have:=AK row cs m
    have e:splice row 0 cs=over row cs:=by cases row <;> rfl
    rw [e,this]
    simp
  | [],n + 1,cs,m=>by simp [splice]
  | x::xs,n + 1,cs,0=>by simp [splice]
  | x::xs,n + 1,cs,m + 1=>by
    have:=qI xs n cs m
    simp only [splice,List.getElem?_cons_succ,List.length_cons,this,Nat.add_sub_add_right]
    by_cases h:n≤m∧m<n + cs.length∧m<xs.length
    · rw [if_pos h,if_pos (by omega)]
    · rw [if_neg h,if_neg (by omega)]
theorem gQ:∀ (row:List AV) (n:Nat) (cs:List AV),(splice row n cs).length=row.length
  | row,0,cs=>by
    have e:splice row 0 cs=over row cs:=by cases row <;> rfl
    rw [e,uf]
  | [],n + 1,cs=>rfl
  | x::xs,n + 1,cs=>by simp [splice,gQ xs n cs]
def co (us:Array Value) (off:Nat):List Value→Nat→Array Value
  | [],_=>us
  | v::vs,i=>co (us.setIfInBounds (off + i) v) off vs (i + 1)
theorem cI:∀ (vs:List Value) (us:Array Value) (off i:Nat),(co us off vs i).size=us.size
  | [],_,_,_=>rfl
  | v::vs,us,off,i=>by rw [co,cI vs]; simp
theorem jn:∀ (vs:List Value) (us:Array Value) (off i m:Nat),(co us off vs i)[m]?=if off + i≤m∧m<off + i + vs.length∧m<us.size then vs[m - (off + i)]? else us[m]?
  | [],us,off,i,m=>by
    rw [if_neg (by simp; omega)]
    rfl
  | v::vs,us,off,i,m=>by
    rw [co,jn vs]
    simp only [Array.size_setIfInBounds,List.length_cons,Array.getElem?_setIfInBounds]
    by_cases h1:off + (i + 1)≤m∧m<off + (i + 1) + vs.length∧m<us.size
    · rw [if_pos h1,if_pos (by omega),show m - (off + i)=(m - (off + (i + 1))) + 1 by omega]
      rfl
    · rw [if_neg h1]
      by_cases h2:off + i=m
      · subst h2
        rw [if_pos rfl]
        by_cases h3:off + i<us.size
        · rw [if_pos h3,if_pos (by omega)]; simp
        · rw [if_neg h3,if_neg (by omega)]
          simp [Array.getElem?_eq_none (Nat.le_of_not_lt h3)]
      · rw [if_neg h2,if_neg (by omega)]
theorem rF:∀ (vs:List Value) (us:Array Value) (off i:Nat),(vs.zipIdx i).foldl (fun cs (x:Value×Nat)=>cs.setIfInBounds (off + x.2) x.1) us=co us off vs i
  | [],_,_,_=>rfl
  | v::vs,us,off,i=>by
    rw [List.zipIdx_cons,List.foldl_cons,rF vs]
    rfl
theorem cb.splice {E:Env} {row cs:List AV} {us:Array Value} {vs:List Value} (h:cb E row us.toList) (k:cb E cs vs) (n:Nat):cb E (splice row n cs) (co us n vs 0).toList:=by
  have hl:row.length=us.size:=by simpa using h.1
  refine ⟨by have:=cI vs us n 0; simp [gQ,this,hl],fun m c u h1 h2=>?_⟩
  rw [qI] at h1
  rw [Array.getElem?_toList,jn] at h2
  simp only [Nat.add_zero] at h2
  by_cases hc:n≤m∧m<n + cs.length∧m<row.length
  · rw [if_pos hc] at h1
    rw [if_pos (by rw [← k.1,← hl]; exact hc)] at h2
    exact k.2 _ c u h1 h2
  · rw [if_neg hc] at h1
    rw [if_neg (by rw [← k.1,← hl]; exact hc)] at h2
    exact h.2 m c u h1 (by rw [Array.getElem?_toList]; exact h2)
def oI:Value→Bool
  | .agg _ | .tuple _=>false
  | _=>true
theorem qJ {E:Env} {c:AV} {u:Value} (h:kV c=true) (hv:VR E c u):oI u=true:=by
  cases hv <;> first | rfl | (cases h; done) | (rename_i hp; revert hp; cases u <;> intro hp <;> first | rfl | (cases hp; done))
theorem zG {u:Value} (h:oI u=true):u.cells=#[u]:=by
  cases u <;> first | rfl | (cases h; done)
theorem nd {E:Env} {a:AV} {u:Value} {k:List AV→Prop} (h:m7 a k) (hv:VR E a u):∃ cs,k cs∧cb E cs u.cells.toList∧∀ c∈cs,kV c=true:=by
  unfold m7 at h
  split at h
  · obtain ⟨us,rfl,hs⟩:=hv.aggI
    obtain ⟨h1,h2⟩:=ac h
    exact ⟨_,h2,hs,fun c hc=>List.all_eq_true.1 h1 c hc⟩
  · exact False.elim h
  · exact False.elim h
  · rename_i h1 h2 h3
    have ho:kV a=true:=by
      cases a <;> first | rfl | (exact (h1 _ rfl).elim) | (exact (h2 rfl).elim) | (exact (h3 _ rfl).elim)
    refine ⟨_,h,?_,fun c hc=>by simp at hc; subst hc; exact ho⟩
    rw [zG (qJ ho hv)]
    exact .cons hv (.nil E)
theorem cO {P:Program} {e:TypeId} {k:List AV→Prop} (h:cE P e k):∃ i z cs,P.info? e=some i∧i.zero=some z∧z.cells.size=i.size∧k cs∧∀ E,cb E cs z.cells.toList:=by
  unfold cE at h
  split at h
  · rename_i i hi
    split at h
    · rename_i z hz
      obtain ⟨h1,h2⟩:=ac h
      rw [ik] at h2
      refine ⟨i,z,_,hi,hz,by simpa using h1,h2,fun E=>⟨by simp,fun m c u h3 h4=>?_⟩⟩
      rw [List.getElem?_map,Option.map_eq_some_iff] at h3
      obtain ⟨y,hy,rfl⟩:=h3
      rw [hy] at h4
      cases h4
      exact s4
    · exact False.elim h
  · exact False.elim h
def KD (E:Env) (ps:List (Nat×AV)) (qs:List (Nat×Value)):Prop :=
  ps.map (·.1)=qs.map (·.1)∧cb E (ps.map (·.2)) (qs.map (·.2))
theorem k_ {E:Env} {place:Nat→Option (Nat×Nat)} {k:List AV→Prop}:∀ {ps:List (Nat×AV)} {qs:List (Nat×Value)} {cells:List AV} {us:Array Value},KD E ps qs→cb E cells us.toList →
    nN place cells ps k→∃ cs us',k cs∧cb E cs us'.toList∧us'.size=us.size∧Instr.fill place us qs=some us'
  | [],qs,cells,us,hp,hc,h=>by
    have:qs=[]:=by have:=hp.1; simpa using this.symm
    subst this
    exact ⟨_,us,dD.1 h,hc,rfl,rfl⟩
  | (i,x)::ps,qs,cells,us,hp,hc,h=>by
    cases qs with
    | nil=>have:=hp.1; simp at this
    | cons q qs =>
      obtain ⟨i',v⟩:=q
      have h1:=hp.1
      simp only [List.map_cons,List.cons.injEq] at h1
      obtain ⟨rfl,h1⟩:=h1
      have h2:=hp.2
      simp only [List.map_cons] at h2
      obtain ⟨u,us',e,hx,hs⟩:=h2.uncons
      simp only [List.cons.injEq] at e
      obtain ⟨rfl,rfl⟩:=e
      unfold nN at h
      split at h
      · rename_i off size hpl
        obtain ⟨cs,h,hcs,_⟩:=nd h hx
        obtain ⟨hb,h⟩:=ac h
        simp only [Bool.and_eq_true] at hb
        have e1:cs.length=size:=Nat.eq_of_beq_eq_true hb.1
        have e2:off + cs.length≤cells.length:=Nat.le_of_ble_eq_true hb.2
        have e3:cs.length=v.cells.size:=by simpa using hcs.1
        have e4:cells.length=us.size:=by simpa using hc.1
        have hc':=hc.splice hcs off
        obtain ⟨cs',us',hk,hv,hsz,hf⟩:=k_ (ps:=ps) (qs:=qs) ⟨h1,hs⟩ hc' h
        refine ⟨cs',us',hk,hv,by rw [hsz,cI],?_⟩
        unfold Instr.fill
        rw [hpl]
        simp only
        rw [if_neg (by simp; omega)]
        have:=rF v.cells.toList us off 0
        rw [← hf]
        congr 1
        rw [← this,← Array.foldl_toList,Array.toList_zipIdx]
      · exact False.elim h
end A
end Go.Proofs.Ytaiokpalfdbnnaa
