/- The evaluator and what its values stand for. Nothing is claimed here of the program. -/
import Derived.Calls
import Derived.Still
import Derived.Below
import Derived.Laws.Cells
import Derived.Laws.Entries
import Derived.ChangeKeysEq
namespace Go.Proofs.Ytaekcekecdocnaa
namespace A
open Go
inductive Key where
  | L (d:Nat)
  | O (i:Nat)
  | S (id i:Nat)
  deriving DecidableEq
def Key.isS:Key→Bool
  | .S _ _=>true
  | _=>false
inductive AV where
  | bad
  | v (x:Value)
  | nilp
  | ptr (k:Key) (i j:Nat)
  | fptr (row:List AV) (j:Nat)
  | nilsl
  | esl
  | sl (rows:List (List AV))
  | mf (id:Nat)
  | mfx (id:Nat)
  | nn
  | ene
  | msl (id off len ext:Nat)
  | bsl (k:Key) (off len:Nat)
  | nilmap
  | mp (id:Nat)
  | nilfn
  | fn (f:Nat) (first cap:List AV)
  | yld (id:Nat)
  | agg (cs:List AV)
  | tup (vs:List AV)
structure aD where
  esc:List Nat
  ms:List Nat
  bx:List Nat
  st:List Nat
  fz:List Nat:=[]
  dc:List Nat:=[]
  ow:List Nat:=[]
  oh:List Nat:=[]
  cl:List Nat:=[]
  fr:List Nat:=[]
  ix:List (Nat×Nat):=[]
  nn:List Nat:=[]
  pk:List Nat:=[]
  nw:List Nat:=[]
inductive Ob where
  | arr (fl:Bool) (sz:Nat) (rows:List (List AV))
  | mapo (fl:Bool) (es:List (AV×AV))
  | own (ks:Option (List AV)) (sz:Nat) (cells:List (Option (List (List AV)))) (hole:Option (Nat×AV))
  | lp (pl:aD) (ps:List Nat) (t:List AV) (asg body:Code) (st:Nat)
  | dead
structure St where
  t:List AV
  l:List (Nat×List AV)
  o:List Ob
  b:Nat
inductive Ex where
  | nrm
  | ex (id:Nat)
  | ret
structure Ctx where
  P:Program
  pure:Nat→Bool
  pol:Nat→aD
  pcall:Nat→List AV→(AV→Prop)→Prop
  scall:Nat→List AV→List Ob→(AV→List Ob→Prop)→Prop
  loop:aD→Code→St→(Ex→St→Prop)→Prop
  ycall:Nat→List AV→List Ob→(AV→List Ob→Prop)→Prop:=fun _ _ _ _=>False
  rf:Bool:=false
def ac (_n:Nat):Prop:=False
def q9 (b:Bool) (X Y:Prop):Prop:=match b with | true=>X | false=>Y
def aB (b:Bool) (X:Prop):Prop:=match b with | true=>X | false=>ac 1
def dX (a:AV) (k:AV→Prop):Prop :=
  match a with
  | .bad=>k .bad
  | .v x=>k (.v x)
  | .nilp=>k .nilp
  | .ptr x i j=>k (.ptr x i j)
  | .fptr r j=>k (.fptr r j)
  | .nilsl=>k .nilsl
  | .esl=>k .esl
  | .sl r=>k (.sl r)
  | .mf i=>k (.mf i)
  | .mfx i=>k (.mfx i)
  | .nn=>k .nn
  | .ene=>k .ene
  | .msl i a b c=>k (.msl i a b c)
  | .bsl x a b=>k (.bsl x a b)
  | .nilmap=>k .nilmap
  | .mp i=>k (.mp i)
  | .nilfn=>k .nilfn
  | .fn f a b=>k (.fn f a b)
  | .yld i=>k (.yld i)
  | .agg c=>k (.agg c)
  | .tup c=>k (.tup c)
def dI:List AV→(List AV→Prop)→Prop
  | [],k=>k []
  | x::xs,k=>dI xs fun ys=>k (x::ys)
def jT:List AV→(List AV→Prop)→Prop
  | [],k=>k []
  | x::xs,k=>dX x fun y=>jT xs fun ys=>k (y::ys)
def ji:List AV→Nat→(AV→Prop)→Prop
  | [],_,_=>ac 2
  | x::_,0,k=>k x
  | _::xs,n + 1,k=>ji xs n k
def kJ:List AV→Nat→AV→(List AV→Prop)→Prop
  | [],_,_,k=>k []
  | _::xs,0,v,k=>k (v::xs)
  | x::xs,n + 1,v,k=>kJ xs n v fun ys=>k (x::ys)
def mw:Value→AV
  | .bool b=>.v (.bool b)
  | .int k n=>.v (.int k n)
  | .float k n=>.v (.float k n)
  | .string s=>.v (.string s)
  | .pointer none=>.nilp
  | .slice none 0 0=>.nilsl
  | .map none=>.nilmap
  | .nilFunc=>.nilfn
  | _=>.bad
def uF:Value→AV
  | .agg cs=>.agg (cs.toList.map mw)
  | x=>mw x
def xX (_:Nat):Option (List AV):=none
def a_ (S:St) (x:Operand) (k:AV→Prop):Prop :=
  match x with
  | .tmp t=>ji S.t t k
  | .const c=>dX (uF c) k
  | .func f=>k (.fn f [] [])
  | .global g=>match xX g with | some row=>k (.fptr row 0) | none=>ac 3
def bC (S:St):List Operand→(List AV→Prop)→Prop
  | [],k=>k []
  | x::xs,k=>a_ S x fun a=>bC S xs fun as=>k (a::as)
def aA (dst:Option Tmp) (a:AV) (S:St) (K:St→Prop):Prop :=
  match dst with
  | none=>K S
  | some d=>kJ S.t d a fun t=>K { t:=t,l:=S.l,o:=S.o,b:=S.b }
def mz (d:Nat) (S:St) (k:Bool→St→Prop):Prop :=
  ji S.t d fun a =>
    match a with
    | .v (.bool b)=>q9 b (kJ S.t d (.v (.bool true)) fun t=>k true { t:=t,l:=S.l,o:=S.o,b:=S.b }) (kJ S.t d (.v (.bool false)) fun t=>k false { t:=t,l:=S.l,o:=S.o,b:=S.b })
    | _=>ac 4
def gX (c:Operand) (S:St) (k:Bool→St→Prop):Prop :=
  match c with
  | .tmp d=>mz d S k
  | .const (.bool b)=>q9 b (k true S) (k false S)
  | _=>ac 5
def q6 (sz:Nat):Bool:=Nat.ble 65536 sz
def mB (sz:Nat):Nat:=match q6 sz with | true=>sz - 65536 | false=>sz
def vB (sz k:Nat):AV:=match q6 sz with | true=>.mfx k | false=>.mf k
def zC (a:AV):AV:=match a with | .mfx k=>.mf k | a=>a
def yO (a:AV):AV:=match a with | .mf k=>.mfx k | _=>.bad
def zk (b:Bool) (a:AV):AV:=match b with | true=>yO a | false=>a
def xY (b:Bool):AV:=match b with | true=>.ene | false=>.esl
def a5:Nat→Key→AV→AV
  | 0,_,_=>.bad
  | n + 1,k,a =>
    match a with
    | .ptr k' i j=>if k'=k then .bad else .ptr k' i j
    | .mf id=>if Key.O id=k then .bad else .mf id
    | .mfx id=>if Key.O id=k then .bad else .mfx id
    | .msl id a b c=>if Key.O id=k then .bad else .msl id a b c
    | .bsl k' a b=>if k'=k then .bad else .bsl k' a b
    | .mp id=>if Key.O id=k then .bad else .mp id
    | .yld id=>if Key.O id=k then .bad else .yld id
    | .fn f x y=>.fn f (x.map (a5 n k)) (y.map (a5 n k))
    | .agg cs=>.agg (cs.map (a5 n k))
    | .tup cs=>.tup (cs.map (a5 n k))
    | a=>a
def eZ (k:Key):List AV→(List AV→Prop)→Prop
  | [],K=>K []
  | x::xs,K=>dX (a5 4 k x) fun y=>eZ k xs fun ys=>K (y::ys)
def gk (k:Key):List (Nat×List AV)→(List (Nat×List AV)→Prop)→Prop
  | [],K=>K []
  | (d,c)::xs,K=>eZ k c fun c'=>gk k xs fun ys=>K ((d,c')::ys)
def bw (k:Key):Ob→Ob
  | .arr false sz rows=>.arr false sz (rows.map (List.map (a5 4 k)))
  | .mapo false es=>.mapo false (es.map fun e=>(e.1,a5 4 k e.2))
  | .own ks sz cells (some h)=>.own ks sz cells (some (h.1,a5 4 k h.2))
  | .lp pl ps t asg body st=>.lp pl ps (t.map (a5 4 k)) asg body st
  | o=>o
def cU (k:Key):List Ob→(List Ob→Prop)→Prop
  | [],K=>K []
  | .arr true sz rows::xs,K=>cU k xs fun ys=>K (.arr true sz rows::ys)
  | .dead::xs,K=>cU k xs fun ys=>K (.dead::ys)
  | .mapo true es::xs,K=>cU k xs fun ys=>K (.mapo true es::ys)
  | .arr false sz rows::xs,K=>cU k xs fun ys=>K (.arr false sz (rows.map (List.map (a5 4 k)))::ys)
  | .mapo false es::xs,K=>cU k xs fun ys=>K (.mapo false (es.map fun e=>(e.1,a5 4 k e.2))::ys)
  | .own ks sz cells none::xs,K=>cU k xs fun ys=>K (.own ks sz cells none::ys)
  | .own ks sz cells (some h)::xs,K=>cU k xs fun ys=>K (.own ks sz cells (some (h.1,a5 4 k h.2))::ys)
  | .lp pl ps t asg body st::xs,K=>cU k xs fun ys=>K (.lp pl ps (t.map (a5 4 k)) asg body st::ys)
def bD:Nat→AV→Bool
  | 0,_=>false
  | n + 1,a =>
    match a with
    | .v _ | .nilp | .fptr .. | .nilsl | .esl | .sl _ | .nilmap | .nilfn=>true
    | .fn _ x y=>x.all (bD n)&&y.all (bD n)
    | .agg cs | .tup cs=>cs.all (bD n)
    | _=>false
def jU:Nat→AV→Bool
  | 0,_=>false
  | n + 1,a =>
    match a with
    | .ptr (.L _) _ _ | .bsl (.L _) _ _ | .bad=>false
    | .fn _ x y=>x.all (jU n)&&y.all (jU n)
    | .agg cs | .tup cs=>cs.all (jU n)
    | _=>true
def gl:AV→Bool
  | .bad | .agg _ | .tup _=>false
  | _=>true
def mC:Nat→AV→Bool
  | 0,_=>false
  | n + 1,a =>
    match a with
    | .v _ | .nilp | .nilsl | .esl | .nilmap | .nilfn=>true
    | .agg cs | .tup cs=>cs.all (mC n)
    | _=>false
def q_ (size:Nat):List (List AV)→Bool
  | []=>true
  | r::_=>Nat.beq r.length size
def gm (a:AV) (k:List AV→Prop):Prop :=
  match a with
  | .agg cs=>aB (cs.all gl) (k cs)
  | .bad | .tup _=>ac 6
  | a=>k [a]
def over:List AV→List AV→List AV
  | xs,[]=>xs
  | [],_=>[]
  | _::xs,c::cs=>c::over xs cs
def splice:List AV→Nat→List AV→List AV
  | row,0,cs=>over row cs
  | [],_ + 1,_=>[]
  | x::xs,n + 1,cs=>x::splice xs n cs
def ap:List (Nat×List AV)→Nat→Option (List AV)
  | [],_=>none
  | (d,c)::xs,e=>if d=e then some c else ap xs e
def iV:List (Nat×List AV)→Nat→List (Nat×List AV)
  | [],_=>[]
  | (d,c)::xs,e=>if d=e then iV xs e else (d,c)::iV xs e
def jV:List (Nat×List AV)→Nat→List AV→List (Nat×List AV)
  | [],_,_=>[]
  | (d,c)::xs,e,c'=>if d=e then (d,c')::xs else (d,c)::jV xs e c'
def gY:List (Nat×List AV)→(List (Nat×List AV)→Prop)→Prop
  | [],k=>k []
  | (d,c)::xs,k=>gY xs fun ys=>k ((d,c)::ys)
def ay:List Ob→(List Ob→Prop)→Prop
  | [],k=>k []
  | x::xs,k=>ay xs fun ys=>k (x::ys)
def om (S:St) (key:Key) (i:Nat) (k:List AV→Prop):Prop :=
  match key with
  | .L d =>
    match ap S.l d with
    | some row=>match i with | 0=>k row | _ + 1=>ac 7
    | none=>ac 8
  | .O id =>
    match S.o[id]? with
    | some (.arr _ _ rows)=>match rows[i]? with | some row=>k row | none=>ac 9
    | _=>ac 10
  | .S _ _=>ac 11
def vC (S:St) (a:AV) (k:List AV→Nat→Prop):Prop :=
  match a with
  | .ptr key i j=>om S key i fun row=>k row j
  | .fptr row j=>k row j
  | _=>ac 11
def dJ (P:Program) (t:TypeId) (row:List AV) (j:Nat) (k:AV→Prop):Prop :=
  match P.underlying t with
  | some (.struct _) | some (.array _ _) =>
    match P.info? t with
    | some i=>aB (Nat.ble (j + i.size) row.length) (dI ((row.drop j).take i.size) fun cs=>k (.agg cs))
    | none=>ac 12
  | some _=>match row[j]? with | some c=>k c | none=>ac 13
  | none=>ac 14
def fV (S:St) (a:AV) (cs:List AV) (K:St→Prop):Prop :=
  match a with
  | .ptr (.L d) i j =>
    match ap S.l d with
    | some row =>
      match i with
      | 0=>aB (Nat.ble (j + cs.length) row.length) (dI (splice row j cs) fun row'=>gY (jV S.l d row') fun l=>K { t:=S.t,l:=l,o:=S.o,b:=S.b })
      | _ + 1=>ac 15
    | none=>ac 16
  | .ptr (.O id) i j =>
    match S.o[id]? with
    | some (.arr fl sz rows) =>
      match rows[i]? with
      | some row=>aB (Nat.ble (j + cs.length) row.length&&cs.all (jU 4)) (dI (splice row j cs) fun row'=>ay (S.o.set id (.arr (fl&&cs.all (bD 4)) sz (rows.set i row'))) fun o=>K { t:=S.t,l:=S.l,o:=o,b:=S.b })
      | none=>ac 17
    | _=>ac 18
  | _=>ac 19
def wS (op:BinOp) (x y:Value):Option Value :=
  match x,y with
  | .int k a,.int k' b =>
    match op with
    | .add=>if k=k' then some (.int k (k.wrap (a + b))) else none
    | .sub=>if k=k' then some (.int k (k.wrap (a - b))) else none
    | .mul=>if k=k' then some (.int k (k.wrap (a * b))) else none
    | .eql=>if k=k' then some (.bool (a==b)) else none
    | .neq=>if k=k' then some (.bool (a != b)) else none
    | .lss=>if k=k' then some (.bool (a<b)) else none
    | .leq=>if k=k' then some (.bool (a≤b)) else none
    | .gtr=>if k=k' then some (.bool (a>b)) else none
    | .geq=>if k=k' then some (.bool (a≥b)) else none
    | .and=>if k=k' then some (.int k (k.wrap (BitVec.ofInt k.bits a &&& BitVec.ofInt k.bits b).toNat)) else none
    | .or=>if k=k' then some (.int k (k.wrap (BitVec.ofInt k.bits a ||| BitVec.ofInt k.bits b).toNat)) else none
    | .xor=>if k=k' then some (.int k (k.wrap (BitVec.ofInt k.bits a ^^^ BitVec.ofInt k.bits b).toNat)) else none
    | .andNot=>if k=k' then some (.int k (k.wrap (BitVec.ofInt k.bits a &&& ~~~ BitVec.ofInt k.bits b).toNat)) else none
    | _=>none
  | .string a,.string b =>
    match op with
    | .eql=>some (.bool (a.toList==b.toList))
    | .neq=>some (.bool (!(a.toList==b.toList)))
    | .lss=>some (.bool (Op.bytesLess a.toList b.toList))
    | _=>none
  | _,_=>none
def mD (op:BinOp) (x y:Value) (K:Value→Prop):Prop :=
  match op,x,y with
  | .quo,.int k a,.int k' b=>aB (decide (k=k')&&!(b==0)) (K (.int k (k.wrap (a.tdiv b))))
  | .rem,.int k a,.int k' b=>aB (decide (k=k')&&!(b==0)) (K (.int k (a.tmod b)))
  | .shl,.int k a,.int _ b=>aB (decide (0≤b)) (K (.int k (k.wrap (a * 2 ^ (min b.toNat k.bits)))))
  | .shr,.int k a,.int _ b=>aB (decide (0≤b)) (K (.int k (a.fdiv (2 ^ (min b.toNat k.bits)))))
  | .add,.string a,.string b=>aB (decide (((a.size + b.size:Nat):Int)≤9223372036854775807)) (K (.string (a++b)))
  | _,_,_=>ac 20
def yP:AV→Option Value
  | .v x=>some x
  | _=>none
def lX:List AV→Option (List Value)
  | []=>some []
  | a::as=>match yP a,lX as with
    | some x,some xs=>some (x::xs)
    | _,_=>none
def aP {α:Type} (P:Program):Sem α→Option α
  | .pure a=>some a
  | .program k=>aP P (k P)
  | _=>none
def t6 (x y:AV):Option Bool :=
  match x,y with
  | .nilp,.nilp | .nilsl,.nilsl | .nilmap,.nilmap | .nilfn,.nilfn=>some true
  | .ptr ..,.nilp | .nilp,.ptr .. | .fptr ..,.nilp | .nilp,.fptr ..=>some false
  | .sl (_::_),.nilsl | .nilsl,.sl (_::_)=>some false
  | .mp _,.nilmap | .nilmap,.mp _=>some false
  | .fn ..,.nilfn | .nilfn,.fn ..=>some false
  | _,_=>none
def ra (P:Program) (op:BinOp) (t:TypeId) (a b:Bool) (K:AV→Prop):Prop :=
  match P.underlying t with
  | some .bool=>match op with
    | .eql=>K (.v (.bool (a==b)))
    | .neq=>K (.v (.bool (!(a==b))))
    | _=>ac 221
  | _=>ac 222
def oV (P:Program) (op:BinOp) (t:TypeId) (a b:Value) (K:AV→Prop):Prop :=
  match wS op a b with
  | some c=>K (.v c)
  | none=>match a,b with
    | .bool x,.bool y=>ra P op t x y K
    | a,b=>mD op a b fun c=>K (.v c)
def vG (op:BinOp) (x y:AV) (K:AV→Prop):Prop :=
  match op with
  | .eql=>match t6 x y with | some b=>K (.v (.bool b)) | none=>ac 223
  | .neq=>match t6 x y with | some b=>K (.v (.bool (!b))) | none=>ac 224
  | _=>ac 225
def kindOk (P:Program) (t:TypeId) (x y:AV):Bool :=
  match P.underlying t,x,y with
  | some (.pointer _),.nilp,_ | some (.pointer _),_,.nilp=>true
  | some (.slice _),.nilsl,_ | some (.slice _),_,.nilsl=>true
  | some (.map _ _),.nilmap,_ | some (.map _ _),_,.nilmap=>true
  | some (.func _ _ _),.nilfn,_ | some (.func _ _ _),_,.nilfn=>true
  | _,_,_=>false
def vH (P:Program) (op:BinOp) (t:TypeId) (xs ys:List Value):Option Value :=
  aP P (do eqGuard op t (.tmp 0) (.tmp 0) (.agg xs.toArray) (.agg ys.toArray); binOp op t (.agg xs.toArray) (.agg ys.toArray))
def sM (P:Program) (op:BinOp) (t:TypeId) (x y:AV) (K:AV→Prop):Prop :=
  match x,y with
  | .v a,.v b=>oV P op t a b K
  | .agg as,.agg bs =>
    match lX as,lX bs with
    | some xs,some ys =>
      match vH P op t xs ys with
      | some (.bool b)=>K (.v (.bool b))
      | _=>ac 226
    | _,_=>ac 227
  | x,y=>aB (kindOk P t x y) (vG op x y K)
def yQ (op:UnOp) (x:AV) (K:AV→Prop):Prop :=
  match op,x with
  | .not,.v (.bool b)=>K (.v (.bool (!b)))
  | .neg,.v (.int k n)=>K (.v (.int k (k.wrap (0 - n))))
  | .xor,.v (.int k n)=>K (.v (.int k (k.wrap (BitVec.ofInt k.bits (if k.signed then -1 else k.max) ^^^ BitVec.ofInt k.bits n).toNat)))
  | _,_=>ac 28
def a9 (P:Program) (e:TypeId) (k:List AV→Prop):Prop :=
  match P.info? e with
  | some i=>match i.zero with
    | some z=>aB (z.cells.size==i.size) (jT (z.cells.toList.map mw) k)
    | none=>ac 29
  | none=>ac 30
def bh:List Nat→Nat→Bool
  | [],_=>false
  | x::xs,d=>Nat.beq x d||bh xs d
def oW (d:Nat) (S:St) (K:St→Prop):Prop :=
  match ap S.l d with
  | none=>K S
  | some _=>eZ (.L d) S.t fun t=>gk (.L d) (iV S.l d) fun l=>K { t:=t,l:=l,o:=S.o,b:=S.b }
def gn:List Nat→St→(St→Prop)→Prop
  | [],S,K=>K S
  | d::ds,S,K=>oW d S fun S'=>gn ds S' K
def mE:List (Nat×Nat)→Option Nat→Nat→Nat
  | [],_,n=>n
  | (s,j)::ix,d,n=>match d with
    | some e=>match Nat.beq s e with | true=>j | false=>mE ix d n
    | none=>n
def gZ (j:Nat) (o:List Ob) (b:Nat) (ob:Ob) (k:List Ob→Prop):Prop :=
  match (o++List.replicate (j + 1 - o.length) Ob.dead)[j]? with
  | some .dead=>aB (Nat.ble b j) (ay ((o++List.replicate (j + 1 - o.length) Ob.dead).set j ob) k)
  | _=>ac 331
def rb (pl:aD) (dst:Option Tmp) (cs:List AV) (S:St) (K:St→Prop):Prop :=
  match dst with
  | none=>ac 31
  | some d=>aB (Nat.blt 0 cs.length) (
    match bh pl.esc d with
    | true=>aB (cs.all (jU 4)) (gZ (mE pl.ix (some d) S.o.length) S.o S.b (.arr (cs.all (bD 4)) cs.length [cs]) fun o=>kJ S.t d (.ptr (.O (mE pl.ix (some d) S.o.length)) 0 0) fun t=>K { t:=t,l:=S.l,o:=o,b:=S.b })
    | false=>oW d S fun S'=>eZ (.L d) cs fun cs'=>kJ S'.t d (.ptr (.L d) 0 0) fun t'=>K { t:=t',l:=(d,cs')::S'.l,o:=S'.o,b:=S'.b })
def gP (place:Nat→Option (Nat×Nat)):List AV→List (Nat×AV)→(List AV→Prop)→Prop
  | cells,[],k=>dI cells k
  | cells,(i,x)::rest,k =>
    match place i with
    | some (off,size)=>gm x fun cs=>aB (Nat.beq cs.length size&&Nat.ble (off + cs.length) cells.length) (gP place (splice cells off cs) rest k)
    | none=>ac 32
def xZ (S:St):List (Nat×Operand)→(List (Nat×AV)→Prop)→Prop
  | [],k=>k []
  | (i,x)::xs,k=>a_ S x fun a=>xZ S xs fun as=>k ((i,a)::as)
def qa (P:Program) (fs:Array Field) (i:Nat):Option (Nat×Nat) :=
  match fs[i]? with
  | some f=>match P.info? f.type with
    | some fi=>some (f.offset,fi.size)
    | none=>none
  | none=>none
def mF (P:Program) (t:TypeId) (parts:List (Nat×AV)) (k:AV→Prop):Prop :=
  a9 P t fun z =>
  match P.underlying t with
  | some (.struct fs)=>aB (fs.toList.all fun f=>(P.info? f.type).isSome) (gP (qa P fs) z parts fun cs=>k (.agg cs))
  | some (.array _ e)=>match P.info? e with
    | some i=>gP (fun n=>some (n * i.size,i.size)) z parts fun cs=>k (.agg cs)
    | none=>ac 33
  | _=>ac 34
def jW (n:Nat):Nat→List AV→List (List AV)
  | 0,_=>[]
  | m + 1,xs=>xs.take n::jW n m (xs.drop n)
def cv:List (List AV)→(List (List AV)→Prop)→Prop
  | [],k=>k []
  | x::xs,k=>dI x fun y=>cv xs fun ys=>k (y::ys)
def ep (P:Program) (pl:aD) (dst:Option Tmp) (t:TypeId) (len:Nat) (parts:List (Nat×AV)) (S:St) (K:St→Prop):Prop :=
  match len with
  | 0=>match P.underlying t with
    | some (.slice e)=>match P.info? e with
      | some _=>aB (parts.isEmpty) (aA dst (xY (bh pl.nn (dst.getD 0))) S K)
      | none=>ac 35
    | _=>ac 36
  | len + 1 =>
    match P.underlying t with
    | some (.slice e)=>match P.info? e with
      | some i=>a9 P e fun z=>aB (Nat.blt 0 i.size&&Nat.ble ((len + 1) * i.size) 16777216) (gP (fun n=>some (n * i.size,i.size)) (List.replicate (len + 1) z).flatten parts fun cs =>
          match bh pl.ms (dst.getD 0)||!(cs.all (bD 4)) with
          | false=>cv (jW i.size (len + 1) cs) fun rows=>aA dst (.sl rows) S K
          | true=>aB (cs.all (jU 4)) (cv (jW i.size (len + 1) cs) fun rows=>ay (S.o++[.arr (cs.all (bD 4)) i.size rows]) fun o=>aA dst (.mf S.o.length) { t:=S.t,l:=S.l,o:=o,b:=S.b } K))
      | none=>ac 37
    | _=>ac 38
def g0 (P:Program) (pl:aD) (dst:Option Tmp) (t:TypeId) (len:Nat) (parts:List (Nat×AV)) (k:AV→Prop):Prop :=
  match len with
  | 0=>match P.underlying t with
    | some (.slice e)=>match P.info? e with
      | some _=>aB (parts.isEmpty) (k (xY (bh pl.nn (dst.getD 0))))
      | none=>ac 213
    | _=>ac 214
  | len + 1 =>
    match P.underlying t with
    | some (.slice e)=>match P.info? e with
      | some i=>a9 P e fun z=>aB (Nat.blt 0 i.size&&Nat.ble ((len + 1) * i.size) 16777216) (gP (fun n=>some (n * i.size,i.size)) (List.replicate (len + 1) z).flatten parts fun cs =>
          aB (!(bh pl.ms (dst.getD 0))&&cs.all (bD 4)) (cv (jW i.size (len + 1) cs) fun rows=>k (.sl rows)))
      | none=>ac 215
    | _=>ac 216
def vJ (P:Program) (t:TypeId) (S:St) (x:AV) (k:AV→Prop):Prop :=
  match P.underlying t with
  | some (.slice _)=>match x with
    | .nilsl | .esl=>k (.v (.int .i64 0))
    | .sl rows=>k (.v (.int .i64 rows.length))
    | .mf id=>match S.o[id]? with | some (.arr _ _ rows)=>k (.v (.int .i64 rows.length)) | some (.own none _ cells _)=>k (.v (.int .i64 cells.length)) | _=>ac 39
    | .msl _ _ len _=>k (.v (.int .i64 len))
    | .bsl _ _ len=>k (.v (.int .i64 len))
    | _=>ac 40
  | some .string=>match x with
    | .v (.string s)=>k (.v (.int .i64 s.size))
    | _=>ac 41
  | some (.array n _)=>k (.v (.int .i64 n))
  | some (.map _ _)=>match x with
    | .nilmap=>k (.v (.int .i64 0))
    | .mp id=>match S.o[id]? with | some (.mapo _ es)=>k (.v (.int .i64 es.length)) | _=>ac 42
    | _=>ac 43
  | _=>ac 44
def eq (size:Nat) (S:St) (x:AV) (k:Bool→List (List AV)→Prop):Prop :=
  match x with
  | .nilsl | .esl=>k true []
  | .sl rows=>aB (q_ size rows) (k true rows)
  | .mf id=>match S.o[id]? with | some (.arr fl sz rows)=>aB (Nat.beq sz size) (k fl rows) | _=>ac 45
  | .msl id off len _=>match S.o[id]? with | some (.arr fl sz rows)=>aB (Nat.beq sz size) (k fl ((rows.drop off).take len)) | _=>ac 46
  | .v (.string s)=>aB (Nat.beq size 1) (k true (s.data.toList.map fun b=>[.v (.int .u8 b.toNat)]))
  | .bsl (.O id) off len=>om S (.O id) 0 fun row=>aB (Nat.beq size 1&&Nat.ble (off + len) row.length&&((row.drop off).take len).all (mC 2)) (k true (((row.drop off).take len).map fun c=>[c]))
  | _=>ac 47
def mG (S:St) (id:Nat):Bool:=Nat.blt id S.b
def iW (S:St) (id:Nat) (ob:Ob) (k:St→Nat→Prop):Prop :=
  eZ (.O id) S.t fun t=>gk (.O id) S.l fun l=>cU (.O id) S.o fun o =>
    match mG S id with
    | false=>ay (o.set id (bw (.O id) ob)) fun o'=>k { t:=t,l:=l,o:=o',b:=S.b } id
    | true=>ay (o.set id .dead++[bw (.O id) ob]) fun o'=>k { t:=t,l:=l,o:=o',b:=S.b } o.length
def e5 (src:List (List AV)):Bool:=src.all fun r=>r.all gl
def xH (i:TypeInfo):Bool:=match i.zero with | some z=>Nat.beq z.cells.size i.size | none=>false
def ei (P:Program) (ts:List TypeId) (base x:AV) (S:St) (k:St→AV→Prop):Prop :=
  match ts with
  | [t0,t1] =>
    match P.underlying t0 with
    | some (.slice e) =>
      match P.info? e with
      | some i=>aB (Nat.blt 0 i.size&&Nat.blt 0 i.bytes&&xH i&&(match P.underlying t1 with | some (.slice _) | some .string=>true | _=>false)) (eq i.size S x fun fl src=>aB (e5 src) (
          match base with
          | .nilsl | .esl=>aB (Nat.ble (src.length * i.bytes) 140737488355328) (ay (S.o++[.arr fl i.size src]) fun o=>k { t:=S.t,l:=S.l,o:=o,b:=S.b } (.mf S.o.length))
          | .mf id=>match S.o[id]? with
            | some (.arr fl' sz rows)=>aB (Nat.beq sz i.size&&Nat.ble ((rows.length + src.length) * i.bytes) 140737488355328&&(fl||!fl')) (iW S id (.arr (fl'&&fl) sz (rows++src)) fun S' id'=>k S' (.mf id'))
            | _=>ac 48
          | .msl id off len ext=>match S.o[id]? with
            | some (.arr fl' sz rows)=>aB (Nat.beq sz i.size&&(fl||!fl')) (
              match Nat.ble src.length ext with
              | true=>aB (Nat.ble (off + len + ext) rows.length) (ay (S.o.set id (.arr (fl'&&fl) sz (rows.take (off + len)++(src++rows.drop (off + len + src.length))))) fun o=>k { t:=S.t,l:=S.l,o:=o,b:=S.b } (.msl id off (len + src.length) (ext - src.length)))
              | false=>aB (Nat.ble ((len + src.length) * i.bytes) 140737488355328) (iW S id (.arr (fl'&&fl) sz ((rows.drop off).take len++src)) fun S' id'=>k S' (.mf id')))
            | _=>ac 49
          | _=>ac 50))
      | none=>ac 51
    | _=>ac 52
  | _=>ac 53
def yI:St:={ t:=[],l:=[],o:=[],b:=0 }
def e6 (P:Program) (ts:List TypeId) (base x:AV) (k:AV→Prop):Prop :=
  match ts with
  | [t0,t1] =>
    match P.underlying t0 with
    | some (.slice e) =>
      match P.info? e with
      | some i=>aB (Nat.blt 0 i.size&&Nat.blt 0 i.bytes&&xH i&&(match P.underlying t1 with | some (.slice _) | some .string=>true | _=>false)) (eq i.size yI x fun fl src=>aB (fl&&e5 src&&Nat.ble (src.length * i.bytes) 140737488355328) (
          match base with
          | .nilsl | .esl=>k (.sl src)
          | _=>ac 254))
      | none=>ac 255
    | _=>ac 256
  | _=>ac 257
def e7 (P:Program) (ts:List TypeId) (base:AV) (n:Int) (S:St) (k:St→AV→Prop):Prop :=
  match ts with
  | [t0,t1] =>
    match P.underlying t0,P.underlying t1 with
    | some (.slice e),some (.int _) =>
      match P.info? e with
      | some i=>aB (Nat.blt 0 i.size&&Nat.blt 0 i.bytes&&decide (0<n)&&decide (n * i.bytes≤140737488355328)&&decide (n≤140737488355328)) (a9 P e fun z=>aB (z.all (bD 2)) (
          match base with
          | .nilsl | .esl=>ay (S.o++[.arr true i.size (List.replicate n.toNat z)]) fun o=>k { t:=S.t,l:=S.l,o:=o,b:=S.b } (.mf S.o.length)
          | _=>ac 250))
      | none=>ac 251
    | _,_=>ac 252
  | _=>ac 253
def vK (P:Program) (ts:List TypeId) (x:AV) (k:AV→Prop):Prop :=
  match ts with
  | t::_ =>
    match P.underlying t with
    | some (.slice _)=>match x with
      | .nilsl | .esl=>k (.v (.int .i64 0))
      | _=>ac 240
    | _=>ac 241
  | []=>ac 242
def yJ:AV→Bool
  | .v _=>true
  | _=>false
def ll (P:Program) (ts:List TypeId) (x y:AV) (M:St) (k:AV→St→Prop):Prop :=
  match ts with
  | t::_ =>
    match P.underlying t with
    | some (.slice e) =>
      match P.info? e with
      | some i=>aB (Nat.blt 0 i.size) (eq i.size M y fun fl src=>aB (e5 src&&!(yJ y)) (
          match x with
          | .mf id=>match M.o[id]? with
            | some (.arr fl' sz rows)=>aB (Nat.beq sz i.size) (ay (M.o.set id (.arr (fl'&&fl) sz (src.take rows.length++rows.drop src.length))) fun o=>k (.v (.int .i64 ((min src.length rows.length:Nat):Int))) { t:=M.t,l:=M.l,o:=o,b:=M.b })
            | _=>ac 243
          | .msl id off len _=>match M.o[id]? with
            | some (.arr fl' sz rows)=>aB (Nat.beq sz i.size&&Nat.ble (off + len) rows.length) (ay (M.o.set id (.arr (fl'&&fl) sz (rows.take off++(src.take len++rows.drop (off + min src.length len))))) fun o=>k (.v (.int .i64 ((min src.length len:Nat):Int))) { t:=M.t,l:=M.l,o:=o,b:=M.b })
            | _=>ac 244
          | _=>ac 245))
      | none=>ac 246
    | _=>ac 247
  | []=>ac 248
def g3 (P:Program) (ts:List TypeId) (x:AV) (S:St) (K:St→Prop):Prop :=
  match ts with
  | t::_ =>
    match P.underlying t with
    | some (.slice e) =>
      match P.info? e with
      | some i=>aB (Nat.blt 0 i.size) (
          match x with
          | .nilsl | .esl=>K S
          | .msl id off len _=>match S.o[id]? with
            | some (.arr fl sz rows)=>aB (Nat.beq sz i.size&&Nat.ble (off + len) rows.length) (a9 P e fun z=>aB (z.all (bD 2)&&z.all gl) (ay (S.o.set id (.arr (fl&&true) sz (rows.take off++(List.replicate len z++rows.drop (off + len))))) fun o=>K { t:=S.t,l:=S.l,o:=o,b:=S.b }))
            | _=>ac 267
          | _=>ac 268)
      | none=>ac 269
    | _=>ac 270
  | []=>ac 271
def intOf (a:AV) (k:Int→Prop):Prop :=
  match a with
  | .v (.int _ n)=>k n
  | _=>ac 60
def aJ (P:Program) (t:TypeId) (l c:AV) (S:St) (k:St→AV→Prop):Prop :=
  match P.underlying t with
  | some (.slice e) =>
    match P.info? e with
    | some i=>intOf l fun l=>intOf c fun c=>aB (decide (0≤l)&&decide (l≤c)&&decide (i.bytes * c≤140737488355328)&&decide (c≤140737488355328)&&Nat.blt 0 i.size)
        (a9 P e fun z=>aB (z.all (bD 2)) (ay (S.o++[.arr true i.size (List.replicate l.toNat z)]) fun o=>k { t:=S.t,l:=S.l,o:=o,b:=S.b } (.mf S.o.length)))
    | none=>ac 61
  | _=>ac 62
def zD (S:St) (x:Option Operand) (k:Option Int→Prop):Prop :=
  match x with
  | none=>k none
  | some x=>a_ S x fun a=>intOf a fun n=>k (some n)
def kK (len cap:Nat) (lo hi mx:Option Int) (k:Nat→Nat→Nat→Prop):Prop :=
  match lo,hi,mx with
  | none,none,none=>k 0 len cap
  | some l,none,none=>aB (decide (0≤l)&&decide (l≤len)) (k l.toNat len cap)
  | none,some h,none=>aB (decide (0≤h)&&decide (h≤cap)) (k 0 h.toNat cap)
  | some l,some h,none=>aB (decide (0≤l)&&decide (l≤h)&&decide (h≤cap)) (k l.toNat h.toNat cap)
  | none,some h,some m=>aB (decide (0≤h)&&decide (h≤m)&&decide (m≤cap)) (k 0 h.toNat m.toNat)
  | some l,some h,some m=>aB (decide (0≤l)&&decide (l≤h)&&decide (h≤m)&&decide (m≤cap)) (k l.toNat h.toNat m.toNat)
  | _,_,_=>ac 63
def dz:Option Int→Bool
  | some (.ofNat 0)=>true
  | _=>false
def dY (P:Program) (t:TypeId) (x:AV) (lo hi mx:Option Int) (S:St) (k:AV→Prop):Prop :=
  match P.underlying t with
  | some .string =>
    match x,mx with
    | .v (.string s),none=>kK s.size s.size lo hi none fun l h _=>k (.v (.string (s.extract l h)))
    | _,_=>ac 64
  | some (.slice e) =>
    match P.info? e with
    | some i=>aB (Nat.blt 0 i.size) (
      match x with
      | .nilsl=>kK 0 0 lo hi mx fun _ _ _=>k .nilsl
      | .esl=>kK 0 0 lo hi mx fun _ _ _=>k .esl
      | .sl rows=>aB (q_ i.size rows) (kK rows.length rows.length lo hi mx fun l h _ =>
        match lo,hi,dz hi&&dz mx with
        | _,_,true=>k .esl
        | none,none,_=>k (.sl rows)
        | _,none,_=>k (.sl (rows.drop l))
        | none,_,_=>k (.sl (rows.take h))
        | _,_,_=>k (.sl ((rows.drop l).take (h - l))))
      | .mf id=>match S.o[id]? with
        | some (.arr _ sz rows)=>aB (Nat.beq sz i.size) (kK rows.length rows.length lo hi mx fun l h m =>
          match lo,hi,dz hi&&dz mx with
          | _,_,true=>k .esl
          | none,none,_=>k (.mf id)
          | _,none,_=>k (.msl id l (rows.length - l) 0)
          | _,_,_=>k (.msl id l (h - l) (m - h)))
        | _=>ac 65
      | .msl id off len ext=>match S.o[id]? with
        | some (.arr _ sz _)=>aB (Nat.beq sz i.size) (kK len (len + ext) lo hi mx fun l h m =>
          match dz hi&&dz mx with
          | true=>k .esl
          | false=>k (.msl id (l + off) (h - l) (m - h)))
        | _=>ac 66
      | _=>ac 67)
    | none=>ac 68
  | some (.array n e) =>
    match P.info? e,x with
    | some i,.ptr key 0 j=>aB (Nat.beq i.size 1) (kK n n lo hi mx fun l h m=>aB (Nat.blt l m) (k (.bsl key (j + l) (h - l))))
    | _,_=>ac 263
  | _=>ac 69
def dp (P:Program) (t:TypeId) (x ix:AV) (S:St) (k:AV→Prop):Prop :=
  intOf ix fun i =>
  match P.underlying t with
  | some (.slice e) =>
    match P.info? e with
    | some inf =>
      match x with
      | .sl rows=>match (if 0≤i then rows[i.toNat]? else none) with
        | some row=>aB (Nat.beq row.length inf.size&&Nat.blt 0 inf.size) (k (.fptr row 0))
        | none=>ac 70
      | .mf id=>match S.o[id]? with
        | some (.arr _ _ rows)=>match (if 0≤i then rows[i.toNat]? else none) with
          | some row=>aB (Nat.beq row.length inf.size&&Nat.blt 0 inf.size) (k (.ptr (.O id) i.toNat 0))
          | none=>ac 71
        | some (.own none _ cells _)=>aB (decide (0≤i)&&Nat.blt i.toNat cells.length&&Nat.beq inf.size 1) (k (.ptr (.O id) i.toNat 0))
        | _=>ac 72
      | .msl id off len _=>match S.o[id]? with
        | some (.arr _ _ rows)=>aB (decide (0≤i)&&decide (i<len)) (match rows[i.toNat + off]? with
          | some row=>aB (Nat.beq row.length inf.size&&Nat.blt 0 inf.size) (k (.ptr (.O id) (i.toNat + off) 0))
          | none=>ac 73)
        | _=>ac 74
      | .bsl key off len=>aB (decide (0≤i)&&decide (i<len)&&Nat.beq inf.size 1) (k (.ptr key 0 (off + i.toNat)))
      | _=>ac 75
    | none=>ac 76
  | some (.array len e) =>
    match P.info? e with
    | some inf=>aB (decide (0≤i)&&decide (i<len)) (
      match x with
      | .ptr key a j=>k (.ptr key a (i.toNat * inf.size + j))
      | .fptr row j=>k (.fptr row (i.toNat * inf.size + j))
      | _=>ac 77)
    | none=>ac 78
  | _=>ac 79
def jj (P:Program) (t:TypeId) (x ix:AV) (k:AV→Prop):Prop :=
  intOf ix fun i =>
  match P.underlying t,x with
  | some (.array len e),.agg cs=>match P.info? e with
    | some inf=>aB (decide (0≤i)&&decide (i<len)) (dJ P e cs (i.toNat * inf.size) k)
    | none=>ac 80
  | some .string,.v (.string s)=>match (if 0≤i then s[i.toNat]? else none) with
    | some b=>k (.v (.int .u8 b.toNat))
    | none=>ac 81
  | _,_=>ac 82
def e8 (P:Program) (t:TypeId) (x:AV) (f:Nat) (k:AV→Prop):Prop :=
  match P.underlying t with
  | some (.struct fs)=>match fs[f]? with
    | some fl=>match P.info? fl.type with
      | some inf=>aB (Nat.blt 0 inf.size) (match x with
        | .ptr key i j=>k (.ptr key i (j + fl.offset))
        | .fptr row j=>k (.fptr row (j + fl.offset))
        | _=>ac 83)
      | none=>ac 84
    | none=>ac 85
  | _=>ac 86
def mH (P:Program) (t:TypeId) (x:AV) (f:Nat) (k:AV→Prop):Prop :=
  match P.underlying t,x with
  | some (.struct fs),.agg cs=>match fs[f]? with
    | some fl=>dJ P fl.type cs fl.offset k
    | none=>ac 87
  | _,_=>ac 88
def bytesOf:List (List AV)→Option (List UInt8)
  | []=>some []
  | [.v (.int .u8 n)]::rs=>match bytesOf rs with | some bs=>some (UInt8.ofNat n.toNat::bs) | none=>none
  | _=>none
def g4 (P:Program) (src dst:TypeId) (x:AV) (k:AV→Prop):Prop :=
  match P.underlying src,P.underlying dst with
  | some _,some (.int kd)=>match x with | .v (.int _ n)=>k (.v (.int kd (kd.wrap n))) | _=>ac 89
  | some .string,some .string=>match x with | .v (.string s)=>k (.v (.string s)) | _=>ac 90
  | _,_=>ac 92
def cw (P:Program) (src dst:TypeId) (x:AV) (S:St) (k:AV→Prop):Prop :=
  match P.underlying src,P.underlying dst with
  | some (.slice e),some .string =>
    match P.underlying e with
    | some (.int .u8)=>aB (!(yJ x)) (eq 1 S x fun _ rows=>match bytesOf rows with | some bs=>k (.v (.string ⟨bs.toArray⟩)) | none=>ac 261)
    | _=>ac 262
  | _,_=>g4 P src dst x k
def jk (S:St) (x:AV):Bool :=
  match x with
  | .mf id=>match S.o[id]? with
    | some (.arr _ _ (_::_))=>true
    | _=>false
  | .mfx _ | .nn | .ene=>true
  | .sl (_::_)=>true
  | .msl _ _ len ext=>Nat.blt 0 (len + ext)
  | _=>false
def lm (P:Program) (op:BinOp) (t:TypeId) (x y:AV) (S:St) (k:AV→Prop):Prop :=
  match jk S x,y with
  | true,.nilsl=>match P.underlying t,op with
    | some (.slice _),.eql=>k (.v (.bool false))
    | some (.slice _),.neq=>k (.v (.bool true))
    | _,_=>ac 265
  | _,_=>sM P op t x y k
def et {α β:Type} (f:α→Option β):List α→Option (List β)
  | []=>some []
  | x::xs=>match f x,et f xs with
    | some y,some ys=>some (y::ys)
    | _,_=>none
def kL (f:AV→Option AV) (fl:Bool) (rows:List (List AV)):Option (List (List AV)) :=
  match fl with
  | true=>some rows
  | false=>et (et f) rows
def xI (f:AV→Option AV) (fl:Bool) (row:List AV):Option (List AV) :=
  match fl with
  | true=>some row
  | false=>et f row
def sK (o:List Ob):Nat→AV→Option AV
  | 0,_=>none
  | n + 1,a =>
    match a with
    | .v x=>some (.v x)
    | .nilp=>some .nilp
    | .fptr r j=>some (.fptr r j)
    | .nilsl=>some .nilsl
    | .esl=>some (.sl [])
    | .sl r=>some (.sl r)
    | .nilmap=>some .nilmap
    | .nilfn=>some .nilfn
    | .mf id=>match o[id]? with
      | some (.arr fl _ rows)=>match kL (sK o n) fl rows with | some r=>some (.sl r) | none=>none
      | _=>none
    | .msl id off len _=>match o[id]? with
      | some (.arr fl _ rows)=>match kL (sK o n) fl ((rows.drop off).take len) with | some r=>some (.sl r) | none=>none
      | _=>none
    | .ptr (.O id) i j=>match o[id]? with
      | some (.arr fl _ rows)=>match rows[i]? with
        | some row=>match xI (sK o n) fl row with | some r=>some (.fptr r j) | none=>none
        | none=>none
      | _=>none
    | .fn f x y=>match et (sK o n) x,et (sK o n) y with | some x',some y'=>some (.fn f x' y') | _,_=>none
    | .agg cs=>match et (sK o n) cs with | some r=>some (.agg r) | none=>none
    | .tup cs=>match et (sK o n) cs with | some r=>some (.tup r) | none=>none
    | _=>none
def bE (o:List Ob):Nat→AV→List Nat
  | 0,_=>[]
  | n + 1,a =>
    match a with
    | .mf id=>id::(match o[id]? with | some (.arr false _ rows)=>rows.flatten.flatMap (bE o n) | _=>[])
    | .msl id off len _=>id::(match o[id]? with | some (.arr false _ rows)=>((rows.drop off).take len).flatten.flatMap (bE o n) | _=>[])
    | .ptr (.O id) i _=>id::(match o[id]? with | some (.arr false _ rows)=>(match rows[i]? with | some row=>row.flatMap (bE o n) | none=>[]) | _=>[])
    | .fn _ x y=>x.flatMap (bE o n)++y.flatMap (bE o n)
    | .agg cs | .tup cs=>cs.flatMap (bE o n)
    | _=>[]
def qb (o:List Ob) (a:AV) (k:AV→Prop):Prop :=
  match sK o 6 a with
  | some b=>dX b k
  | none=>ac 96
def dV (o:List Ob):List AV→(List AV→Prop)→Prop
  | [],k=>k []
  | a::as,k=>qb o a fun b=>dV o as fun bs=>k (b::bs)
def b_:List Nat→St→(St→Prop)→Prop
  | [],S,K=>K S
  | id::ids,S,K=>eZ (.O id) S.t fun t=>gk (.O id) S.l fun l=>cU (.O id) S.o fun o=>ay (o.set id .dead) fun o'=>b_ ids { t:=t,l:=l,o:=o',b:=S.b } K
def aF:List Ob→List Ob→Nat→List Nat
  | .dead::xs,_::ys,n=>aF xs ys (n + 1)
  | _::xs,.dead::ys,n=>n::aF xs ys (n + 1)
  | _::xs,_::ys,n=>aF xs ys (n + 1)
  | _,_,_=>[]
def dq:List Nat→List AV→List (Nat×List AV)→(List AV→List (Nat×List AV)→Prop)→Prop
  | [],t,l,K=>K t l
  | id::ids,t,l,K=>eZ (.O id) t fun t'=>gk (.O id) l fun l'=>dq ids t' l' K
def oY (C:Ctx) (f:AV) (args:List AV) (S:St) (k:St→AV→Prop):Prop :=
  match f with
  | .fn fid first cap =>
    match C.pure fid with
    | true=>dV S.o (first++args++cap) fun as=>C.pcall fid as fun r =>
        match mC 4 r with
        | true=>k S r
        | false=>b_ ((first++args++cap).flatMap (bE S.o 6)) S fun S'=>k S' r
    | false=>aB ((first++args++cap).all (jU 4)) (C.scall fid (first++args++cap) S.o fun r o'=>dq (aF S.o o' 0) S.t S.l fun t l=>k { t:=t,l:=l,o:=o',b:=S.b } r)
  | _=>ac 97
def sL:AV→Option Value
  | .v x=>some x
  | .agg cs=>match lX cs with | some xs=>some (.agg xs.toArray) | none=>none
  | _=>none
def keysOf:List (AV×AV)→Option (List MapEntry)
  | []=>some []
  | (k,_)::es=>match sL k,keysOf es with
    | some x,some xs=>some ({ key:=x,val:=.bool false,born:=0 }::xs)
    | _,_=>none
def fI (P:Program) (kt:TypeId) (key:AV) (es:List (AV×AV)) (k:Value→Option Nat→Prop):Prop :=
  match sL key,keysOf es with
  | some x,some xs =>
    match aP P (Instr.checkKey xs.isEmpty 10000 kt x),aP P (Instr.findKey kt x xs) with
    | some _,some r=>k x (r.map (·.1))
    | _,_=>ac 98
  | _,_=>ac 99
def g5 (ok:Bool) (x:AV) (b:Bool) (k:AV→Prop):Prop :=
  match ok with
  | true=>k (.tup [x,.v (.bool b)])
  | false=>k x
def eD (P:Program) (e:TypeId) (ok:Bool) (k:AV→Prop):Prop :=
  match P.info? e with
  | some i=>match i.zero with
    | some z=>dX (uF z) fun z=>g5 ok z false k
    | none=>ac 230
  | none=>ac 231
def iH (P:Program) (e:TypeId) (ok:Bool) (es:List (AV×AV)) (r:Option Nat) (k:AV→Prop):Prop :=
  match r with
  | some i=>match es[i]? with
    | some en=>g5 ok en.2 true k
    | none=>ac 232
  | none=>eD P e ok k
def iI (P:Program) (t:TypeId) (m key:AV) (ok:Bool) (S:St) (k:AV→Prop):Prop :=
  match P.underlying t with
  | some (.map kt e) =>
    match m with
    | .nilmap=>fI P kt key [] fun _ _=>eD P e ok k
    | .mp id=>match S.o[id]? with
      | some (.mapo _ es)=>fI P kt key es fun _ r=>iH P e ok es r k
      | _=>ac 233
    | _=>ac 234
  | _=>ac 235
def uG (P:Program) (kt:TypeId) (x:Value):Bool:=match aP P (Instr.checkKey false 10000 kt x) with | some _=>true | none=>false
def b6 (P:Program) (t:TypeId) (m key x:AV) (S:St) (K:St→Prop):Prop :=
  match P.underlying t with
  | some (.map kt _) =>
    match m with
    | .mp id=>match S.o[id]? with
      | some (.mapo fl es)=>aB (jU 4 x) (fI P kt key es fun kv r=>aB (uG P kt kv) (
          match r with
          | some i=>aB (Instr.sameBits 10000 ((es[i]?.bind fun e=>sL e.1).getD (.bool false)) kv) (ay (S.o.set id (.mapo (fl&&bD 4 x) (es.set i (key,x)))) fun o=>K { t:=S.t,l:=S.l,o:=o,b:=S.b })
          | none=>ay (S.o.set id (.mapo (fl&&bD 4 x) (es++[(key,x)]))) fun o=>K { t:=S.t,l:=S.l,o:=o,b:=S.b }))
      | _=>ac 106
    | _=>ac 107
  | _=>ac 108
def pop (C:Ctx) (pl:aD) (o:Oper) (vs:List AV) (k:AV→Prop):Prop :=
  match o.op,vs with
  | .move _,[a]=>k a
  | .assign _,[a]=>k a
  | .pick _ _ _,[.v (.bool c),a,b]=>q9 c (k a) (k b)
  | .build t parts,vs=>aB (Nat.beq parts.size vs.length) (mF C.P t ((parts.toList.map (·.1)).zip vs) k)
  | .buildSlice t len parts,vs=>aB (Nat.beq parts.size vs.length) (g0 C.P pl o.dst t len ((parts.toList.map (·.1)).zip vs) k)
  | .nilCheck _,[.ptr x i j]=>k (.ptr x i j)
  | .nilCheck _,[.fptr r j]=>k (.fptr r j)
  | .nilCheck _,[.fn f x y]=>k (.fn f x y)
  | .binOp op t _ _ _,[a,b]=>sM C.P op t a b k
  | .unOp op _ _,[a]=>yQ op a k
  | .makeFunc f first cap,vs=>match f with
    | .func fid=>aB (Nat.beq (first.size + cap.size) vs.length) (dI (vs.take first.size) fun xs=>dI (vs.drop first.size) fun ys=>k (.fn fid xs ys))
    | _=>ac 201
  | .fieldAddr t _ f,[a]=>e8 C.P t a f k
  | .field t _ f,[a]=>mH C.P t a f k
  | .index t _ _,[a,i]=>jj C.P t a i k
  | .extract _ ix,[.tup xs]=>ji xs ix k
  | .call c,vs=>match c.callee,vs with
    | .builtin .min,[.v (.int a m),.v (.int b n)]=>aB (decide (a=b)) (k (.v (.int a (if n<m then n else m))))
    | .builtin .max,[.v (.int a m),.v (.int b n)]=>aB (decide (a=b)) (k (.v (.int a (if n>m then n else m))))
    | .builtin .cap,[x]=>vK C.P c.argTypes.toList x k
    | _,_=>ac 204
  | _,_=>ac 207
def iT (C:Ctx) (o:Oper) (vs:List AV) (M:St) (k:AV→Prop):Prop :=
  match o.op,vs with
  | .load t _,[p]=>vC M p fun row j=>dJ C.P t row j k
  | .convert src dst _,[a]=>cw C.P src dst a M k
  | .slice t _ lo hi mx,a::rest =>
    match lo,hi,mx,rest with
    | none,none,none,[]=>dY C.P t a none none none M k
    | some _,none,none,[x]=>intOf x fun x=>dY C.P t a (some x) none none M k
    | none,some _,none,[y]=>intOf y fun y=>dY C.P t a none (some y) none M k
    | some _,some _,none,[x,y]=>intOf x fun x=>intOf y fun y=>dY C.P t a (some x) (some y) none M k
    | none,some _,some _,[y,z]=>intOf y fun y=>intOf z fun z=>dY C.P t a none (some y) (some z) M k
    | some _,some _,some _,[x,y,z]=>intOf x fun x=>intOf y fun y=>intOf z fun z=>dY C.P t a (some x) (some y) (some z) M k
    | _,_,_,_=>ac 202
  | .binOp op t _ _ _,[a,b]=>lm C.P op t a b M k
  | .indexAddr t _ _,[a,i]=>dp C.P t a i M k
  | .lookup t _ _ ok,[m,key]=>iI C.P t m key ok M k
  | .call c,vs=>match c.callee with
    | .builtin b=>match b,vs with
      | .len,[x]=>match c.argTypes.toList with | t::_=>vJ C.P t M x k | []=>ac 203
      | _,_=>ac 204
    | .value _=>match vs with
      | .fn fid first cap::as=>aB (C.pure fid) (dV M.o (first++as++cap) fun bs=>C.pcall fid bs fun r=>aB (mC 4 r||((first++as++cap).flatMap (bE M.o 6)).isEmpty) (k r))
      | _=>ac 205
    | .invoke _ _=>ac 206
  | _,_=>ac 207
def mI (P:Program) (t:TypeId) (l c:AV) (k:AV→Prop):Prop :=
  aJ P t l c yI fun S' _=>match S'.o with
    | [.arr _ _ rows]=>k (.sl rows)
    | _=>ac 312
def x4 (C:Ctx) (o:Oper) (vs:List AV) (k:AV→Prop):Prop :=
  match o.op,vs with
  | .call c,[x,y]=>match c.callee with
    | .builtin .append=>e6 C.P c.argTypes.toList x y k
    | _=>ac 258
  | .makeSlice t _ _,[l,c]=>mI C.P t l c k
  | _,_=>ac 259
def sN (k:Key):Nat→AV→Bool
  | 0,_=>true
  | n + 1,a =>
    match a with
    | .ptr k' _ _=>decide (k'=k)
    | .mf id | .msl id _ _ _ | .mp id=>decide (Key.O id=k)
    | .bsl k' _ _=>decide (k'=k)
    | .fn _ x y=>x.any (sN k n)||y.any (sN k n)
    | .agg cs | .tup cs=>cs.any (sN k n)
    | _=>false
def oZ (C:Ctx) (o:Oper) (vs:List AV) (M:St) (k:AV→St→Prop):Prop :=
  match o.op,vs with
  | .store t _ _,[p,y]=>gm y fun cs=>match C.P.info? t with
    | some i=>aB (Nat.beq cs.length i.size) (fV M p cs fun M'=>k .bad M')
    | none=>ac 208
  | _,_=>ac 209
def bp (S:St):St:={ t:=[],l:=S.l,o:=S.o,b:=S.b }
def cq (S M:St):St:={ t:=S.t,l:=M.l,o:=M.o,b:=M.b }
def addrOf (o:Oper):Option Nat :=
  match o.op with
  | .load _ (.tmp t)=>some t
  | .store _ (.tmp t) _=>some t
  | _=>none
def cK (pl:aD) (o:Oper):Bool :=
  match o.op with
  | .load _ (.tmp t)=>bh pl.ow t
  | .store _ (.tmp t) _=>bh pl.ow t
  | .makeSlice _ _ _=>bh pl.ow (o.dst.getD 0)
  | .makeMap _ _=>bh pl.ow (o.dst.getD 0)
  | .lookup _ _ _ _=>bh pl.ow (o.dst.getD 0)
  | .mapUpdate _ (.tmp t) _ _=>bh pl.ow t
  | .insert _ (.tmp t) _ _=>bh pl.ow t
  | _=>false
def t7 (pl:aD) (o:Oper):Bool :=
  match addrOf o with
  | some t=>bh pl.oh t
  | none=>false
def dK (S:St) (id:Nat) (K:St→Prop):Prop :=
  match S.o[id]? with
  | some (.own ks sz cells (some (j,.nilsl)))=>aB (Nat.blt j cells.length) (ay (S.o.set id (.own ks sz (cells.set j none) none)) fun o=>K { t:=S.t,l:=S.l,o:=o,b:=S.b })
  | some (.own ks sz cells (some (j,.mf k)))=>match S.o[k]? with
    | some (.arr true sz' rows)=>aB (Nat.beq sz' (mB sz)&&Nat.blt j cells.length&&!q6 sz) (b_ [k] S fun S1=>ay (S1.o.set id (.own ks sz (cells.set j (some rows)) none)) fun o=>K { t:=S1.t,l:=S1.l,o:=o,b:=S1.b })
    | _=>ac 320
  | some (.own ks sz cells (some (j,.mfx k)))=>match S.o[k]? with
    | some (.arr true sz' rows)=>aB (Nat.beq sz' (mB sz)&&Nat.blt j cells.length) (b_ [k] S fun S1=>ay (S1.o.set id (.own ks sz (cells.set j (some rows)) none)) fun o=>K { t:=S1.t,l:=S1.l,o:=o,b:=S1.b })
    | _=>ac 320
  | some (.own _ _ _ (some _))=>ac 321
  | _=>K S
def gp:List Nat→St→(St→Prop)→Prop
  | [],S,K=>K S
  | id::ids,S,K=>dK S id fun S'=>gp ids S' K
def fW:Option (List (List AV))→AV
  | none=>.nilsl
  | some rows=>.sl rows
def g6:List AV→List (Option (List (List AV)))→List (AV×AV)
  | k::ks,c::cs=>(k,fW c)::g6 ks cs
  | _,_=>[]
def eL (S:St) (id:Nat) (K:St→Prop):Prop :=
  match S.o[id]? with
  | some (.own (some ks) _ cells none)=>ay (S.o.set id (.mapo true (g6 ks cells))) fun o=>K { t:=S.t,l:=S.l,o:=o,b:=S.b }
  | some (.own none _ cells none)=>ay (S.o.set id (.arr true 1 (cells.map fun c=>[fW c]))) fun o=>K { t:=S.t,l:=S.l,o:=o,b:=S.b }
  | _=>K S
def e9:List Nat→St→(St→Prop)→Prop
  | [],S,K=>K S
  | id::ids,S,K=>eL S id fun S'=>e9 ids S' K
def sO:Nat→List Nat
  | 0=>[]
  | n + 1=>n::sO n
def eG (pl:aD) (id:Nat) (S:St) (K:St→Prop):Prop :=
  match bh pl.cl id with
  | false=>K S
  | true=>gp (sO S.o.length) S fun S1=>match bh pl.fr id with
    | false=>K S1
    | true=>e9 (sO S1.o.length) S1 K
def cr (M:St) (pk:Bool) (id i:Nat) (k:AV→St→Prop):Prop :=
  match M.o[id]? with
  | some (.own ks sz cells none)=>match cells[i]? with
    | some none=>k .nilsl M
    | some (some rows)=>match pk&&q6 sz with
      | true=>k .nn M
      | false=>dX (vB sz M.o.length) fun h=>ay (M.o.set id (.own ks sz cells (some (i,h)))++[.arr true (mB sz) rows]) fun o=>k (.mf M.o.length) { t:=M.t,l:=M.l,o:=o,b:=M.b }
    | none=>ac 322
  | _=>ac 323
def dL (P:Program) (t:TypeId) (same pk:Bool) (M:St) (id i:Nat) (k:AV→St→Prop):Prop :=
  match same with
  | true=>match M.o[id]? with
    | some (.own none _ cells (some (j,a)))=>aB (Nat.beq i j&&Nat.blt j cells.length) (dJ P t [zC a] 0 fun r=>k r M)
    | _=>ac 324
  | false=>cr M pk id i fun a M'=>dJ P t [a] 0 fun r=>k r M'
def sQ (v:AV):Bool:=match v with | .nilsl=>true | .mf _=>true | _=>false
def wT (sz:Nat) (v:AV):Bool:=match v with | .nilsl=>true | .mf _=>!q6 sz | .mfx _=>true | _=>false
def g7 (hole:Option (Nat×AV)) (i:Nat):Bool :=
  match hole with
  | none=>true
  | some (j,_)=>Nat.beq i j
def cV (P:Program) (t:TypeId) (M:St) (id i:Nat) (v:AV) (K:St→Prop):Prop :=
  match P.info? t,M.o[id]? with
  | some inf,some (.own none sz cells hole)=>aB (wT sz v&&Nat.blt i cells.length&&Nat.beq inf.size 1&&g7 hole i) (ay (M.o.set id (.own none sz cells (some (i,v)))) fun o=>K { t:=M.t,l:=M.l,o:=o,b:=M.b })
  | _,_=>ac 325
def dh (P:Program) (nw:Bool) (j:Nat) (t:TypeId) (l c:AV) (M:St) (k:AV→St→Prop):Prop :=
  match P.underlying t with
  | some (.slice e) =>
    match P.info? e,P.underlying e with
    | some i,some (.slice e2)=>match P.info? e2 with
      | some i2=>intOf l fun l=>intOf c fun c=>aB (decide (0≤l)&&decide (l≤c)&&decide (i.bytes * c≤140737488355328)&&decide (c≤140737488355328)&&Nat.blt 0 i.size&&Nat.beq i.size 1&&(Nat.blt 0 i2.size&&Nat.blt i2.size 65536))
          (a9 P e fun z=>match z with
            | [.nilsl]=>gZ j M.o M.b (.own none (match nw with | true=>i2.size + 65536 | false=>i2.size) (List.replicate l.toNat none) none) fun o=>k (.mf j) { t:=M.t,l:=M.l,o:=o,b:=M.b }
            | _=>ac 325)
      | none=>ac 326
    | _,_=>ac 61
  | _=>ac 62
def cL (P:Program) (t:TypeId) (M:St) (k:AV→St→Prop):Prop :=
  match P.underlying t with
  | some (.map _ e)=>match P.underlying e with
    | some (.slice e2)=>match P.info? e2 with
      | some i2=>aB ((Nat.blt 0 i2.size&&Nat.blt i2.size 65536)) (ay (M.o++[.own (some []) i2.size [] none]) fun o=>k (.mp M.o.length) { t:=M.t,l:=M.l,o:=o,b:=M.b })
      | none=>ac 336
    | _=>ac 337
  | _=>ac 338
def fJ:List AV→List (AV×AV)
  | []=>[]
  | k::ks=>(k,.bad)::fJ ks
def dM (P:Program) (t:TypeId) (m key:AV) (ok:Bool) (M:St) (k:AV→St→Prop):Prop :=
  match P.underlying t with
  | some (.map kt e)=>match m with
    | .mp id=>match M.o[id]? with
      | some (.own (some ks) _ _ none)=>fI P kt key (fJ ks) fun _ r=>match r with
        | some i=>cr M false id i fun a M'=>g5 ok a true fun r=>k r M'
        | none=>eD P e ok fun r=>k r M
      | _=>ac 333
    | _=>ac 334
  | _=>ac 335
def ej (P:Program) (t:TypeId) (m key x:AV) (M:St) (K:St→Prop):Prop :=
  match P.underlying t with
  | some (.map kt _)=>match m with
    | .mp id=>match M.o[id]? with
      | some (.own (some ks) sz cells hole)=>aB (sQ x&&!q6 sz) (fI P kt key (fJ ks) fun kv r=>aB (uG P kt kv) (match r with
          | some i=>aB (Instr.sameBits 10000 ((ks[i]?.bind sL).getD (.bool false)) kv&&g7 hole i) (ay (M.o.set id (.own (some (ks.set i key)) sz cells (some (i,x)))) fun o=>K { t:=M.t,l:=M.l,o:=o,b:=M.b })
          | none=>match hole with
            | none=>ay (M.o.set id (.own (some (ks++[key])) sz (cells++[none]) (some (cells.length,x)))) fun o=>K { t:=M.t,l:=M.l,o:=o,b:=M.b }
            | some _=>ac 339))
      | _=>ac 340
    | _=>ac 341
  | _=>ac 342
def dZ (M:St) (p:AV) (k:Nat→Nat→Prop):Prop :=
  match p with
  | .ptr (.O id) i 0=>match M.o[id]? with
    | some (.own none _ _ _)=>k id i
    | _=>ac 331
  | _=>ac 332
def fF (P:Program) (pl:aD) (o:Oper) (vs:List AV) (M:St) (k:AV→St→Prop):Prop :=
  match o.op,vs with
  | .load t _,[p]=>dZ M p fun id i=>dL P t (t7 pl o) (bh pl.pk (o.dst.getD 0)) M id i k
  | .store t _ _,[p,v]=>dZ M p fun id i=>cV P t M id i v fun M'=>k .bad M'
  | .makeSlice t _ _,[l,c]=>dh P (bh pl.nw (o.dst.getD 0)) (mE pl.ix o.dst M.o.length) t l c M k
  | .makeMap t none,[]=>cL P t M k
  | .lookup t _ _ ok,[m,key]=>dM P t m key ok M k
  | .mapUpdate t _ _ _,[m,key,x]=>ej P t m key x M fun M'=>k .bad M'
  | .insert t _ _ _,[m,key,x]=>ej P t m key x M fun M'=>k .bad M'
  | _,_=>ac 330
def qc (C:Ctx) (pl:aD) (o:Oper) (S:St) (K:St→Prop):Prop :=
  bC S o.op.operands.toList fun vs=>fF C.P pl o vs (bp S) fun r M=>aA o.dst r (cq S M) K
def vL (x:Operand):Bool :=
  match x with
  | .const (.slice none 0 0)=>true
  | _=>false
def vM (o:Oper):Nat :=
  match o.op with
  | .binOp _ _ _ y _=>match vL y with | true=>1 | false=>0
  | .move _ | .assign _ | .pick _ _ _ | .build _ _ | .nilCheck _ | .unOp _ _ _ | .makeFunc _ _ _ | .fieldAddr _ _ _ | .field _ _ _ | .index _ _ _ | .extract _ _=>0
  | .load _ _ | .convert _ _ _ | .slice _ _ _ _ _ | .indexAddr _ _ _ | .lookup _ _ _ _=>1
  | .store _ _ _=>2
  | .call c=>match c.callee with
    | .builtin .min | .builtin .max | .builtin .cap=>0
    | .builtin .len=>1
    | _=>3
  | _=>3
def o4 (pl:aD) (o:Oper):Nat :=
  match o.op with
  | .buildSlice _ _ _=>match bh pl.ms (o.dst.getD 0) with | true=>3 | false=>0
  | .alloc _=>4
  | .makeSlice _ _ _=>match bh pl.fz (o.dst.getD 0) with | true=>5 | false=>2
  | .call c=>match c.callee with
    | .value (.func f)=>match bh pl.dc f with | true=>2 | false=>match bh pl.st f with | true=>3 | false=>1
    | .value _=>match bh pl.dc (o.dst.getD 0 + 1000) with | true=>2 | false=>1
    | .builtin .append=>match bh pl.fz (o.dst.getD 0) with | true=>5 | false=>3
    | _=>vM o
  | _=>vM o
def cC (pl:aD) (o:Oper):Nat :=
  match cK pl o with
  | true=>2
  | false=>o4 pl o
def rc (pl:aD) (o:Oper):Bool :=
  match o.op with
  | .alloc _=>true
  | .box _ _=>!(bh pl.esc (o.dst.getD 0))
  | _=>false
def uH (C:Ctx) (pl:aD) (o:Oper) (S:St) (K:St→Prop):Prop :=
  bC S o.op.operands.toList fun vs=>pop C pl o vs fun r=>aA o.dst r S K
def uI (C:Ctx) (o:Oper) (S:St) (K:St→Prop):Prop :=
  bC S o.op.operands.toList fun vs=>iT C o vs (bp S) fun r=>aA o.dst r S K
def uJ (C:Ctx) (o:Oper) (S:St) (K:St→Prop):Prop :=
  bC S o.op.operands.toList fun vs=>oZ C o vs (bp S) fun r M=>aA o.dst r (cq S M) K
def uK (C:Ctx) (o:Oper) (S:St) (K:St→Prop):Prop :=
  bC S o.op.operands.toList fun vs=>x4 C o vs fun r=>aA o.dst r S K
def fK (C:Ctx) (o:Oper) (vs:List AV) (M:St) (k:AV→St→Prop):Prop :=
  match o.op,vs with
  | .makeSlice t _ _,[l,c]=>aJ C.P t l c M fun M' r=>k r M'
  | .call c,.fn fid first cap::as=>match c.callee with
    | .value _=>aB (!(C.pure fid)&&(first++as++cap).all (jU 4)) (C.scall fid (first++as++cap) M.o fun r o'=>aB (aF M.o o' 0).isEmpty (k r { t:=M.t,l:=M.l,o:=o',b:=M.b }))
    | _=>ac 310
  | _,_=>oZ C o vs M k
def gq (C:Ctx) (pl:aD) (o:Oper) (vs:List AV) (M:St) (k:AV→St→Prop):Prop :=
  match cK pl o with
  | true=>fF C.P pl o vs M k
  | false=>fK C o vs M k
def iX (C:Ctx) (pl:aD) (o:Oper) (S:St) (K:St→Prop):Prop :=
  bC S o.op.operands.toList fun vs=>gq C pl o vs (bp S) fun r M=>aA o.dst r (cq S M) K
def mJ (C:Ctx) (pl:aD) (o:Oper) (S:St) (K:St→Prop):Prop :=
  match o.op with
  | .alloc e=>a9 C.P e fun cs=>rb pl o.dst cs S K
  | .box _ x=>a_ S x fun a=>gm a fun cs=>rb pl o.dst cs S K
  | .buildSlice t len parts=>bC S (parts.toList.map (·.2)) fun vs=>aB (Nat.beq parts.size vs.length) (ep C.P pl o.dst t len ((parts.toList.map (·.1)).zip vs) S K)
  | .makeMap _ r=>match r with
    | none=>ay (S.o++[.mapo true []]) fun o'=>aA o.dst (.mp S.o.length) { t:=S.t,l:=S.l,o:=o',b:=S.b } K
    | some _=>ac 209
  | .makeSlice t l c=>a_ S l fun l=>a_ S c fun c=>aJ C.P t l c S fun S' a=>aA o.dst (zk (bh pl.nn (o.dst.getD 0)) a) S' K
  | .mapUpdate t m key x=>a_ S m fun m=>a_ S key fun key=>a_ S x fun x=>b6 C.P t m key x S fun S'=>aA o.dst .bad S' K
  | .insert t m key x=>a_ S m fun m=>a_ S key fun key=>a_ S x fun x=>b6 C.P t m key x S fun S'=>aA o.dst .bad S' K
  | .call c=>match c.callee with
    | .builtin b=>match b with
      | .append=>bC S c.args.toList fun as=>match as with
        | [x,.v (.int _ n)]=>e7 C.P c.argTypes.toList x n S fun S' r=>aA o.dst r S' K
        | [.ene,y]=>aB (bh pl.nn (o.dst.getD 0)) (ei C.P c.argTypes.toList .esl y S fun S' r=>aA o.dst (yO r) S' K)
        | [x,y]=>ei C.P c.argTypes.toList x y S fun S' r=>aA o.dst r S' K
        | _=>ac 210
      | .copy=>bC S c.args.toList fun as=>match as with
        | [x,y]=>ll C.P c.argTypes.toList x y S fun r S'=>aA o.dst r S' K
        | _=>ac 211
      | .clear=>bC S c.args.toList fun as=>match as with
        | [x]=>g3 C.P c.argTypes.toList x S fun S'=>aA o.dst (.tup []) S' K
        | _=>ac 272
      | _=>ac 212
    | .value f=>a_ S f fun fv=>bC S c.args.toList fun as=>oY C fv as S fun S' r=>aA o.dst r S' K
    | .invoke _ _=>ac 213
  | _=>ac 214
def oe (C:Ctx) (pl:aD) (o:Oper) (S:St) (K:St→Prop):Prop :=
  match cC pl o with
  | 0=>uH C pl o S K
  | 1=>uI C o S K
  | 2=>iX C pl o S K
  | 4=>match o.dst with
    | some d=>aA o.dst (.ptr (.L d) 0 0) S K
    | none=>ac 217
  | 5=>uK C o S K
  | _=>match rc pl o with
    | true=>ac 219
    | false=>mJ C pl o S K
def qd (C:Ctx) (pl:aD) (o:Oper) (S:St) (K:St→Prop):Prop :=
  match vM o with
  | 0=>uH C pl o S K
  | 1=>uI C o S K
  | 2=>uJ C o S K
  | _=>mJ C pl o S K
def wU (C:Ctx) (pl:aD) (o:Oper) (S:St) (K:St→Prop):Prop :=
  match cK pl o with
  | true=>qc C pl o S K
  | false=>qd C pl o S K
def qe:List Oper→Nat→Option Nat
  | [],_=>none
  | o::os,t =>
    match o.dst,o.op with
    | some d,.fieldAddr _ (.tmp t') _=>match Nat.beq d t with | true=>some t' | false=>qe os t
    | some d,.indexAddr _ (.tmp t') _=>match Nat.beq d t with | true=>some t' | false=>qe os t
    | _,_=>qe os t
def vN (all:List Oper):Nat→Nat→Nat
  | 0,t=>t
  | n + 1,t=>match qe all t with
    | some t'=>vN all n t'
    | none=>t
def cD (pl:aD) (all:Array Oper) (o:Oper):Option Nat :=
  match addrOf o with
  | some t=>match bh pl.bx (vN all.toList 6 t) with
    | true=>some (vN all.toList 6 t)
    | false=>none
  | none=>none
def g8 (a:AV) (site:Option Nat):Bool :=
  match a,site with
  | .ptr (.L d) _ _,some r=>Nat.beq d r
  | .ptr (.O _) _ _,none=>true
  | .fptr _ _,none=>true
  | _,_=>false
def d7 (pl:aD) (all:Array Oper) (o:Oper) (S:St):Bool :=
  match addrOf o with
  | some t=>match S.t[t]? with
    | some a=>g8 a (cD pl all o)
    | none=>false
  | none=>true
def jX (all:Array Oper) (j:Nat):Option Nat:=(all[j]?).bind (·.dst)
def cW (d:Nat) (S:St) (k:Option Bool→St→Prop):Prop :=
  ji S.t d fun a =>
    match a with
    | .v (.bool b)=>q9 b (kJ S.t d (.v (.bool true)) fun t=>k (some true) { t:=t,l:=S.l,o:=S.o,b:=S.b }) (kJ S.t d (.v (.bool false)) fun t=>k (some false) { t:=t,l:=S.l,o:=S.o,b:=S.b })
    | .tup []=>k none S
    | _=>ac 4
def gsel (b:Option Bool) (want:Bool) (X Y:Prop):Prop :=
  match b,want with
  | some true,true=>X
  | some false,false=>X
  | _,_=>Y
def xJ (o:Oper) (S:St):Option (Nat×List Operand) :=
  match o.op with
  | .call c=>match c.callee with
    | .value (.tmp d)=>match S.t[d]? with
      | some (.yld id)=>some (id,c.args.toList)
      | _=>none
    | _=>none
  | _=>none
def sR (C:Ctx) (pl:aD) (o:Oper) (S:St) (K:St→Prop):Prop :=
  match xJ o S with
  | some (id,xs)=>bC S xs fun as=>aB (as.all (jU 4)) (C.ycall id as S.o fun r o'=>dq (aF S.o o' 0) S.t S.l fun t l=>aA o.dst r { t:=t,l:=l,o:=o',b:=S.b } K)
  | none=>wU C pl o S K
def kM (C:Ctx) (pl:aD) (all:Array Oper):List Oper→St→(St→Prop)→Prop
  | [],S,K=>K S
  | o::rest,S,K =>
    match o.guard with
    | none=>sR C pl o S fun S'=>kM C pl all rest S' K
    | some (j,want) =>
      match jX all j with
      | none=>ac 218
      | some d=>cW d S fun b S1=>gsel b want (sR C pl o S1 fun S'=>kM C pl all rest S' K) (aA o.dst (.tup []) S1 fun S'=>kM C pl all rest S' K)
def jl (C:Ctx) (pl:aD) (all:Array Oper) (o:Oper) (S:St) (K:St→Prop):Prop:=aB (d7 pl all o S) (oe C pl o S K)
def ag (C:Ctx) (pl:aD) (all:Array Oper) (o:Oper) (S:St) (K:St→Prop):Prop :=
  match o.guard with
  | none=>jl C pl all o S K
  | some (j,want) =>
    match jX all j with
    | none=>ac 218
    | some d=>cW d S fun b S1=>gsel b want (jl C pl all o S1 K) (aA o.dst (.tup []) S1 K)
def d8 (pl:aD) (ops:Array Oper) (x y:Oper):Bool :=
  match cD pl ops x,cD pl ops y with
  | some a,some b=>!(Nat.beq a b)
  | some _,none=>true
  | none,some _=>true
  | none,none=>false
def mK (pl:aD) (ops:Array Oper) (x y:Oper):Bool :=
  Oper.apart ops x y&&(match cC pl x,cC pl y with
    | 2,0 | 0,2 | 0,0 | 0,1 | 1,0 | 1,1 | 4,0 | 4,1 | 4,2 | 4,4 | 0,4 | 1,4 | 2,4 | 5,0 | 5,1 | 5,2 | 5,4 | 5,5 | 0,5 | 1,5 | 2,5 | 4,5=>true
    | 1,2 | 2,1=>d8 pl ops x y
    | _,_=>false)
def aM:List Oper→List Nat→List Nat
  | [],acc=>acc
  | o::os,acc=>aM os (acc++[o.after.toList.foldl (fun s e=>match Region.binds .any e with | true=>Nat.lor s (Nat.lor (Nat.pow 2 e.on) (acc.getD e.on 0)) | false=>s) 0])
def t8 (pl:aD) (ops:Array Oper) (ws:List Nat) (listed:Array Bool) (i:Nat):Bool :=
  match ops[i]? with
  | none=>false
  | some oi=>(List.range ops.size).all fun j =>
    Nat.beq j i||listed.getD j true ||
      (match ops[j]? with
       | none=>true
       | some oj=>Nat.testBit (ws.getD j 0) i||mK pl ops oi oj)
def sS (n:Nat):Bool :=
  match n with
  | 0 | 1 | 2 | 4 | 5=>true
  | _=>false
def g9 (pl:aD) (ops:Array Oper) (ws:List Nat) (listed:Array Bool):List Nat→Option Nat
  | []=>none
  | i::is=>match (match ops[i]? with | some o=>sS (cC pl o) | none=>false)&&t8 pl ops ws listed i with
    | true=>some i
    | false=>g9 pl ops ws listed is
def zl:Value→Value→Bool
  | .bool a,.bool b=>a==b
  | .int k a,.int l b=>decide (k=l)&&(a==b)
  | .string a,.string b=>a.data.toList==b.data.toList
  | _,_=>false
def zE:Key→Key→Bool
  | .L a,.L b=>Nat.beq a b
  | .O a,.O b=>Nat.beq a b
  | _,_=>false
def jm {α:Type} (f:α→α→Bool):List α→List α→Bool
  | [],[]=>true
  | x::xs,y::ys=>f x y&&jm f xs ys
  | _,_=>false
def q7:Nat→AV→AV→Bool
  | 0,_,_=>false
  | n + 1,x,y =>
    match x,y with
    | .bad,.bad=>true
    | .v a,.v b=>zl a b
    | .nilp,.nilp=>true
    | .ptr k i j,.ptr k' i' j'=>zE k k'&&Nat.beq i i'&&Nat.beq j j'
    | .fptr r j,.fptr r' j'=>jm (q7 n) r r'&&Nat.beq j j'
    | .nilsl,.nilsl=>true
    | .esl,.esl=>true
    | .sl r,.sl r'=>jm (jm (q7 n)) r r'
    | .mf i,.mf j=>Nat.beq i j
    | .mfx i,.mfx j=>Nat.beq i j
    | .nn,.nn=>true
    | .ene,.ene=>true
    | .msl a b c d,.msl a' b' c' d'=>Nat.beq a a'&&Nat.beq b b'&&Nat.beq c c'&&Nat.beq d d'
    | .nilmap,.nilmap=>true
    | .mp i,.mp j=>Nat.beq i j
    | .nilfn,.nilfn=>true
    | .fn f x y,.fn f' x' y'=>Nat.beq f f'&&jm (q7 n) x x'&&jm (q7 n) y y'
    | .agg c,.agg d=>jm (q7 n) c d
    | .tup c,.tup d=>jm (q7 n) c d
    | .yld i,.yld j=>Nat.beq i j
    | _,_=>false
def re:List Nat→List Nat→Bool:=jm Nat.beq
def x6:Value→Value→Bool
  | .slice none a b,.slice none a' b'=>Nat.beq a a'&&Nat.beq b b'
  | .pointer none,.pointer none=>true
  | x,y=>zl x y
def eu:Operand→Operand→Bool
  | .tmp a,.tmp b=>Nat.beq a b
  | .const a,.const b=>x6 a b
  | .func a,.func b=>Nat.beq a b
  | _,_=>false
def sT:Call→Call→Bool
  | ⟨.builtin b,a,t⟩,⟨.builtin b',a',t'⟩=>decide (b=b')&&jm eu a.toList a'.toList&&re t.toList t'.toList
  | ⟨.value b,a,t⟩,⟨.value b',a',t'⟩=>eu b b'&&jm eu a.toList a'.toList&&re t.toList t'.toList
  | _,_=>false
def x7:Op→Op→Bool
  | .move x,.move y=>eu x y
  | .assign x,.assign y=>eu x y
  | .alloc t,.alloc u=>Nat.beq t u
  | .load t x,.load u y=>Nat.beq t u&&eu x y
  | .store t x v,.store u y w=>Nat.beq t u&&eu x y&&eu v w
  | .fieldAddr t x f,.fieldAddr u y g=>Nat.beq t u&&eu x y&&Nat.beq f g
  | .indexAddr t x v,.indexAddr u y w=>Nat.beq t u&&eu x y&&eu v w
  | .binOp o t x v q,.binOp p u y w r=>decide (o=p)&&Nat.beq t u&&eu x y&&eu v w&&Nat.beq q r
  | .buildSlice t n x,.buildSlice u m y=>Nat.beq t u&&Nat.beq n m&&jm (fun a b=>Nat.beq a.1 b.1&&eu a.2 b.2) x.toList y.toList
  | .call c,.call d=>sT c d
  | _,_=>false
def x8 (x y:Edge):Bool:=Nat.beq x.on y.on&&decide (x.ground=y.ground)
def sU (x y:Oper):Bool :=
  decide (x.dst=y.dst)&&x7 x.op y.op&&Nat.beq x.type y.type&&decide (x.pos=y.pos)&&jm x8 x.after.toList y.after.toList&&decide (x.guard=y.guard)
def dr:Code→Code→Bool
  | .skip,.skip=>true
  | .region i x d,.region j y e=>Nat.beq i j&&jm sU x.toList y.toList&&decide (d=e)
  | .seq a b,.seq c d=>dr a c&&dr b d
  | .cond x a b,.cond y c d=>eu x y&&dr a c&&dr b d
  | .block i a,.block j b=>Nat.beq i j&&dr a b
  | .loop a,.loop b=>dr a b
  | .exit i,.exit j=>Nat.beq i j
  | .ret,.ret=>true
  | _,_=>false
def vO:aD→aD→Bool
  | ⟨a,b,c,d,e,f,g,h,i,j,k,l,m,n⟩,⟨a',b',c',d',e',f',g',h',i',j',k',l',m',n'⟩ =>
    re a a'&&re b b'&&re c c'&&re d d'&&re e e'&&re f f'&&re g g'&&re h h'&&re i i'&&re j j'&&jm (fun x y=>Nat.beq x.1 y.1&&Nat.beq x.2 y.2) k k'&&re l l'&&re m m'&&re n n'
def zm {α:Type} (f:α→α→Bool):Option α→Option α→Bool
  | none,none=>true
  | some x,some y=>f x y
  | _,_=>false
def x9:Ob→Ob→Bool
  | .arr a s r,.arr b s' r'=>(a==b)&&Nat.beq s s'&&jm (jm (q7 8)) r r'
  | .mapo a e,.mapo b e'=>(a==b)&&jm (fun x y=>q7 8 x.1 y.1&&q7 8 x.2 y.2) e e'
  | .dead,.dead=>true
  | .own k s c h,.own k' s' c' h'=>zm (jm (q7 8)) k k'&&Nat.beq s s'&&jm (zm (jm (jm (q7 8)))) c c'&&zm (fun x y=>Nat.beq x.1 y.1&&q7 8 x.2 y.2) h h'
  | .lp p s t a b n,.lp p' s' t' a' b' n'=>vO p p'&&re s s'&&jm (q7 8) t t'&&dr a a'&&dr b b'&&Nat.beq n n'
  | _,_=>false
def x_ (S S':St):Bool :=
  jm (q7 8) S.t S'.t&&jm (fun x y=>Nat.beq x.1 y.1&&jm (q7 8) x.2 y.2) S.l S'.l&&jm x9 S.o S'.o&&Nat.beq S.b S'.b
def o5 (C:Ctx) (pl:aD) (ops:Array Oper) (i:Nat) (S:St) (K:St→Prop):Prop :=
  match ops[i]? with
  | none=>ac 303
  | some o=>ag C pl ops o S K
def ln (S2 S1:St) (X:Prop):Prop :=
  match x_ S2 S1 with
  | true=>X
  | false=>S2=S1∧X
def sV (go:Nat→(St→Prop)→Prop):List Nat→St→Prop→Prop
  | [],_,X=>X
  | i::is,S1,X=>go i fun S2=>ln S2 S1 (sV go is S1 X)
def ev (C:Ctx) (pl:aD) (ops:Array Oper) (ws:List Nat):Nat→Array Bool→St→(St→Prop)→Prop
  | 0,listed,S,K=>match Region.ready .any ops listed with
    | []=>K S
    | _::_=>ac 304
  | n + 1,listed,S,K =>
    match Region.ready .any ops listed with
    | []=>K S
    | r::rs =>
      match g9 pl ops ws listed (r::rs) with
      | some k=>o5 C pl ops k S fun S'=>ev C pl ops ws n (listed.setIfInBounds k true) S' K
      | none=>o5 C pl ops r S fun S'=>ev C pl ops ws n (listed.setIfInBounds r true) S' fun S1 =>
          sV (fun i K'=>o5 C pl ops i S fun S'=>ev C pl ops ws n (listed.setIfInBounds i true) S' K') rs S1 (K S1)
def kN (o:Oper):Bool :=
  match o.guard with
  | some _=>false
  | none=>match o.op with
    | .move _ | .assign _ | .nilCheck _ | .fieldAddr _ _ _=>true
    | _=>false
def hH (ops:Array Oper) (listed:Array Bool):List Nat→Option Nat
  | []=>none
  | i::is=>match (match ops[i]? with | some o=>kN o | none=>false)&&Region.free .any ops listed i with
    | true=>some i
    | false=>hH ops listed is
def lY (C:Ctx) (pl:aD) (ops:Array Oper) (ws:List Nat):Nat→Array Bool→St→(St→Prop)→Prop
  | 0,listed,S,K=>ev C pl ops ws 0 listed S K
  | n + 1,listed,S,K=>match hH ops listed (Region.ready .any ops listed) with
    | some i=>o5 C pl ops i S fun S'=>lY C pl ops ws n (listed.setIfInBounds i true) S' K
    | none=>ev C pl ops ws (n + 1) listed S K
def zn (ops:Array Oper):Bool:=Region.noSelect ops&&ops.toList.all fun o=>match o.op with | .defer _=>false | _=>true
def oq (C:Ctx) (pl:aD) (ops:Array Oper) (S:St) (K:St→Prop):Prop :=
  aB (zn ops) (match pl.cl with
    | []=>ev C pl ops (aM ops.toList []) ops.size (Array.replicate ops.size false) S K
    | _::_=>lY C pl ops (aM ops.toList []) ops.size (Array.replicate ops.size false) S K)
def a7:List Oper→List (Nat×TypeId)
  | []=>[]
  | o::os=>match o.op,o.dst with
    | .alloc e,some d=>(d,e)::a7 os
    | _,_=>a7 os
def eM (pl:aD):List (Nat×TypeId)→Bool
  | []=>true
  | (d,_)::xs=>!(bh pl.esc d)&&!(bh (xs.map (·.1)) d)&&eM pl xs
def mi:List Oper→Bool
  | []=>true
  | o::os=>(match o.op,o.guard with | .alloc _,some _=>false | _,_=>true)&&mi os
def lq (pl:aD) (ops:Array Oper):Bool:=eM pl (a7 ops.toList)&&mi ops.toList
def qf (P:Program):List (Nat×TypeId)→St→(St→Prop)→Prop
  | [],S,K=>K S
  | (d,e)::xs,S,K=>a9 P e fun cs=>aB (Nat.blt 0 cs.length) (qf P xs { t:=S.t,l:=(d,cs)::S.l,o:=S.o,b:=S.b } K)
def ot (P:Program) (xs:List (Nat×TypeId)) (S:St) (K:St→Prop):Prop :=
  gn (xs.map (·.1)) S fun S'=>qf P xs S' K
def e_:List (Nat×TypeId)→St→Prop→Prop
  | [],_,X=>X
  | (d,_)::xs,S,X=>ji S.t d fun a=>match a with
    | .ptr (.L d') _ _=>aB (Nat.beq d' d) (e_ xs S X)
    | _=>ac 302
def mL:Code→Bool
  | .seq a b=>mL a&&mL b
  | .cond _ a b=>mL a&&mL b
  | .block _ c=>mL c
  | .loop c=>mL c
  | .rangeFunc _ _ _ _=>false
  | _=>true
def zo (a:AV):AV:=match jU 4 a with | true=>a | false=>.bad
def hJ (C:Ctx) (pl:aD) (g:Operand) (ps:Array Tmp) (asg body:Code) (S:St) (K:Ex→St→Prop):Prop :=
  match C.rf with
  | false=>ac 119
  | true=>a_ S g fun gv=>match gv with
    | .fn fid first cap=>aB (mL asg&&mL body&&(first++([AV.yld S.o.length]++cap)).all (jU 4)) (jT (S.t.map zo) fun t0=>C.scall fid (first++([AV.yld S.o.length]++cap)) (S.o++[Ob.lp pl ps.toList t0 asg body 0]) fun _ o' =>
        dq (aF (S.o++[Ob.lp pl ps.toList t0 asg body 0]) o' 0) S.t S.l fun t l=>match o'[S.o.length]? with
        | some (.lp _ _ _ _ _ st)=>b_ [S.o.length] { t:=t,l:=l,o:=o',b:=S.b } fun S'=>match st with
          | 0=>K .nrm S'
          | 1=>K .ret S'
          | n + 2=>K (.ex n) S'
        | _=>ac 404)
    | _=>ac 405
def cF (C:Ctx) (pl:aD):Code→St→(Ex→St→Prop)→Prop
  | .skip,S,K=>K .nrm S
  | .region id ops draw,S,K =>
    match draw with
    | false=>kM C pl ops ops.toList S fun S'=>eG pl id S' fun S''=>K .nrm S''
    | true=>aB (lq pl ops) (ot C.P (a7 ops.toList) S fun S1=>oq C pl ops S1 fun S'=>e_ (a7 ops.toList) S' (eG pl id S' fun S''=>K .nrm S''))
  | .seq a b,S,K=>cF C pl a S fun e S'=>match e with
    | .nrm=>cF C pl b S' K
    | .ex i=>K (.ex i) S'
    | .ret=>K .ret S'
  | .cond c x y,S,K=>gX c S fun b S'=>match b with
    | true=>cF C pl x S' K
    | false=>cF C pl y S' K
  | .block id c,S,K=>cF C pl c S fun e S'=>match e with
    | .ex i=>match Nat.beq i id with | true=>K .nrm S' | false=>K (.ex i) S'
    | .nrm=>K .nrm S'
    | .ret=>K .ret S'
  | .loop c,S,K=>C.loop pl c S K
  | .exit id,S,K=>K (.ex id) S
  | .ret,S,K=>K .ret S
  | .rangeFunc g ps asg body,S,K=>hJ C pl g ps asg body S K
  | _,_,_=>ac 119
def lZ (P:Program) (S:St):List ResultVar→(List AV→Prop)→Prop
  | [],k=>k []
  | .tmp t::rs,k=>ji S.t t fun a=>lZ P S rs fun as=>k (a::as)
  | .cell a t::rs,k=>ji S.t a fun p=>vC S p fun row j=>dJ P t row j fun x=>lZ P S rs fun as=>k (x::as)
def ou (as:List AV) (k:AV→Prop):Prop :=
  match as with
  | [a]=>k a
  | as=>k (.tup as)
def qg:Nat→List AV
  | 0=>[]
  | n + 1=>.bad::qg n
def gr (C:Ctx) (k:Ctx→Prop):Prop :=
  match C with
  | ⟨a,b,c,d,e,f,g,h⟩=>k ⟨a,b,c,d,e,f,g,h⟩
def sW (p:aD) (k:aD→Prop):Prop :=
  match p with
  | ⟨a,b,c,d,e,f,g,h,i,j,l,m,n,o⟩=>k ⟨a,b,c,d,e,f,g,h,i,j,l,m,n,o⟩
def mM (C:Ctx) (f:Nat) (args:List AV) (o:List Ob) (K:AV→St→Prop):Prop :=
  match C.P.funcs[f]? with
  | some fn=>match fn.body with
    | some c=>sW (C.pol f) fun pl=>cF C pl c { t:=args++qg (fn.ntmps - args.length),l:=[],o:=o,b:=o.length } fun e S =>
        match e with
        | .ex _=>ac 120
        | _=>lZ C.P S fn.results.toList fun rs=>ou rs fun r=>K r S
    | none=>ac 121
  | none=>ac 122
def lr (C:Ctx) (f:Nat) (args:List AV) (o:List Ob) (K:AV→St→Prop):Prop:=gr C fun C=>mM C f args o K
def jY (C:Ctx) (f:Nat) (args:List AV) (K:AV→Prop):Prop :=
  lr C f args [] fun r S=>qb S.o r K
def kO (C:Ctx) (f:Nat) (args:List AV) (o:List Ob) (K:AV→List Ob→Prop):Prop :=
  lr C f args o fun r S=>aB (jU 4 r&&Nat.beq S.b o.length) (K r S.o)
def o6:List Nat→List AV→List AV→List AV
  | p::ps,a::as,t=>o6 ps as (t.set p a)
  | _,_,t=>t
def vP:Ex→Nat
  | .nrm=>0
  | .ret=>1
  | .ex n=>n + 2
def fX (C:Ctx) (id:Nat) (args:List AV) (o:List Ob) (K:AV→List Ob→Prop):Prop :=
  match o[id]? with
  | some (.lp pl ps t asg body 0)=>aB (Nat.beq args.length ps.length&&args.all (jU 4)&&mL asg&&mL body) (eZ (.O id) t fun t1=>eZ (.O id) args fun as=>cU (.O id) o fun o0=>ay (o0.set id .dead) fun o1 =>
      cF C pl asg { t:=o6 ps as t1,l:=[],o:=o1,b:=o.length } fun e S=>match e with
      | .nrm=>cF C pl body S fun e2 S2=>aB (Nat.beq S2.b o.length) (match S2.o[id]? with
        | some .dead=>dq (aF o1 S2.o 0) t1 [] fun t2 _=>ay (S2.o.set id (.lp pl ps t2 asg body (vP e2))) fun o2=>K (.v (.bool (Nat.beq (vP e2) 0))) o2
        | _=>ac 401)
      | _=>ac 402)
  | _=>ac 403
structure iU where
  P:Program
  pure:Nat→Bool
  pol:Nat→aD
  xs:Nat→Bool:=fun _=>false
  xc:Nat→List AV→List Ob→(AV→List Ob→Prop)→Prop:=fun _ _ _ _=>False
  xq:Nat→List AV→Option AV:=fun _ _=>none
def cg (G:iU):Nat→Ctx
  | 0=>{ P:=G.P,pure:=G.pure,pol:=G.pol,pcall:=fun _ _ _=>ac 123,scall:=fun _ _ _ _=>ac 124,loop:=fun _ _ _ _=>ac 125 }
  | n + 1=>{ P:=G.P,pure:=G.pure,pol:=G.pol,pcall:=fun f args K=>match G.xq f args with | some r=>K r | none=>jY (cg G n) f args K,scall:=fun f args o K=>match G.xs f with | true=>G.xc f args o K | false=>kO (cg G n) f args o K,rf:=true,ycall:=fun id args o K=>gr (cg G n) fun C=>fX C id args o K,loop:=fun pl c S K=>gr (cg G n) fun C=>cF C pl c S fun e S'=>match e with
                 | .nrm=>C.loop pl c S' K
                 | .ex i=>K (.ex i) S'
                 | .ret=>K .ret S' }
inductive MV where
  | blk (b o sz n:Nat)
  | virt
structure Env where
  F:Nat→Prop
  mu:Key→Option MV
  h:Array Obj
def Env.fz (E:Env):Env:=⟨E.F,fun _=>none,E.h⟩
def o7 (mu:Key→Option MV):Key→Option MV
  | .L _=>none
  | .O i=>mu (.O i)
  | .S id i=>mu (.S id i)
def Env.ob (E:Env):Env:=⟨E.F,o7 E.mu,E.h⟩
def bq (h:Array Obj) (b i:Nat):Option Value :=
  match h[b]? with
  | some (.cells c _ _)=>c[i]?
  | _=>none
def au (h:Array Obj) (b:Nat):Nat :=
  match h[b]? with
  | some (.cells c _ _)=>c.size
  | _=>0
def plain:Value→Bool
  | .bool _ | .int _ _ | .float _ _ | .complex _ _ _ | .string _=>true
  | _=>false
inductive VR:Env→AV→Value→Prop where
  | bad (E:Env) (u:Value):VR E .bad u
  | v (E:Env) (x:Value):plain x=true→VR E (.v x) x
  | nilp (E:Env):VR E .nilp (.pointer none)
  | ptr {E:Env} {k:Key} {b o sz n:Nat} (i j:Nat) (hs:k.isS=false):E.mu k=some (.blk b o sz n)→VR E (.ptr k i j) (.pointer (some ⟨b,o + i * sz + j,none⟩))
  | fptr {E:Env} {row:List AV} {b o:Nat} (j:Nat) (us:List Value):us.length=row.length→(∀ (m:Nat) (c:AV) (u:Value),row[m]?=some c→us[m]?=some u→VR E.fz c u) →
      E.F b→(∀ (m:Nat) (u:Value),us[m]?=some u→bq E.h b (o + m)=some u)→VR E (.fptr row j) (.pointer (some ⟨b,o + j,none⟩))
  | nilsl (E:Env):VR E .nilsl (.slice none 0 0)
  | esln (E:Env):VR E .esl (.slice none 0 0)
  | esl (E:Env) (a:Addr):VR E .esl (.slice (some a) 0 0)
  | ene (E:Env) (a:Addr):VR E .ene (.slice (some a) 0 0)
  | sln (E:Env):VR E (.sl []) (.slice none 0 0)
  | sle (E:Env) (a:Addr) (cap:Nat):VR E (.sl []) (.slice (some a) 0 cap)
  | sl {E:Env} {rows:List (List AV)} {sz b o cap:Nat} (us:List Value):0<sz→(∀ r∈rows,r.length=sz)→us.length=rows.flatten.length →
      (∀ (m:Nat) (c:AV) (u:Value),rows.flatten[m]?=some c→us[m]?=some u→VR E.fz c u)→E.F b→(∀ (m:Nat) (u:Value),us[m]?=some u→bq E.h b (o + m)=some u) →
      rows.length≤cap→VR E (.sl rows) (.slice (some ⟨b,o,none⟩) rows.length cap)
  | mfn {E:Env} {id:Nat}:E.mu (.O id)=some .virt→VR E (.mf id) (.slice none 0 0)
  | mfe {E:Env} {id:Nat} (a:Addr):E.mu (.O id)=some .virt→VR E (.mf id) (.slice (some a) 0 0)
  | mf {E:Env} {id b o sz n:Nat} (cap:Nat):E.mu (.O id)=some (.blk b o sz n)→n≤cap→o + cap * sz≤au E.h b→VR E (.mf id) (.slice (some ⟨b,o,none⟩) n cap)
  | mfxe {E:Env} {id:Nat} (a:Addr):E.mu (.O id)=some .virt→VR E (.mfx id) (.slice (some a) 0 0)
  | mfx {E:Env} {id b o sz n:Nat} (cap:Nat):E.mu (.O id)=some (.blk b o sz n)→n≤cap→o + cap * sz≤au E.h b→VR E (.mfx id) (.slice (some ⟨b,o,none⟩) n cap)
  | nn (E:Env) (a:Addr) (n cap:Nat):VR E .nn (.slice (some a) n cap)
  | msle {E:Env} {id:Nat} {x:MV} (off:Nat) (a:Option Addr):E.mu (.O id)=some x→VR E (.msl id off 0 0) (.slice a 0 0)
  | msl {E:Env} {id b o sz n:Nat} (off len ext cap:Nat):E.mu (.O id)=some (.blk b o sz n)→off + len + ext≤n→len + ext≤cap→o + (off + cap) * sz≤au E.h b →
      VR E (.msl id off len ext) (.slice (some ⟨b,o + off * sz,none⟩) len cap)
  | bsl {E:Env} {k:Key} {b o sz n:Nat} (off len cap:Nat) (hs:k.isS=false):E.mu k=some (.blk b o sz n)→len≤cap→VR E (.bsl k off len) (.slice (some ⟨b,o + off,none⟩) len cap)
  | nilmap (E:Env):VR E .nilmap (.map none)
  | mp {E:Env} {id b o sz n:Nat}:E.mu (.O id)=some (.blk b o sz n)→VR E (.mp id) (.map (some b))
  | yld {E:Env} {id l o s n:Nat}:E.mu (.O id)=some (.blk l o s n)→VR E (.yld id) (.func (.yield l) #[] #[])
  | nilfn (E:Env):VR E .nilfn .nilFunc
  | fn {E:Env} {f:Nat} {xs ys:List AV} (us ws:Array Value):xs.length=us.size→(∀ (m:Nat) (c:AV) (u:Value),xs[m]?=some c→us[m]?=some u→VR E c u) →
      ys.length=ws.size→(∀ (m:Nat) (c:AV) (u:Value),ys[m]?=some c→ws[m]?=some u→VR E c u)→VR E (.fn f xs ys) (.func (.func f) us ws)
  | agg {E:Env} {cs:List AV} (us:Array Value):cs.length=us.size→(∀ (m:Nat) (c:AV) (u:Value),cs[m]?=some c→us[m]?=some u→VR E c u)→VR E (.agg cs) (.agg us)
  | tup {E:Env} {cs:List AV} (us:Array Value):cs.length=us.size→(∀ (m:Nat) (c:AV) (u:Value),cs[m]?=some c→us[m]?=some u→VR E c u)→VR E (.tup cs) (.tuple us)
structure LE (E E':Env):Prop where
  F:∀ b,E.F b→E'.F b
  mu:∀ k x,k.isS=false→E.mu k=some x→E'.mu k=some x
  hF:∀ b,E.F b→E'.h[b]?=E.h[b]?
  sz:∀ k b o s n,k.isS=false→E.mu k=some (.blk b o s n)→au E'.h b=au E.h b
theorem LE.refl (E:Env):LE E E:=⟨fun _ h=>h,fun _ _ _ h=>h,fun _ _=>rfl,fun _ _ _ _ _ _ _=>rfl⟩
theorem LE.trans {E E' E'':Env} (h:LE E E') (k:LE E' E''):LE E E'' :=
  ⟨fun b hb=>k.F b (h.F b hb),fun x y hs hx=>k.mu x y hs (h.mu x y hs hx),fun b hb=>(k.hF b (h.F b hb)).trans (h.hF b hb),
   fun x b o s n hs hx=>(k.sz x b o s n hs (h.mu _ _ hs hx)).trans (h.sz x b o s n hs hx)⟩
theorem LE.fz {E E':Env} (h:LE E E'):LE E.fz E'.fz:=⟨h.F,fun _ _ _ hx=>(by cases hx),h.hF,fun _ _ _ _ _ _ hx=>(by cases hx)⟩
theorem b7 {mu:Key→Option MV} {k:Key} {x:MV} (h:o7 mu k=some x):mu k=some x:=by
  cases k with
  | L d=>cases h
  | O i=>exact h
  | S id i=>exact h
theorem LE.ob {E E':Env} (h:LE E E'):LE E.ob E'.ob :=
  ⟨h.F,fun k x hs hx=>(by
    cases k with
    | L d=>cases hx
    | O i=>exact h.mu _ _ hs hx
    | S id i=>cases hs),h.hF,fun k b o s n hs hx=>h.sz k b o s n hs (b7 hx)⟩
theorem f_ {h h':Array Obj} {b:Nat} (e:h'[b]?=h[b]?) (i:Nat):bq h' b i=bq h b i:=by
  unfold bq; rw [e]
theorem VR.mono {E:Env} {a:AV} {u:Value} (hv:VR E a u):∀ {E':Env},LE E E'→VR E' a u:=by
  induction hv with
  | bad E u=>intro E' _; exact .bad _ _
  | v E x hx=>intro E' _; exact .v _ _ hx
  | nilp E=>intro E' _; exact .nilp _
  | ptr i j hs hm=>intro E' h; exact .ptr i j hs (h.mu _ _ hs hm)
  | fptr j us hl hc hF hcell ih=>intro E' h; exact .fptr j us hl (fun m c u h1 h2=>ih m c u h1 h2 h.fz) (h.F _ hF) (fun m u hu=>(f_ (h.hF _ hF) _).trans (hcell m u hu))
  | nilsl E=>intro E' _; exact .nilsl _
  | esln E=>intro E' _; exact .esln _
  | esl E a=>intro E' _; exact .esl _ a
  | ene E a=>intro E' _; exact .ene _ a
  | sln E=>intro E' _; exact .sln _
  | sle E a cap=>intro E' _; exact .sle _ a cap
  | sl us hsz hr hl hc hF hcell hcap ih=>intro E' h; exact .sl us hsz hr hl (fun m c u h1 h2=>ih m c u h1 h2 h.fz) (h.F _ hF) (fun m u hu=>(f_ (h.hF _ hF) _).trans (hcell m u hu)) hcap
  | mfn hm=>intro E' h; exact .mfn (h.mu _ _ rfl hm)
  | mfe a hm=>intro E' h; exact .mfe a (h.mu _ _ rfl hm)
  | mf cap hm hn hc=>intro E' h; exact .mf cap (h.mu _ _ rfl hm) hn (by rw [h.sz _ _ _ _ _ rfl hm]; exact hc)
  | mfxe a hm=>intro E' h; exact .mfxe a (h.mu _ _ rfl hm)
  | mfx cap hm hn hc=>intro E' h; exact .mfx cap (h.mu _ _ rfl hm) hn (by rw [h.sz _ _ _ _ _ rfl hm]; exact hc)
  | nn E a n cap=>intro E' _; exact .nn _ a n cap
  | msle off a hm=>intro E' h; exact .msle off a (h.mu _ _ rfl hm)
  | msl off len ext cap hm h1 h2 h3=>intro E' h; exact .msl off len ext cap (h.mu _ _ rfl hm) h1 h2 (by rw [h.sz _ _ _ _ _ rfl hm]; exact h3)
  | bsl off len cap hs hm h1=>intro E' h; exact .bsl off len cap hs (h.mu _ _ hs hm) h1
  | nilmap E=>intro E' _; exact .nilmap _
  | mp hm=>intro E' h; exact .mp (h.mu _ _ rfl hm)
  | yld hm=>intro E' h; exact .yld (h.mu _ _ rfl hm)
  | nilfn E=>intro E' _; exact .nilfn _
  | fn us ws h1 h2 h3 h4 ih1 ih2=>intro E' h; exact .fn us ws h1 (fun m c u hc hu=>ih1 m c u hc hu h) h3 (fun m c u hc hu=>ih2 m c u hc hu h)
  | agg us h1 h2 ih=>intro E' h; exact .agg us h1 (fun m c u hc hu=>ih m c u hc hu h)
  | tup us h1 h2 ih=>intro E' h; exact .tup us h1 (fun m c u hc hu=>ih m c u hc hu h)
theorem VR.of_fz {E:Env} {a:AV} {u:Value} (hv:VR E.fz a u):VR E a u :=
  hv.mono ⟨fun _ h=>h,fun _ _ _ h=>(by cases h),fun _ _=>rfl,fun _ _ _ _ _ _ h=>(by cases h)⟩
theorem VR.of_ob {E:Env} {a:AV} {u:Value} (hv:VR E.ob a u):VR E a u :=
  hv.mono ⟨fun _ h=>h,fun _ _ _ h=>b7 h,fun _ _=>rfl,fun _ _ _ _ _ _ _=>rfl⟩
theorem VR.fz_ob {E:Env} {a:AV} {u:Value} (hv:VR E.fz a u):VR E.ob a u :=
  hv.mono ⟨fun _ h=>h,fun _ _ _ h=>(by cases h),fun _ _=>rfl,fun _ _ _ _ _ _ h=>(by cases h)⟩
def aO (E:Env) (cs:List AV) (us:List Value):Prop :=
  cs.length=us.length∧∀ (m:Nat) (c:AV) (u:Value),cs[m]?=some c→us[m]?=some u→VR E c u
theorem aO.mono {E E':Env} {cs:List AV} {us:List Value} (h:aO E cs us) (hl:LE E E'):aO E' cs us:=⟨h.1,fun m c u h1 h2=>(h.2 m c u h1 h2).mono hl⟩
theorem aO.nil (E:Env):aO E [] []:=⟨rfl,fun m c u h=>(by simp at h)⟩
theorem aO.cons {E:Env} {c:AV} {u:Value} {cs:List AV} {us:List Value} (h:VR E c u) (hs:aO E cs us):aO E (c::cs) (u::us) :=
  ⟨by simp [hs.1],fun m c' u' h1 h2=>by
    cases m with
    | zero=>simp at h1 h2; subst h1 h2; exact h
    | succ m=>exact hs.2 m c' u' (by simpa using h1) (by simpa using h2)⟩
theorem aO.uncons {E:Env} {c:AV} {cs:List AV} {vs:List Value} (h:aO E (c::cs) vs):∃ u us,vs=u::us∧VR E c u∧aO E cs us:=by
  cases vs with
  | nil=>exact absurd h.1 (by simp)
  | cons u us=>exact ⟨u,us,rfl,h.2 0 c u rfl rfl,by simpa using h.1,fun m c' u' h1 h2=>h.2 (m + 1) c' u' (by simpa using h1) (by simpa using h2)⟩
theorem aO.unnil {E:Env} {vs:List Value} (h:aO E [] vs):vs=[]:=List.eq_nil_of_length_eq_zero h.1.symm
theorem aO.get {E:Env} {cs:List AV} {us:List Value} (h:aO E cs us) {m:Nat} {c:AV} (hc:cs[m]?=some c):∃ u,us[m]?=some u∧VR E c u:=by
  have hm:m<us.length:=by rw [← h.1]; exact (List.getElem?_eq_some_iff.1 hc).1
  exact ⟨us[m],List.getElem?_eq_getElem hm,h.2 m c _ hc (List.getElem?_eq_getElem hm)⟩
theorem aO.append {E:Env} {cs ds:List AV} {us vs:List Value} (h:aO E cs us) (k:aO E ds vs):aO E (cs++ds) (us++vs):=by
  induction cs generalizing us with
  | nil=>rw [h.unnil]; exact k
  | cons c cs ih =>
    obtain ⟨u,us',rfl,hc,hs⟩:=h.uncons
    exact .cons hc (ih hs)
theorem aO.take {E:Env} {cs:List AV} {us:List Value} (h:aO E cs us) (n:Nat):aO E (cs.take n) (us.take n) :=
  ⟨by simp [h.1],fun m c u h1 h2=>by
    rw [List.getElem?_take] at h1 h2
    split at h1
    · rename_i hm; rw [if_pos hm] at h2; exact h.2 m c u h1 h2
    · cases h1⟩
theorem aO.drop {E:Env} {cs:List AV} {us:List Value} (h:aO E cs us) (n:Nat):aO E (cs.drop n) (us.drop n) :=
  ⟨by simp [h.1],fun m c u h1 h2=>by
    rw [List.getElem?_drop] at h1 h2
    exact h.2 _ c u h1 h2⟩
theorem aO.of_fz {E:Env} {cs:List AV} {us:List Value} (h:aO E.fz cs us):aO E cs us:=⟨h.1,fun m c u h1 h2=>(h.2 m c u h1 h2).of_fz⟩
theorem aO.of_ob {E:Env} {cs:List AV} {us:List Value} (h:aO E.ob cs us):aO E cs us:=⟨h.1,fun m c u h1 h2=>(h.2 m c u h1 h2).of_ob⟩
theorem aO.aggV {E:Env} {cs:List AV} {us:Array Value} (h:aO E cs us.toList):VR E (.agg cs) (.agg us) :=
  .agg us (by simpa using h.1) (fun m c u h1 h2=>h.2 m c u h1 (by simpa using h2))
theorem VR.aggI {E:Env} {cs:List AV} {u:Value} (h:VR E (.agg cs) u):∃ us:Array Value,u=.agg us∧aO E cs us.toList:=by
  cases h with
  | agg us h1 h2=>exact ⟨us,rfl,by simpa using h1,fun m c u hc hu=>h2 m c u hc (by simpa using hu)⟩
theorem VR.tupI {E:Env} {cs:List AV} {u:Value} (h:VR E (.tup cs) u):∃ us:Array Value,u=.tuple us∧aO E cs us.toList:=by
  cases h with
  | tup us h1 h2=>exact ⟨us,rfl,by simpa using h1,fun m c u hc hu=>h2 m c u hc (by simpa using hu)⟩
theorem VR.vI {E:Env} {x u:Value} (h:VR E (.v x) u):u=x∧plain x=true:=by
  cases h with
  | v _ _ hx=>exact ⟨rfl,hx⟩
def aX (E':Env) (h:Array Obj) (rows:List (List AV)) (b o sz:Nat):Prop :=
  0<sz∧(∀ r∈rows,r.length=sz)∧∃ (us:Array Value) (ty:TypeId),h[b]?=some (.cells us ty (0,0))∧o + rows.length * sz≤us.size ∧
    ∀ (m:Nat) (c:AV),rows.flatten[m]?=some c→∃ u,us[o + m]?=some u∧VR E' c u
def a6 (E:Env) (fl:Bool):Env:=match fl with | true=>E.fz | false=>E.ob
def l4 (ms:Array MapEntry) (clock:Nat):Prop:=(∀ x∈ms.toList,x.born<clock)∧(ms.toList.map (·.born)).Nodup
theorem l4.empty (clock:Nat):l4 #[] clock:=⟨by simp,by simp⟩
theorem l4.push {ms:Array MapEntry} {clock:Nat} (h:l4 ms clock) (key val:Value):l4 (ms.push { key:=key,val:=val,born:=clock }) (clock + 1):=by
  obtain ⟨h1,h2⟩:=h
  refine ⟨fun x hx=>?_,?_⟩
  · simp only [Array.toList_push,List.mem_append,List.mem_singleton] at hx
    rcases hx with hx | rfl
    · exact Nat.lt_succ_of_lt (h1 x hx)
    · exact Nat.lt_succ_self _
  · simp only [Array.toList_push,List.map_append,List.map_cons,List.map_nil]
    refine List.nodup_append.2 ⟨h2,by simp,fun a ha b hb=>?_⟩
    simp only [List.mem_singleton] at hb
    subst hb
    obtain ⟨x,hx,rfl⟩:=List.mem_map.1 ha
    exact Nat.ne_of_lt (h1 x hx)
theorem l4.modify {ms:Array MapEntry} {clock:Nat} (h:l4 ms clock) (i:Nat) (key val:Value):l4 (ms.modify i fun e=>{ e with key:=key,val:=val }) clock:=by
  have hb:(ms.modify i fun e=>{ e with key:=key,val:=val }).toList.map (·.born)=ms.toList.map (·.born):=by
    apply List.ext_getElem?
    intro j
    simp only [List.getElem?_map,Array.getElem?_toList,Array.getElem?_modify]
    split
    · rename_i e
      subst e
      cases ms[i]? <;> rfl
    · rfl
  refine ⟨fun x hx=>?_,by rw [hb]; exact h.2⟩
  have:x.born∈(ms.modify i fun e=>{ e with key:=key,val:=val }).toList.map (·.born):=List.mem_map.2 ⟨x,hx,rfl⟩
  rw [hb] at this
  obtain ⟨y,hy,e⟩:=List.mem_map.1 this
  rw [← e]
  exact h.1 y hy
def vQ (E:Env) (h:Array Obj) (fl:Bool) (es:List (AV×AV)) (b:Nat):Prop :=
  ∃ (ms:Array MapEntry) (clock:Nat),h[b]?=some (.map ms clock)∧(es.length=ms.size∧l4 ms clock) ∧
    ∀ (i:Nat) (e:AV×AV) (m:MapEntry),es[i]?=some e→ms[i]?=some m→sL e.1=some m.key∧VR (a6 E fl) e.2 m.val
def wV (E:Env) (ps:List Nat) (t:List AV) (asg body:Code) (st:Nat) (r:Loop):Prop :=
  r.params.toList=ps∧r.assign=asg∧r.body=body∧(t.length=r.tmps.size∧∀ (m:Nat) (c:AV) (u:Value),t[m]?=some c→r.tmps[m]?=some u→VR E c u) ∧
    (match st with
     | 0=>r.state=.ready∧r.pending=none
     | 1=>r.state=.done∧r.pending=some .ret
     | n + 2=>r.state=.done∧r.pending=some (.exit n))
theorem wV.mono {E E':Env} {ps:List Nat} {t:List AV} {asg body:Code} {st:Nat} {r:Loop} (h:wV E ps t asg body st r) (hl:LE E E'):wV E' ps t asg body st r :=
  ⟨h.1,h.2.1,h.2.2.1,⟨h.2.2.2.1.1,fun m c u h1 h2=>(h.2.2.2.1.2 m c u h1 h2).mono hl⟩,h.2.2.2.2⟩
def b9 (E:Env) (x:Option Ob) (mv:Option MV):Prop :=
  match x,mv with
  | some (.arr _ _ rows),some .virt=>rows=[]
  | some (.arr fl sz rows),some (.blk b o s n)=>(s=sz∧n=rows.length)∧aX (a6 E fl) E.h rows b o s
  | some (.mapo fl es),some (.blk b _ _ _)=>vQ E E.h fl es b
  | some (.lp _ ps t asg body st),some (.blk b _ _ _)=>∃ r,E.h[b]?=some (.loop r)∧wV E.ob ps t asg body st r
  | some (.own ks _ cells _),some .virt=>ks=none∧cells=[]
  | some (.own ks _ cells _),some (.blk _ _ s n)=>ks=none→s=1∧n=cells.length
  | some .dead,none=>True
  | none,none=>True
  | _,_=>False
def c_ (pend:Nat→Option (List AV)) (E:Env) (x:Option (List AV)) (d:Nat):Prop :=
  match x with
  | none=>E.mu (.L d)=none
  | some row=>(∃ b,E.mu (.L d)=some (.blk b 0 row.length 1)∧aX E E.h [row] b 0 row.length)∨(E.mu (.L d)=none∧pend d=some row∧∀ k,row.map (a5 4 k)=row)
def aN (E:Env) (sz:Nat) (c:Option (List (List AV))) (mv:Option MV) (u:Value):Prop :=
  match c,mv with
  | none,none=>u=.slice none 0 0
  | some rows,some .virt=>rows=[]∧∃ a,u=.slice a 0 0∧(q6 sz=true→a.isSome=true)
  | some rows,some (.blk b o s n)=>(s=mB sz∧n=rows.length)∧aX E.fz E.h rows b o s∧∃ cap,n≤cap∧o + cap * s≤au E.h b∧u=.slice (some ⟨b,o,none⟩) n cap
  | _,_=>False
def vR (E:Env) (sz:Nat) (hole:Option (Nat×AV)) (i:Nat) (c:Option (List (List AV))) (mv:Option MV) (u:Value):Prop :=
  match hole with
  | some (j,a)=>if j=i then mv=none∧VR E.ob a u else aN E sz c mv u
  | none=>aN E sz c mv u
def cG (h:Array Obj) (b o i:Nat):Option Value :=
  match h[b]? with
  | some (.cells us _ _)=>us[o + i]?
  | some (.map ms _)=>(ms[i]?).map (·.val)
  | _=>none
def o8 (h:Array Obj) (ks:Option (List AV)) (b o n:Nat):Prop :=
  match ks with
  | none=>∃ us ty,h[b]?=some (.cells us ty (0,0))∧o + n≤us.size
  | some ks=>∃ ms clock,h[b]?=some (.map ms clock)∧(n=ms.size∧n=ks.length∧l4 ms clock)∧∀ (i:Nat) (k:AV) (m:MapEntry),ks[i]?=some k→ms[i]?=some m→sL k=some m.key
theorem o8.congr {h h':Array Obj} {ks:Option (List AV)} {b o n:Nat} (hb:o8 h ks b o n) (e:h'[b]?=h[b]?):o8 h' ks b o n:=by
  cases ks with
  | none =>
    obtain ⟨us,ty,h1,h2⟩:=hb
    exact ⟨us,ty,e.trans h1,h2⟩
  | some ks =>
    obtain ⟨ms,clock,h1,h2⟩:=hb
    exact ⟨ms,clock,e.trans h1,h2⟩
theorem lu {h h':Array Obj} {b:Nat} (e:h'[b]?=h[b]?) (o i:Nat):cG h' b o i=cG h b o i:=by
  unfold cG
  rw [e]
theorem rh {h:Array Obj} {b o n i:Nat} {u:Value} (hb:o8 h none b o n) (hv:cG h b o i=some u):bq h b (o + i)=some u:=by
  obtain ⟨us,ty,h1,_⟩:=hb
  unfold cG at hv
  unfold bq
  rw [h1] at hv ⊢
  exact hv
def bi (E:Env) (id:Nat) (x:Option Ob):Prop :=
  match x with
  | some (.own ks sz cells hole)=>0<mB sz∧(∀ i,cells.length≤i→E.mu (.S id i)=none) ∧
      ∀ b o s n,E.mu (.O id)=some (.blk b o s n)→o8 E.h ks b o cells.length ∧
        ∀ i c,cells[i]?=some c→∃ u,cG E.h b o i=some u∧vR E sz hole i c (E.mu (.S id i)) u
  | _=>∀ i,E.mu (.S id i)=none
theorem aN.mono {E E':Env} {sz:Nat} {c:Option (List (List AV))} {mv:Option MV} {u:Value} (h:aN E sz c mv u) (hf:LE E.fz E'.fz) (hh:∀ b o s n,mv=some (.blk b o s n)→E'.h[b]?=E.h[b]?):aN E' sz c mv u:=by
  revert h
  cases c with
  | none =>
    cases mv with
    | none=>exact fun h=>h
    | some mv=>cases mv <;> exact fun h=>h.elim
  | some rows =>
    cases mv with
    | none=>exact fun h=>h.elim
    | some mv =>
      cases mv with
      | virt=>exact fun h=>h
      | blk b o s n =>
        rintro ⟨h0,⟨h1,h2,us,ty,h3,h4,h5⟩,cap,h6,h7,h8⟩
        have hb:=hh _ _ _ _ rfl
        refine ⟨h0,⟨h1,h2,us,ty,hb.trans h3,h4,fun m c hc=>?_⟩,cap,h6,?_,h8⟩
        · obtain ⟨u,hu,hv⟩:=h5 m c hc
          exact ⟨u,hu,hv.mono hf⟩
        · have:au E'.h b=au E.h b:=by unfold au; rw [hb]
          rw [this]
          exact h7
theorem bi.mono {E E':Env} {id:Nat} {x:Option Ob} (h:bi E id x) (hO:E'.mu (.O id)=E.mu (.O id)) (hS:∀ i,E'.mu (.S id i)=E.mu (.S id i)) (hf:LE E.fz E'.fz) (hb:LE E.ob E'.ob)
    (hh:∀ k b o s n,(k=.O id∨∃ i,k=.S id i)→E.mu k=some (.blk b o s n)→E'.h[b]?=E.h[b]?):bi E' id x:=by
  revert h
  unfold bi
  split
  · rename_i ks sz cells hole
    rintro ⟨h1,h2,h3⟩
    refine ⟨h1,fun i hi=>(hS i).trans (h2 i hi),fun b o s n hm=>?_⟩
    rw [hO] at hm
    obtain ⟨h4,h6⟩:=h3 b o s n hm
    have hbb:=hh _ _ _ _ _ (.inl rfl) hm
    refine ⟨h4.congr hbb,fun i c hc=>?_⟩
    obtain ⟨u,hu,h7⟩:=h6 i c hc
    refine ⟨u,(lu hbb _ _).trans hu,?_⟩
    rw [hS i]
    have hcell:aN E sz c (E.mu (.S id i)) u→aN E' sz c (E.mu (.S id i)) u:=fun h=>h.mono hf fun b o s n e=>hh _ _ _ _ _ (.inr ⟨i,rfl⟩) e
    unfold vR at h7 ⊢
    split at h7
    · rename_i j a
      by_cases hj:j=i
      · rw [if_pos hj] at h7 ⊢
        exact ⟨h7.1,h7.2.mono hb⟩
      · rw [if_neg hj] at h7 ⊢
        exact hcell h7
    · exact hcell h7
  · exact fun h i=>(hS i).trans (h i)
theorem bi.arr {E:Env} {id sz:Nat} {fl:Bool} {rows:List (List AV)}:bi E id (some (.arr fl sz rows))↔∀ i,E.mu (.S id i)=none:=Iff.rfl
theorem bi.mapo {E:Env} {id:Nat} {fl:Bool} {es:List (AV×AV)}:bi E id (some (.mapo fl es))↔∀ i,E.mu (.S id i)=none:=Iff.rfl
theorem bi.deadI {E:Env} {id:Nat}:bi E id (some .dead)↔∀ i,E.mu (.S id i)=none:=Iff.rfl
def du:Option Ob→Bool
  | some (.own _ _ _ _)=>false
  | _=>true
theorem bi.not {E:Env} {id:Nat} {x:Option Ob} (h:du x=true):bi E id x↔∀ i,E.mu (.S id i)=none:=by
  unfold bi
  split
  · cases h
  · exact Iff.rfl
structure Gh where
  w0:World
  M:Nat→Prop
  F:Nat→Prop
  mu:Nat→Option MV
structure ad (G:Gh) (pend:Nat→Option (List AV)) (E:Env) (S:St) (w:World):Prop where
  hp:E.h=w.heap
  os:w.os=G.w0.os
  tape:w.tape=G.w0.tape
  output:w.output=G.w0.output
  size:G.w0.heap.size≤w.heap.size
  keep:∀ b,b<G.w0.heap.size→¬ G.M b→w.heap[b]?=G.w0.heap[b]?
  F0:∀ b,G.F b→E.F b
  Flt:∀ b,E.F b→b<w.heap.size
  Fnew:∀ b,E.F b→b<G.w0.heap.size→G.F b∨G.M b
  own:∀ k b o s n,E.mu k=some (.blk b o s n)→¬ E.F b∧b<w.heap.size∧(G.M b∨G.w0.heap.size≤b)
  inj:∀ k k' b o s n o' s' n',E.mu k=some (.blk b o s n)→E.mu k'=some (.blk b o' s' n')→k=k'
  loc:∀ d,c_ pend E (ap S.l d) d
  obj:∀ id,b9 E S.o[id]? (E.mu (.O id))
  old:∀ id,id<S.b→S.o[id]?=some .dead∨E.mu (.O id)=G.mu id
  bl:S.b≤S.o.length
  szs:∀ b,b<G.w0.heap.size→au w.heap b=au G.w0.heap b
  pk:∀ d row,pend d=some row→E.mu (.L d)=none∧ap S.l d=some row
  ow:∀ id,bi E id S.o[id]?
def qh (E:Env):Prop:=∀ g row,xX g=some row→VR E.fz (.fptr row 0) (.pointer (some ⟨g,0,none⟩))∧bq E.h g row.length=none
theorem qi {E E':Env} {row:List AV} {g:Nat} (h:VR E (.fptr row 0) (.pointer (some ⟨g,0,none⟩))∧bq E.h g row.length=none) (hl:LE E E'):VR E' (.fptr row 0) (.pointer (some ⟨g,0,none⟩))∧bq E'.h g row.length=none:=by
  refine ⟨h.1.mono hl,?_⟩
  obtain ⟨h1,h2⟩:=h
  cases h1 with
  | fptr j us _ _ hF _=>exact (f_ (hl.hF _ hF) _).trans h2
theorem qh.mono {E E':Env} (h:qh E) (hl:LE E E'):qh E':=fun g row e=>qi (h g row e) hl.fz
theorem qh.up {E:Env} (h:qh E) {F':Nat→Prop} {mu':Key→Option MV} {h':Array Obj} (hF:∀ b,E.F b→F' b) (hh:E.h=h'):qh ⟨F',mu',h'⟩:=fun g row e=>qi (E:=E.fz) (E':=⟨F',fun _=>none,h'⟩) (h g row e) ⟨hF,fun _ _ _ hx=>(by cases hx),fun _ _=>(by rw [← hh]; rfl),fun _ _ _ _ _ _ hx=>(by cases hx)⟩
def o9 (B:Nat):Deferred:={ target:=.collected B,args:=#[] }
structure TR (G:Gh) (E:Env) (t:List AV) (a:Act):Prop where
  len:t.length=a.tmps.size
  val:∀ (n:Nat) (c:AV) (u:Value),t[n]?=some c→a.tmps[n]?=some u→VR E c u
  df:∃ Bs:List Nat,a.defers=Bs.map o9∧Bs.Nodup∧∀ B∈Bs,G.w0.heap.size≤B∧E.F B∧E.h[B]?=some (.deferred (some []))
  gt:qh E
theorem vS {G:Gh} {E E':Env} {ds:List Deferred} (hF:∀ b,E.F b→E'.F b) (hh:∀ b,E.F b→E'.h[b]?=E.h[b]?) (h:∃ Bs:List Nat,ds=Bs.map o9∧Bs.Nodup∧∀ B∈Bs,G.w0.heap.size≤B∧E.F B∧E.h[B]?=some (.deferred (some []))):∃ Bs:List Nat,ds=Bs.map o9∧Bs.Nodup∧∀ B∈Bs,G.w0.heap.size≤B∧E'.F B∧E'.h[B]?=some (.deferred (some [])):=by
  obtain ⟨Bs,h1,h2,h3⟩:=h
  exact ⟨Bs,h1,h2,fun B hB=>⟨(h3 B hB).1,hF B (h3 B hB).2.1,(hh B (h3 B hB).2.1).trans (h3 B hB).2.2⟩⟩
theorem TR.mono {G:Gh} {E E':Env} {t:List AV} {a:Act} (h:TR G E t a) (hl:LE E E'):TR G E' t a:=⟨h.len,fun n c u h1 h2=>(h.val n c u h1 h2).mono hl,vS hl.F hl.hF h.df,h.gt.mono hl⟩
theorem ab {b:Bool} {X:Prop} (h:aB b X):b=true∧X:=by
  cases b with
  | true=>exact ⟨rfl,h⟩
  | false=>exact False.elim h
theorem af {b:Bool} {X:Prop} (hb:b=true) (h:X):aB b X:=by subst hb; exact h
theorem ga {b:Bool} {X Y:Prop} (h:q9 b X Y):(b=true∧X)∨(b=false∧Y):=by
  cases b with
  | true=>exact .inl ⟨rfl,h⟩
  | false=>exact .inr ⟨rfl,h⟩
theorem sX {b:Bool} {X Y:Prop} (hX:b=true→X) (hY:b=false→Y):q9 b X Y:=by
  cases b with
  | true=>exact hX rfl
  | false=>exact hY rfl
theorem aQ {a:AV} {k:AV→Prop}:dX a k↔k a:=by cases a <;> exact Iff.rfl
theorem bM:∀ {xs:List AV} {k:List AV→Prop},dI xs k↔k xs
  | [],_=>Iff.rfl
  | _::xs,_=>bM (xs:=xs)
theorem ch:∀ {xs:List AV} {k:List AV→Prop},jT xs k↔k xs
  | [],_=>Iff.rfl
  | x::xs,k=>by
    show dX x _↔_
    rw [aQ]
    exact ch (xs:=xs)
theorem ak:∀ {xs:List Ob} {k:List Ob→Prop},ay xs k↔k xs
  | [],_=>Iff.rfl
  | _::xs,_=>ak (xs:=xs)
theorem dN:∀ {xs:List (Nat×List AV)} {k:List (Nat×List AV)→Prop},gY xs k↔k xs
  | [],_=>Iff.rfl
  | (_,_)::xs,_=>dN (xs:=xs)
theorem ek:∀ {xs:List (List AV)} {k:List (List AV)→Prop},cv xs k↔k xs
  | [],_=>Iff.rfl
  | x::xs,k=>by
    show dI x _↔_
    rw [bM]
    exact ek (xs:=xs)
theorem aY:∀ {xs:List AV} {n:Nat} {k:AV→Prop},ji xs n k↔∃ a,xs[n]?=some a∧k a
  | [],_,_=>⟨fun h=>False.elim h,fun ⟨a,h,_⟩=>by simp at h⟩
  | x::xs,0,k=>⟨fun h=>⟨x,rfl,h⟩,fun ⟨a,h,hk⟩=>by simp at h; subst h; exact hk⟩
  | x::xs,n + 1,k=>by
    show ji xs n k↔_
    rw [aY]
    simp
theorem bV:∀ {xs:List AV} {n:Nat} {v:AV} {k:List AV→Prop},kJ xs n v k↔k (xs.set n v)
  | [],_,_,_=>Iff.rfl
  | _::xs,0,_,_=>Iff.rfl
  | x::xs,n + 1,v,k=>by
    show kJ xs n v _↔_
    rw [bV]
    rfl
def fa (S:St) (dst:Option Tmp) (a:AV):St :=
  match dst with
  | none=>S
  | some d=>{ t:=S.t.set d a,l:=S.l,o:=S.o,b:=S.b }
theorem al {dst:Option Tmp} {a:AV} {S:St} {K:St→Prop}:aA dst a S K↔K (fa S dst a):=by
  cases dst with
  | none=>exact Iff.rfl
  | some d=>exact bV
theorem kP {c:Value} {E:Env}:VR E (mw c) c:=by
  unfold mw
  split <;> first
    | exact .v _ _ rfl
    | exact .nilp _
    | exact .nilsl _
    | exact .nilmap _
    | exact .nilfn _
    | exact .bad _ _
theorem qj (E:Env) (c:Value):VR E (uF c) c:=by
  unfold uF
  split
  · rename_i cs
    refine .agg cs (by simp) (fun m x u h1 h2=>?_)
    simp only [List.getElem?_map,Array.getElem?_toList,Option.map_eq_some_iff] at h1
    obtain ⟨y,hy,rfl⟩:=h1
    rw [hy] at h2
    cases h2
    exact kP
  · exact kP
theorem bm {G:Gh} {S:St} {x:Operand} {k:AV→Prop} {E:Env} {a:Act} (h:a_ S x k) (ht:TR G E S.t a):∃ c,k c∧VR E c (a.eval x):=by
  unfold a_ at h
  split at h
  · rename_i t
    obtain ⟨c,hc,hk⟩:=aY.1 h
    have hlt:t<a.tmps.size:=by rw [← ht.len]; exact (List.getElem?_eq_some_iff.1 hc).1
    refine ⟨c,hk,ht.val t c _ hc ?_⟩
    simp [Act.eval,Array.getD,hlt]
  · rename_i c
    exact ⟨_,aQ.1 h,qj E c⟩
  · rename_i f
    exact ⟨_,h,.fn #[] #[] rfl (fun m c u hc=>by simp at hc) rfl (fun m c u hc=>by simp at hc)⟩
  · rename_i g
    split at h
    · rename_i row e
      exact ⟨_,h,(ht.gt g row e).1.of_fz⟩
    · exact False.elim h
theorem bj {G:Gh} {S:St} {E:Env} {a:Act} (ht:TR G E S.t a):∀ {xs:List Operand} {k:List AV→Prop},bC S xs k→∃ cs,k cs∧aO E cs (xs.map a.eval)
  | [],_,h=>⟨[],h,.nil _⟩
  | x::xs,k,h=>by
    obtain ⟨c,hk,hc⟩:=bm h ht
    obtain ⟨cs,hk',hcs⟩:=bj ht hk
    exact ⟨c::cs,hk',.cons hc hcs⟩
theorem TR.put {G:Gh} {E:Env} {S:St} {a:Act} (h:TR G E S.t a) {dst:Option Tmp} {c:AV} {u:Value} (hv:VR E c u):TR G E (fa S dst c).t (a.put dst u):=by
  cases dst with
  | none=>exact h
  | some d =>
    refine ⟨by simp [fa,Act.put,h.len],fun n c' u' h1 h2=>?_,h.df,h.gt⟩
    simp only [fa,Act.put,List.getElem?_set,Array.getElem?_setIfInBounds] at h1 h2
    by_cases hd:d=n
    · subst hd
      simp only [if_true] at h1 h2
      split at h1
      · rename_i hl
        rw [if_pos (by rw [← h.len]; exact hl)] at h2
        cases h1; cases h2
        exact hv
      · cases h1
    · rw [if_neg hd] at h1 h2
      exact h.val n c' u' h1 h2
theorem ci {α:Type} {P:Program}:∀ (s:Sem α) {x:α} (w:World),aP P s=some x→s.run P w=.ok x w
  | .pure a,x,w,h=>by simp only [aP,Option.some.injEq] at h; subst h; rfl
  | .program k,x,w,h=>by simp only [aP] at h; exact ci (k P) w h
  | .load _ _ _,_,_,h=>by cases h
  | .store _ _ _ _,_,_,h=>by cases h
  | .new _ _,_,_,h=>by cases h
  | .shape _ _,_,_,h=>by cases h
  | .freeze _ _ _,_,_,h=>by cases h
  | .frozen _ _,_,_,h=>by cases h
  | .getObj _ _,_,_,h=>by cases h
  | .setObj _ _ _,_,_,h=>by cases h
  | .choose _ _,_,_,h=>by cases h
  | .sys _ _,_,_,h=>by cases h
  | .mark _ _,_,_,h=>by cases h
  | .halt _,_,_,h=>by cases h
theorem sY {P:Program} {op:BinOp} {a b c:Value} (h:wS op a b=some c) (t:TypeId) (w:World) :
    (binOp op t a b).run P w=.ok c w∧plain c=true:=by
  unfold wS at h
  split at h
  · split at h <;> first
      | (split at h
         · rename_i hk
           subst hk
           simp only [Option.some.injEq] at h
           subst h
           refine ⟨?_,rfl⟩
           simp [binOp,Op.intArith,Op.intCmp,Op.intBits]
         · cases h)
      | cases h
  · split at h <;> first
      | (simp only [Option.some.injEq] at h
         subst h
         refine ⟨?_,rfl⟩
         simp [binOp,Op.stringOp])
      | cases h
  · cases h
theorem ri {P:Program} {op:BinOp} {a b:Value} {K:Value→Prop} (h:mD op a b K) (t:TypeId) (w:World) :
    ∃ c,K c∧(binOp op t a b).run P w=.ok c w∧plain c=true:=by
  unfold mD at h
  split at h <;> first
    | exact False.elim h
    | (obtain ⟨hc,hK⟩:=ab h
       refine ⟨_,hK,?_,rfl⟩
       simp only [Bool.and_eq_true,decide_eq_true_eq,Bool.not_eq_true',beq_eq_false_iff_ne,ne_eq] at hc
       first
         | (obtain ⟨rfl,hb⟩:=hc; simp [binOp,Op.intDiv,hb])
         | (have hb:¬ _<(0:Int):=Int.not_lt.2 hc
            simp [binOp,Op.shift,hb])
         | (simp only [binOp,Op.stringOp]
            rw [if_neg (by rw [show IntKind.i64.max=9223372036854775807 from rfl]; omega)]
            rfl))
theorem uL {P:Program} {op:UnOp} {x:AV} {K:AV→Prop} {E:Env} {u:Value} (h:yQ op x K) (hx:VR E x u) (w:World) :
    ∃ r z,K r∧VR E r z∧(Op.unary op u).run P w=.ok z w:=by
  unfold yQ at h
  split at h <;> first
    | exact False.elim h
    | (obtain ⟨rfl,_⟩:=hx.vI
       exact ⟨_,_,h,.v _ _ rfl,by simp [Op.unary,Op.intArith,Op.intBits]⟩)
theorem gu {E:Env}:∀ {as:List AV} {xs:List Value} {us:List Value},lX as=some xs→aO E as us→us=xs
  | [],xs,us,h,hv=>by simp only [lX,Option.some.injEq] at h; subst h; exact hv.unnil
  | a::as,xs,us,h,hv=>by
    obtain ⟨u,us',rfl,ha,hs⟩:=hv.uncons
    unfold lX at h
    split at h
    · rename_i x xs' h1 h2
      simp only [Option.some.injEq] at h
      subst h
      unfold yP at h1
      split at h1
      · simp only [Option.some.injEq] at h1
        subst h1
        rw [ha.vI.1,gu h2 hs]
      · cases h1
    · cases h
def vV:Value→Bool
  | .nilIface | .agg _=>false
  | _=>true
theorem d9 {op:BinOp} {t:TypeId} {X Y:Operand} {a b:Value} (h:vV a=true):eqGuard op t X Y a b=pure ():=by
  unfold eqGuard
  cases a <;> first | (cases op <;> rfl) | (cases h; done)
theorem kQ {P:Program} {t:TypeId} {u v:Value} {b:Bool} {w:World} (h:∀ d:Nat,(Op.equalIn (d + 1) t u v).run P w=.ok b w):(Op.equal t u v).run P w=.ok b w:=h 9999
theorem o_ {P:Program} {t:TypeId} (hu:P.underlying t=some .bool) (a b:Bool) (w:World) (d:Nat):(Op.equalIn (d + 1) t (.bool a) (.bool b)).run P w=.ok (a==b) w:=by
  unfold Op.equalIn
  rw [Sem.run_bind,run_underlying hu]
  rfl
theorem lv {P:Program} {t:TypeId} {x y:AV} {E:Env} {u v:Value} {b:Bool} (hk:kindOk P t x y=true) (h:t6 x y=some b) (hx:VR E x u) (hy:VR E y v) (w:World) :
    (Op.equal t u v).run P w=.ok b w∧vV u=true∧(binOp .eql t u v).run P w=((Op.equal t u v).run P w).andThen (fun r w=>.ok (.bool r) w)∧(binOp .neq t u v).run P w=((Op.equal t u v).run P w).andThen (fun r w=>.ok (.bool (!r)) w):=by
  have key:(∀ d:Nat,(Op.equalIn (d + 1) t u v).run P w=.ok b w)→vV u=true∧binOp .eql t u v=(do pure (.bool (← Op.equal t u v)))∧binOp .neq t u v=(do pure (.bool (!(← Op.equal t u v)))) →
      (Op.equal t u v).run P w=.ok b w∧vV u=true∧(binOp .eql t u v).run P w=((Op.equal t u v).run P w).andThen (fun r w=>.ok (.bool r) w)∧(binOp .neq t u v).run P w=((Op.equal t u v).run P w).andThen (fun r w=>.ok (.bool (!r)) w) :=
    fun h1 h2=>⟨kQ h1,h2.1,by rw [h2.2.1,Sem.run_bind]; rfl,by rw [h2.2.2,Sem.run_bind]; rfl⟩
  unfold t6 at h
  split at h
  all_goals first
    | (cases h; done)
    | (simp only [Option.some.injEq] at h
       subst h
       unfold kindOk at hk
       split at hk
       all_goals first
         | (cases hk; done)
         | (cases hx <;> cases hy <;> have hu:=‹P.underlying t=some _› <;> first
              | (refine key (fun d=>?_) ⟨rfl,rfl,rfl⟩; unfold Op.equalIn; rw [Sem.run_bind,run_underlying hu]; rfl)
              | (exfalso; simp_all; done)))
theorem sZ {P:Program} {op:BinOp} {t:TypeId} {x y:AV} {K:AV→Prop} {E:Env} {u v:Value} (hk:kindOk P t x y=true) (h:vG op x y K) (hx:VR E x u) (hy:VR E y v) (w:World) (X Y:Operand) :
    ∃ r z,K r∧VR E r z∧(do eqGuard op t X Y u v; binOp op t u v:Sem Value).run P w=.ok z w:=by
  unfold vG at h
  split at h
  · split at h
    · rename_i b hb
      obtain ⟨h1,h2,h3⟩:=lv hk hb hx hy w
      exact ⟨_,_,h,.v _ _ rfl,by rw [d9 h2]; simp [h3.1,h1]⟩
    · exact False.elim h
  · split at h
    · rename_i b hb
      obtain ⟨h1,h2,h3⟩:=lv hk hb hx hy w
      exact ⟨_,_,h,.v _ _ rfl,by rw [d9 h2]; simp [h3.2,h1]⟩
    · exact False.elim h
  · exact False.elim h
theorem mN {P:Program} {op:BinOp} {t:TypeId} {x y:AV} {K:AV→Prop} {E:Env} {u v:Value} (h:sM P op t x y K) (hx:VR E x u) (hy:VR E y v) (w:World) (X Y:Operand) :
    ∃ r z,K r∧VR E r z∧(do eqGuard op t X Y u v; binOp op t u v:Sem Value).run P w=.ok z w:=by
  unfold sM at h
  split at h
  · rename_i a b
    obtain ⟨rfl,pa⟩:=hx.vI
    obtain ⟨rfl,pb⟩:=hy.vI
    have hg:(eqGuard op t X Y u v).run P w=.ok () w:=by
      rw [d9 (by cases u <;> first | rfl | (cases pa; done))]
      rfl
    unfold oV at h
    split at h
    · rename_i c hc
      obtain ⟨h1,h2⟩:=sY (P:=P) hc t w
      exact ⟨_,_,h,.v _ _ h2,by simp [hg,h1]⟩
    · split at h
      · unfold ra at h
        split at h
        · rename_i hu
          split at h <;> first
            | exact False.elim h
            | (refine ⟨_,_,h,.v _ _ rfl,?_⟩
               rw [Sem.run_bind,hg,Result.andThen_ok]
               first
                 | (show (Op.equal t (.bool _) (.bool _) >>= fun r=>(pure (Value.bool r):Sem Value)).run P w=_
                    rw [Sem.run_bind,kQ (o_ hu _ _ w)]
                    rfl)
                 | (show (Op.equal t (.bool _) (.bool _) >>= fun r=>(pure (Value.bool (!r)):Sem Value)).run P w=_
                    rw [Sem.run_bind,kQ (o_ hu _ _ w)]
                    rfl))
        · exact False.elim h
      · obtain ⟨c,hK,h1,h2⟩:=ri (P:=P) h t w
        exact ⟨_,_,hK,.v _ _ h2,by simp [hg,h1]⟩
  · rename_i as bs
    obtain ⟨us,rfl,hus⟩:=hx.aggI
    obtain ⟨ws,rfl,hws⟩:=hy.aggI
    split at h
    · rename_i xs ys h1 h2
      have e1:=gu h1 hus
      have e2:=gu h2 hws
      split at h
      · rename_i b hb
        have hr:=ci _ w hb
        refine ⟨_,_,h,.v _ _ rfl,?_⟩
        have e3:us=xs.toArray:=by rw [← e1]
        have e4:ws=ys.toArray:=by rw [← e2]
        subst e3 e4
        rw [← hr]
        rfl
      · exact False.elim h
    · exact False.elim h
  · obtain ⟨hk,h⟩:=ab h
    exact sZ hk h hx hy w X Y
theorem run_sizeOf {P:Program} {t:TypeId} {i:TypeInfo} (h:P.info? t=some i) (w:World):(sizeOf t).run P w=.ok i.size w:=by
  unfold sizeOf
  rw [Sem.run_bind,run_typeInfo w h]
  rfl
theorem eO {P:Program} {t:TypeId} {d:TypeDesc} (h:P.underlying t=some d) (w:World):(isAgg t).run P w=.ok (match d with | .struct _ | .array _ _=>true | _=>false) w:=by
  unfold isAgg
  rw [Sem.run_bind,run_underlying h,Result.andThen_ok]
  cases d <;> rfl
theorem mO {P:Program} {t:TypeId} {row:List AV} {j:Nat} {k:AV→Prop} {E:Env} {us:Array Value} (h:dJ P t row j k) (hr:aO E row us.toList) (w:World) :
    ∃ r u,k r∧VR E r u∧(part t us j).run P w=.ok u w:=by
  have agg:∀ i,P.info? t=some i→aB (Nat.ble (j + i.size) row.length) (dI ((row.drop j).take i.size) fun cs=>k (.agg cs))→(isAgg t).run P w=.ok true w →
      ∃ r u,k r∧VR E r u∧(part t us j).run P w=.ok u w:=by
    intro i hi h ha
    obtain ⟨hl,hk⟩:=ab h
    rw [bM] at hk
    refine ⟨_,.agg (us.extract j (j + i.size)),hk,aO.aggV ?_,?_⟩
    · have:=(hr.drop j).take i.size
      rw [Array.toList_extract]
      simpa [List.extract] using this
    · unfold part
      rw [Sem.run_bind,ha,Result.andThen_ok,if_pos rfl,Sem.run_bind,run_sizeOf hi]
      rfl
  unfold dJ at h
  split at h
  · rename_i hu
    split at h
    · rename_i i hi
      exact agg i hi h (by rw [eO hu])
    · exact False.elim h
  · rename_i hu
    split at h
    · rename_i i hi
      exact agg i hi h (by rw [eO hu])
    · exact False.elim h
  · rename_i d h1 h2 hu
    split at h
    · rename_i c hc
      obtain ⟨u,hu',hv⟩:=hr.get hc
      refine ⟨_,_,h,hv,?_⟩
      unfold part
      have ha:(isAgg t).run P w=.ok false w:=by
        rw [eO hu]
        cases d <;> first | rfl | (exact absurd rfl (h1 _)) | (exact absurd rfl (h2 _ _))
      rw [Sem.run_bind,ha,Result.andThen_ok,if_neg (by simp)]
      rw [Array.getElem?_toList] at hu'
      rw [hu']
      rfl
    · exact False.elim h
  · exact False.elim h
theorem ct (b o m:Nat):(⟨b,o,none⟩:Addr).add m=⟨b,o + m,none⟩:=by
  unfold Addr.add
  split
  · rename_i h; subst h; rfl
  · rfl
theorem eP (w:World) (b i:Nat):w.cell? ⟨b,i,none⟩=bq w.heap b i:=by
  unfold World.cell? bq
  split <;> simp_all
theorem jn {P:Program} {t:TypeId} {row:List AV} {j:Nat} {k:AV→Prop} {E:Env} {us:List Value} {b o:Nat} (h:dJ P t row j k) (hr:aO E row us) (w:World)
    (hc:∀ (m:Nat) (u:Value),us[m]?=some u→bq w.heap b (o + m)=some u) :
    ∃ r u,k r∧VR E r u∧(Instr.loadAt t (.pointer (some ⟨b,o + j,none⟩))).run P w=.ok u w:=by
  have agg:∀ i,P.info? t=some i→aB (Nat.ble (j + i.size) row.length) (dI ((row.drop j).take i.size) fun cs=>k (.agg cs))→(isAgg t).run P w=.ok true w →
      ∃ r u,k r∧VR E r u∧(Instr.loadAt t (.pointer (some ⟨b,o + j,none⟩))).run P w=.ok u w:=by
    intro i hi h ha
    obtain ⟨hl,hk⟩:=ab h
    rw [bM] at hk
    have hle:j + i.size≤us.length:=by rw [← hr.1]; exact Nat.le_of_ble_eq_true hl
    have hlen:((us.drop j).take i.size).length=i.size:=by simp; omega
    refine ⟨_,.agg ((us.drop j).take i.size).toArray,hk,aO.aggV (by simpa using (hr.drop j).take i.size),?_⟩
    have hrun:=run_loadCells_list (P:=P) (w:=w) ⟨b,o + j,none⟩ ((us.drop j).take i.size) (fun m v hv=>by
      rw [ct,eP,Nat.add_assoc]
      refine hc _ _ ?_
      rw [List.getElem?_take] at hv
      split at hv
      · rw [List.getElem?_drop] at hv
        exact hv
      · cases hv)
    rw [hlen] at hrun
    unfold Instr.loadAt Instr.sureAddr loadVar
    simp only [Sem.run_bind,Sem.run_pure,Result.andThen_ok,ha,if_true,run_sizeOf hi,hrun]
  unfold dJ at h
  split at h
  · rename_i hu
    split at h
    · rename_i i hi
      exact agg i hi h (by rw [eO hu])
    · exact False.elim h
  · rename_i hu
    split at h
    · rename_i i hi
      exact agg i hi h (by rw [eO hu])
    · exact False.elim h
  · rename_i d h1 h2 hu
    split at h
    · rename_i c hcc
      obtain ⟨u,hu',hv⟩:=hr.get hcc
      refine ⟨_,_,h,hv,?_⟩
      have ha:(isAgg t).run P w=.ok false w:=by
        rw [eO hu]
        cases d <;> first | rfl | (exact absurd rfl (h1 _)) | (exact absurd rfl (h2 _ _))
      unfold Instr.loadAt Instr.sureAddr loadVar
      have hcell:w.cell? ⟨b,o + j,none⟩=some u:=by rw [eP]; exact hc _ _ hu'
      simp [ha,hcell]
    · exact False.elim h
  · exact False.elim h
theorem rj:∀ (xs cs:List AV) (m:Nat),(over xs cs)[m]?=if m<cs.length∧m<xs.length then cs[m]? else xs[m]?
  | xs,[],m=>by simp [over]
  | [],c::cs,m=>by simp [over]
  | x::xs,c::cs,0=>by simp [over]
  | x::xs,c::cs,m + 1=>by
    have:=rj xs cs m
    simp only [over,List.getElem?_cons_succ,List.length_cons,this]
    by_cases h:m<cs.length∧m<xs.length
    · rw [if_pos h,if_pos (by omega)]
    · rw [if_neg h,if_neg (by omega)]
theorem lw:∀ (xs cs:List AV),(over xs cs).length=xs.length
  | xs,[]=>by simp [over]
  | [],c::cs=>by simp [over]
  | x::xs,c::cs=>by simp [over,lw xs cs]
theorem jo:∀ (row:List AV) (n:Nat) (cs:List AV) (m:Nat),(splice row n cs)[m]?=if n≤m∧m<n + cs.length∧m<row.length then cs[m - n]? else row[m]?
  | row,0,cs,m=>by
    have:=rj row cs m
    have e:splice row 0 cs=over row cs:=by cases row <;> rfl
    rw [e,this]
    simp
  | [],n + 1,cs,m=>by simp [splice]
  | x::xs,n + 1,cs,0=>by simp [splice]
  | x::xs,n + 1,cs,m + 1=>by
    have:=jo xs n cs m
    simp only [splice,List.getElem?_cons_succ,List.length_cons,this,Nat.add_sub_add_right]
    by_cases h:n≤m∧m<n + cs.length∧m<xs.length
    · rw [if_pos h,if_pos (by omega)]
    · rw [if_neg h,if_neg (by omega)]
theorem di:∀ (row:List AV) (n:Nat) (cs:List AV),(splice row n cs).length=row.length
  | row,0,cs=>by
    have e:splice row 0 cs=over row cs:=by cases row <;> rfl
    rw [e,lw]
  | [],n + 1,cs=>rfl
  | x::xs,n + 1,cs=>by simp [splice,di xs n cs]
def aZ (us:Array Value) (off:Nat):List Value→Nat→Array Value
  | [],_=>us
  | v::vs,i=>aZ (us.setIfInBounds (off + i) v) off vs (i + 1)
theorem ba:∀ (vs:List Value) (us:Array Value) (off i:Nat),(aZ us off vs i).size=us.size
  | [],_,_,_=>rfl
  | v::vs,us,off,i=>by rw [aZ,ba vs]; simp
theorem d_:∀ (vs:List Value) (us:Array Value) (off i m:Nat),(aZ us off vs i)[m]?=if off + i≤m∧m<off + i + vs.length∧m<us.size then vs[m - (off + i)]? else us[m]?
  | [],us,off,i,m=>by
    rw [if_neg (by simp; omega)]
    rfl
  | v::vs,us,off,i,m=>by
    rw [aZ,d_ vs]
    simp only [Array.size_setIfInBounds,List.length_cons,Array.getElem?_setIfInBounds]
    by_cases h1:off + (i + 1)≤m∧m<off + (i + 1) + vs.length∧m<us.size
    · rw [if_pos h1,if_pos (by omega),show m - (off + i)=(m - (off + (i + 1))) + 1 by omega]
      rfl
    · rw [if_neg h1]
      by_cases h2:off + i=m
      · subst h2
        rw [if_pos rfl]
        by_cases h3:off + i<us.size
        · rw [if_pos h3,if_pos (by omega)]; simp
        · rw [if_neg h3,if_neg (by omega)]
          simp [Array.getElem?_eq_none (Nat.le_of_not_lt h3)]
      · rw [if_neg h2,if_neg (by omega)]
theorem jZ:∀ (vs:List Value) (us:Array Value) (off i:Nat),(vs.zipIdx i).foldl (fun cs (x:Value×Nat)=>cs.setIfInBounds (off + x.2) x.1) us=aZ us off vs i
  | [],_,_,_=>rfl
  | v::vs,us,off,i=>by
    rw [List.zipIdx_cons,List.foldl_cons,jZ vs]
    rfl
theorem aO.splice {E:Env} {row cs:List AV} {us:Array Value} {vs:List Value} (h:aO E row us.toList) (k:aO E cs vs) (n:Nat):aO E (splice row n cs) (aZ us n vs 0).toList:=by
  have hl:row.length=us.size:=by simpa using h.1
  refine ⟨by have:=ba vs us n 0; simp [di,this,hl],fun m c u h1 h2=>?_⟩
  rw [jo] at h1
  rw [Array.getElem?_toList,d_] at h2
  simp only [Nat.add_zero] at h2
  by_cases hc:n≤m∧m<n + cs.length∧m<row.length
  · rw [if_pos hc] at h1
    rw [if_pos (by rw [← k.1,← hl]; exact hc)] at h2
    exact k.2 _ c u h1 h2
  · rw [if_neg hc] at h1
    rw [if_neg (by rw [← k.1,← hl]; exact hc)] at h2
    exact h.2 m c u h1 (by rw [Array.getElem?_toList]; exact h2)
def hU:Value→Bool
  | .agg _ | .tuple _=>false
  | _=>true
theorem jp {E:Env} {c:AV} {u:Value} (h:gl c=true) (hv:VR E c u):hU u=true:=by
  cases hv <;> first | rfl | (cases h; done) | (rename_i hp; revert hp; cases u <;> intro hp <;> first | rfl | (cases hp; done))
theorem qk {u:Value} (h:hU u=true):u.cells=#[u]:=by
  cases u <;> first | rfl | (cases h; done)
theorem gw {E:Env} {a:AV} {u:Value} {k:List AV→Prop} (h:gm a k) (hv:VR E a u):∃ cs,k cs∧aO E cs u.cells.toList∧∀ c∈cs,gl c=true:=by
  unfold gm at h
  split at h
  · obtain ⟨us,rfl,hs⟩:=hv.aggI
    obtain ⟨h1,h2⟩:=ab h
    exact ⟨_,h2,hs,fun c hc=>List.all_eq_true.1 h1 c hc⟩
  · exact False.elim h
  · exact False.elim h
  · rename_i h1 h2 h3
    have ho:gl a=true:=by
      cases a <;> first | rfl | (exact (h1 _ rfl).elim) | (exact (h2 rfl).elim) | (exact (h3 _ rfl).elim)
    refine ⟨_,h,?_,fun c hc=>by simp at hc; subst hc; exact ho⟩
    rw [qk (jp ho hv)]
    exact .cons hv (.nil E)
theorem bf {P:Program} {e:TypeId} {k:List AV→Prop} (h:a9 P e k):∃ i z cs,P.info? e=some i∧i.zero=some z∧z.cells.size=i.size∧k cs∧∀ E,aO E cs z.cells.toList:=by
  unfold a9 at h
  split at h
  · rename_i i hi
    split at h
    · rename_i z hz
      obtain ⟨h1,h2⟩:=ab h
      rw [ch] at h2
      refine ⟨i,z,_,hi,hz,by simpa using h1,h2,fun E=>⟨by simp,fun m c u h3 h4=>?_⟩⟩
      rw [List.getElem?_map,Option.map_eq_some_iff] at h3
      obtain ⟨y,hy,rfl⟩:=h3
      rw [hy] at h4
      cases h4
      exact kP
    · exact False.elim h
  · exact False.elim h
def zp (E:Env) (ps:List (Nat×AV)) (qs:List (Nat×Value)):Prop :=
  ps.map (·.1)=qs.map (·.1)∧aO E (ps.map (·.2)) (qs.map (·.2))
theorem fb {E:Env} {place:Nat→Option (Nat×Nat)} {k:List AV→Prop}:∀ {ps:List (Nat×AV)} {qs:List (Nat×Value)} {cells:List AV} {us:Array Value},zp E ps qs→aO E cells us.toList →
    gP place cells ps k→∃ cs us',k cs∧aO E cs us'.toList∧us'.size=us.size∧Instr.fill place us qs=some us'
  | [],qs,cells,us,hp,hc,h=>by
    have:qs=[]:=by have:=hp.1; simpa using this.symm
    subst this
    exact ⟨_,us,bM.1 h,hc,rfl,rfl⟩
  | (i,x)::ps,qs,cells,us,hp,hc,h=>by
    cases qs with
    | nil=>have:=hp.1; simp at this
    | cons q qs =>
      obtain ⟨i',v⟩:=q
      have h1:=hp.1
      simp only [List.map_cons,List.cons.injEq] at h1
      obtain ⟨rfl,h1⟩:=h1
      have h2:=hp.2
      simp only [List.map_cons] at h2
      obtain ⟨u,us',e,hx,hs⟩:=h2.uncons
      simp only [List.cons.injEq] at e
      obtain ⟨rfl,rfl⟩:=e
      unfold gP at h
      split at h
      · rename_i off size hpl
        obtain ⟨cs,h,hcs,_⟩:=gw h hx
        obtain ⟨hb,h⟩:=ab h
        simp only [Bool.and_eq_true] at hb
        have e1:cs.length=size:=Nat.eq_of_beq_eq_true hb.1
        have e2:off + cs.length≤cells.length:=Nat.le_of_ble_eq_true hb.2
        have e3:cs.length=v.cells.size:=by simpa using hcs.1
        have e4:cells.length=us.size:=by simpa using hc.1
        have hc':=hc.splice hcs off
        obtain ⟨cs',us',hk,hv,hsz,hf⟩:=fb (ps:=ps) (qs:=qs) ⟨h1,hs⟩ hc' h
        refine ⟨cs',us',hk,hv,by rw [hsz,ba],?_⟩
        unfold Instr.fill
        rw [hpl]
        simp only
        rw [if_neg (by simp; omega)]
        have:=jZ v.cells.toList us off 0
        rw [← hf]
        congr 1
        rw [← this,← Array.foldl_toList,Array.toList_zipIdx]
      · exact False.elim h
end A
end Go.Proofs.Ytaekcekecdocnaa
