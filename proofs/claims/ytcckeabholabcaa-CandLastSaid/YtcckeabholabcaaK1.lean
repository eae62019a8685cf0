/- The evaluator and what its values stand for. Nothing is claimed here of the program. -/
import Derived.Calls
import Derived.Still
import Derived.Below
import Derived.Laws.Cells
import Derived.Laws.Entries
import Derived.ChangeKeysEq
namespace Go.Proofs.Ytcckeabholabcaa
namespace A
open Go
inductive Key where
  | L (d:Nat)
  | O (i:Nat)
  | S (id i:Nat)
  deriving DecidableEq
def Key.isS:Key→Bool
  | .S _ _=>true
  | _=>false
inductive AV where
  | bad
  | v (x:Value)
  | nilp
  | ptr (k:Key) (i j:Nat)
  | fptr (row:List AV) (j:Nat)
  | nilsl
  | esl
  | sl (rows:List (List AV))
  | mf (id:Nat)
  | msl (id off len ext:Nat)
  | bsl (k:Key) (off len:Nat)
  | nilmap
  | mp (id:Nat)
  | nilfn
  | fn (f:Nat) (first cap:List AV)
  | agg (cs:List AV)
  | tup (vs:List AV)
inductive Ob where
  | arr (fl:Bool) (sz:Nat) (rows:List (List AV))
  | mapo (fl:Bool) (es:List (AV×AV))
  | own (ks:Option (List AV)) (sz:Nat) (cells:List (Option (List (List AV)))) (hole:Option (Nat×AV))
  | dead
structure St where
  t:List AV
  l:List (Nat×List AV)
  o:List Ob
  b:Nat
inductive Ex where
  | nrm
  | ex (id:Nat)
  | ret
structure bV where
  esc:List Nat
  ms:List Nat
  bx:List Nat
  st:List Nat
  fz:List Nat:=[]
  dc:List Nat:=[]
  ow:List Nat:=[]
  oh:List Nat:=[]
  cl:List Nat:=[]
  fr:List Nat:=[]
  ix:List (Nat×Nat):=[]
structure Ctx where
  P:Program
  pure:Nat→Bool
  pol:Nat→bV
  pcall:Nat→List AV→(AV→Prop)→Prop
  scall:Nat→List AV→List Ob→(AV→List Ob→Prop)→Prop
  loop:bV→Code→St→(Ex→St→Prop)→Prop
def ad (_n:Nat):Prop:=False
def ye (b:Bool) (X Y:Prop):Prop:=match b with | true=>X | false=>Y
def bO (b:Bool) (X:Prop):Prop:=match b with | true=>X | false=>ad 1
def jO (a:AV) (k:AV→Prop):Prop :=
  match a with
  | .bad=>k .bad
  | .v x=>k (.v x)
  | .nilp=>k .nilp
  | .ptr x i j=>k (.ptr x i j)
  | .fptr r j=>k (.fptr r j)
  | .nilsl=>k .nilsl
  | .esl=>k .esl
  | .sl r=>k (.sl r)
  | .mf i=>k (.mf i)
  | .msl i a b c=>k (.msl i a b c)
  | .bsl x a b=>k (.bsl x a b)
  | .nilmap=>k .nilmap
  | .mp i=>k (.mp i)
  | .nilfn=>k .nilfn
  | .fn f a b=>k (.fn f a b)
  | .agg c=>k (.agg c)
  | .tup c=>k (.tup c)
def hG:List AV→(List AV→Prop)→Prop
  | [],k=>k []
  | x::xs,k=>hG xs fun ys=>k (x::ys)
def rJ:List AV→(List AV→Prop)→Prop
  | [],k=>k []
  | x::xs,k=>jO x fun y=>rJ xs fun ys=>k (y::ys)
def nS:List AV→Nat→(AV→Prop)→Prop
  | [],_,_=>ad 2
  | x::_,0,k=>k x
  | _::xs,n + 1,k=>nS xs n k
def p5:List AV→Nat→AV→(List AV→Prop)→Prop
  | [],_,_,k=>k []
  | _::xs,0,v,k=>k (v::xs)
  | x::xs,n + 1,v,k=>p5 xs n v fun ys=>k (x::ys)
def r7:Value→AV
  | .bool b=>.v (.bool b)
  | .int k n=>.v (.int k n)
  | .float k n=>.v (.float k n)
  | .string s=>.v (.string s)
  | .pointer none=>.nilp
  | .slice none 0 0=>.nilsl
  | .map none=>.nilmap
  | .nilFunc=>.nilfn
  | _=>.bad
def BU:Value→AV
  | .agg cs=>.agg (cs.toList.map r7)
  | x=>r7 x
def F_ (_:Nat):Option (List AV):=none
def cY (S:St) (x:Operand) (k:AV→Prop):Prop :=
  match x with
  | .tmp t=>nS S.t t k
  | .const c=>jO (BU c) k
  | .func f=>k (.fn f [] [])
  | .global g=>match F_ g with | some row=>k (.fptr row 0) | none=>ad 3
def dK (S:St):List Operand→(List AV→Prop)→Prop
  | [],k=>k []
  | x::xs,k=>cY S x fun a=>dK S xs fun as=>k (a::as)
def bN (dst:Option Tmp) (a:AV) (S:St) (K:St→Prop):Prop :=
  match dst with
  | none=>K S
  | some d=>p5 S.t d a fun t=>K { t:=t,l:=S.l,o:=S.o,b:=S.b }
def r8 (d:Nat) (S:St) (k:Bool→St→Prop):Prop :=
  nS S.t d fun a =>
    match a with
    | .v (.bool b)=>ye b (p5 S.t d (.v (.bool true)) fun t=>k true { t:=t,l:=S.l,o:=S.o,b:=S.b }) (p5 S.t d (.v (.bool false)) fun t=>k false { t:=t,l:=S.l,o:=S.o,b:=S.b })
    | _=>ad 4
def mh (c:Operand) (S:St) (k:Bool→St→Prop):Prop :=
  match c with
  | .tmp d=>r8 d S k
  | .const (.bool b)=>ye b (k true S) (k false S)
  | _=>ad 5
def c_:Nat→Key→AV→AV
  | 0,_,_=>.bad
  | n + 1,k,a =>
    match a with
    | .ptr k' i j=>if k'=k then .bad else .ptr k' i j
    | .mf id=>if Key.O id=k then .bad else .mf id
    | .msl id a b c=>if Key.O id=k then .bad else .msl id a b c
    | .bsl k' a b=>if k'=k then .bad else .bsl k' a b
    | .mp id=>if Key.O id=k then .bad else .mp id
    | .fn f x y=>.fn f (x.map (c_ n k)) (y.map (c_ n k))
    | .agg cs=>.agg (cs.map (c_ n k))
    | .tup cs=>.tup (cs.map (c_ n k))
    | a=>a
def kU (k:Key):List AV→(List AV→Prop)→Prop
  | [],K=>K []
  | x::xs,K=>jO (c_ 4 k x) fun y=>kU k xs fun ys=>K (y::ys)
def ll (k:Key):List (Nat×List AV)→(List (Nat×List AV)→Prop)→Prop
  | [],K=>K []
  | (d,c)::xs,K=>kU k c fun c'=>ll k xs fun ys=>K ((d,c')::ys)
def dX (k:Key):Ob→Ob
  | .arr false sz rows=>.arr false sz (rows.map (List.map (c_ 4 k)))
  | .mapo false es=>.mapo false (es.map fun e=>(e.1,c_ 4 k e.2))
  | .own ks sz cells (some h)=>.own ks sz cells (some (h.1,c_ 4 k h.2))
  | o=>o
def hH (k:Key):List Ob→(List Ob→Prop)→Prop
  | [],K=>K []
  | .arr true sz rows::xs,K=>hH k xs fun ys=>K (.arr true sz rows::ys)
  | .dead::xs,K=>hH k xs fun ys=>K (.dead::ys)
  | .mapo true es::xs,K=>hH k xs fun ys=>K (.mapo true es::ys)
  | .arr false sz rows::xs,K=>hH k xs fun ys=>K (.arr false sz (rows.map (List.map (c_ 4 k)))::ys)
  | .mapo false es::xs,K=>hH k xs fun ys=>K (.mapo false (es.map fun e=>(e.1,c_ 4 k e.2))::ys)
  | .own ks sz cells none::xs,K=>hH k xs fun ys=>K (.own ks sz cells none::ys)
  | .own ks sz cells (some h)::xs,K=>hH k xs fun ys=>K (.own ks sz cells (some (h.1,c_ 4 k h.2))::ys)
def dA:Nat→AV→Bool
  | 0,_=>false
  | n + 1,a =>
    match a with
    | .v _ | .nilp | .fptr .. | .nilsl | .esl | .sl _ | .nilmap | .nilfn=>true
    | .fn _ x y=>x.all (dA n)&&y.all (dA n)
    | .agg cs | .tup cs=>cs.all (dA n)
    | _=>false
def rK:Nat→AV→Bool
  | 0,_=>false
  | n + 1,a =>
    match a with
    | .ptr (.L _) _ _ | .bsl (.L _) _ _ | .bad=>false
    | .fn _ x y=>x.all (rK n)&&y.all (rK n)
    | .agg cs | .tup cs=>cs.all (rK n)
    | _=>true
def kF:AV→Bool
  | .bad | .agg _ | .tup _=>false
  | _=>true
def r9:Nat→AV→Bool
  | 0,_=>false
  | n + 1,a =>
    match a with
    | .v _ | .nilp | .nilsl | .esl | .nilmap | .nilfn=>true
    | .agg cs | .tup cs=>cs.all (r9 n)
    | _=>false
def oY (size:Nat):List (List AV)→Bool
  | []=>true
  | r::_=>Nat.beq r.length size
def lm (a:AV) (k:List AV→Prop):Prop :=
  match a with
  | .agg cs=>bO (cs.all kF) (k cs)
  | .bad | .tup _=>ad 6
  | a=>k [a]
def over:List AV→List AV→List AV
  | xs,[]=>xs
  | [],_=>[]
  | _::xs,c::cs=>c::over xs cs
def splice:List AV→Nat→List AV→List AV
  | row,0,cs=>over row cs
  | [],_ + 1,_=>[]
  | x::xs,n + 1,cs=>x::splice xs n cs
def aG:List (Nat×List AV)→Nat→Option (List AV)
  | [],_=>none
  | (d,c)::xs,e=>if d=e then some c else aG xs e
def nx:List (Nat×List AV)→Nat→List (Nat×List AV)
  | [],_=>[]
  | (d,c)::xs,e=>if d=e then nx xs e else (d,c)::nx xs e
def oZ:List (Nat×List AV)→Nat→List AV→List (Nat×List AV)
  | [],_,_=>[]
  | (d,c)::xs,e,c'=>if d=e then (d,c')::xs else (d,c)::oZ xs e c'
def mi:List (Nat×List AV)→(List (Nat×List AV)→Prop)→Prop
  | [],k=>k []
  | (d,c)::xs,k=>mi xs fun ys=>k ((d,c)::ys)
def bk:List Ob→(List Ob→Prop)→Prop
  | [],k=>k []
  | x::xs,k=>bk xs fun ys=>k (x::ys)
def uT (S:St) (key:Key) (i:Nat) (k:List AV→Prop):Prop :=
  match key with
  | .L d =>
    match aG S.l d with
    | some row=>match i with | 0=>k row | _ + 1=>ad 7
    | none=>ad 8
  | .O id =>
    match S.o[id]? with
    | some (.arr _ _ rows)=>match rows[i]? with | some row=>k row | none=>ad 9
    | _=>ad 10
  | .S _ _=>ad 11
def CZ (S:St) (a:AV) (k:List AV→Nat→Prop):Prop :=
  match a with
  | .ptr key i j=>uT S key i fun row=>k row j
  | .fptr row j=>k row j
  | _=>ad 11
def hP (P:Program) (t:TypeId) (row:List AV) (j:Nat) (k:AV→Prop):Prop :=
  match P.underlying t with
  | some (.struct _) | some (.array _ _) =>
    match P.info? t with
    | some i=>bO (Nat.ble (j + i.size) row.length) (hG ((row.drop j).take i.size) fun cs=>k (.agg cs))
    | none=>ad 12
  | some _=>match row[j]? with | some c=>k c | none=>ad 13
  | none=>ad 14
def kG (S:St) (a:AV) (cs:List AV) (K:St→Prop):Prop :=
  match a with
  | .ptr (.L d) i j =>
    match aG S.l d with
    | some row =>
      match i with
      | 0=>bO (Nat.ble (j + cs.length) row.length) (hG (splice row j cs) fun row'=>mi (oZ S.l d row') fun l=>K { t:=S.t,l:=l,o:=S.o,b:=S.b })
      | _ + 1=>ad 15
    | none=>ad 16
  | .ptr (.O id) i j =>
    match S.o[id]? with
    | some (.arr fl sz rows) =>
      match rows[i]? with
      | some row=>bO (Nat.ble (j + cs.length) row.length&&cs.all (rK 4)) (hG (splice row j cs) fun row'=>bk (S.o.set id (.arr (fl&&cs.all (dA 4)) sz (rows.set i row'))) fun o=>K { t:=S.t,l:=S.l,o:=o,b:=S.b })
      | none=>ad 17
    | _=>ad 18
  | _=>ad 19
def EI (op:BinOp) (x y:Value):Option Value :=
  match x,y with
  | .int k a,.int k' b =>
    match op with
    | .add=>if k=k' then some (.int k (k.wrap (a + b))) else none
    | .sub=>if k=k' then some (.int k (k.wrap (a - b))) else none
    | .mul=>if k=k' then some (.int k (k.wrap (a * b))) else none
    | .eql=>if k=k' then some (.bool (a==b)) else none
    | .neq=>if k=k' then some (.bool (a != b)) else none
    | .lss=>if k=k' then some (.bool (a<b)) else none
    | .leq=>if k=k' then some (.bool (a≤b)) else none
    | .gtr=>if k=k' then some (.bool (a>b)) else none
    | .geq=>if k=k' then some (.bool (a≥b)) else none
    | .and=>if k=k' then some (.int k (k.wrap (BitVec.ofInt k.bits a &&& BitVec.ofInt k.bits b).toNat)) else none
    | .or=>if k=k' then some (.int k (k.wrap (BitVec.ofInt k.bits a ||| BitVec.ofInt k.bits b).toNat)) else none
    | .xor=>if k=k' then some (.int k (k.wrap (BitVec.ofInt k.bits a ^^^ BitVec.ofInt k.bits b).toNat)) else none
    | .andNot=>if k=k' then some (.int k (k.wrap (BitVec.ofInt k.bits a &&& ~~~ BitVec.ofInt k.bits b).toNat)) else none
    | _=>none
  | .string a,.string b =>
    match op with
    | .eql=>some (.bool (a.toList==b.toList))
    | .neq=>some (.bool (!(a.toList==b.toList)))
    | .lss=>some (.bool (Op.bytesLess a.toList b.toList))
    | _=>none
  | _,_=>none
def r_ (op:BinOp) (x y:Value) (K:Value→Prop):Prop :=
  match op,x,y with
  | .quo,.int k a,.int k' b=>bO (decide (k=k')&&!(b==0)) (K (.int k (k.wrap (a.tdiv b))))
  | .rem,.int k a,.int k' b=>bO (decide (k=k')&&!(b==0)) (K (.int k (a.tmod b)))
  | .shl,.int k a,.int _ b=>bO (decide (0≤b)) (K (.int k (k.wrap (a * 2 ^ (min b.toNat k.bits)))))
  | .shr,.int k a,.int _ b=>bO (decide (0≤b)) (K (.int k (a.fdiv (2 ^ (min b.toNat k.bits)))))
  | .add,.string a,.string b=>bO (decide (((a.size + b.size:Nat):Int)≤9223372036854775807)) (K (.string (a++b)))
  | _,_,_=>ad 20
def Hk:AV→Option Value
  | .v x=>some x
  | _=>none
def ru:List AV→Option (List Value)
  | []=>some []
  | a::as=>match Hk a,ru as with
    | some x,some xs=>some (x::xs)
    | _,_=>none
def ax {α:Type} (P:Program):Sem α→Option α
  | .pure a=>some a
  | .program k=>ax P (k P)
  | _=>none
def A_ (x y:AV):Option Bool :=
  match x,y with
  | .nilp,.nilp | .nilsl,.nilsl | .nilmap,.nilmap | .nilfn,.nilfn=>some true
  | .ptr ..,.nilp | .nilp,.ptr .. | .fptr ..,.nilp | .nilp,.fptr ..=>some false
  | .sl (_::_),.nilsl | .nilsl,.sl (_::_)=>some false
  | .mp _,.nilmap | .nilmap,.mp _=>some false
  | .fn ..,.nilfn | .nilfn,.fn ..=>some false
  | _,_=>none
def yf (P:Program) (op:BinOp) (t:TypeId) (a b:Bool) (K:AV→Prop):Prop :=
  match P.underlying t with
  | some .bool=>match op with
    | .eql=>K (.v (.bool (a==b)))
    | .neq=>K (.v (.bool (!(a==b))))
    | _=>ad 221
  | _=>ad 222
def vx (P:Program) (op:BinOp) (t:TypeId) (a b:Value) (K:AV→Prop):Prop :=
  match EI op a b with
  | some c=>K (.v c)
  | none=>match a,b with
    | .bool x,.bool y=>yf P op t x y K
    | a,b=>r_ op a b fun c=>K (.v c)
def C4 (op:BinOp) (x y:AV) (K:AV→Prop):Prop :=
  match op with
  | .eql=>match A_ x y with | some b=>K (.v (.bool b)) | none=>ad 223
  | .neq=>match A_ x y with | some b=>K (.v (.bool (!b))) | none=>ad 224
  | _=>ad 225
def kindOk (P:Program) (t:TypeId) (x y:AV):Bool :=
  match P.underlying t,x,y with
  | some (.pointer _),.nilp,_ | some (.pointer _),_,.nilp=>true
  | some (.slice _),.nilsl,_ | some (.slice _),_,.nilsl=>true
  | some (.map _ _),.nilmap,_ | some (.map _ _),_,.nilmap=>true
  | some (.func _ _ _),.nilfn,_ | some (.func _ _ _),_,.nilfn=>true
  | _,_,_=>false
def kV (P:Program) (op:BinOp) (t:TypeId) (xs ys:List Value):Option Value :=
  ax P (do eqGuard op t (.tmp 0) (.tmp 0) (.agg xs.toArray) (.agg ys.toArray); binOp op t (.agg xs.toArray) (.agg ys.toArray))
def z4 (P:Program) (op:BinOp) (t:TypeId) (x y:AV) (K:AV→Prop):Prop :=
  match x,y with
  | .v a,.v b=>vx P op t a b K
  | .agg as,.agg bs =>
    match ru as,ru bs with
    | some xs,some ys =>
      match kV P op t xs ys with
      | some (.bool b)=>K (.v (.bool b))
      | _=>ad 226
    | _,_=>ad 227
  | x,y=>bO (kindOk P t x y) (C4 op x y K)
def Hl (op:UnOp) (x:AV) (K:AV→Prop):Prop :=
  match op,x with
  | .not,.v (.bool b)=>K (.v (.bool (!b)))
  | .neg,.v (.int k n)=>K (.v (.int k (k.wrap (0 - n))))
  | .xor,.v (.int k n)=>K (.v (.int k (k.wrap (BitVec.ofInt k.bits (if k.signed then -1 else k.max) ^^^ BitVec.ofInt k.bits n).toNat)))
  | _,_=>ad 28
def cO (P:Program) (e:TypeId) (k:List AV→Prop):Prop :=
  match P.info? e with
  | some i=>match i.zero with
    | some z=>bO (z.cells.size==i.size) (rJ (z.cells.toList.map r7) k)
    | none=>ad 29
  | none=>ad 30
def ep:List Nat→Nat→Bool
  | [],_=>false
  | x::xs,d=>Nat.beq x d||ep xs d
def vy (d:Nat) (S:St) (K:St→Prop):Prop :=
  match aG S.l d with
  | none=>K S
  | some _=>kU (.L d) S.t fun t=>ll (.L d) (nx S.l d) fun l=>K { t:=t,l:=l,o:=S.o,b:=S.b }
def ln:List Nat→St→(St→Prop)→Prop
  | [],S,K=>K S
  | d::ds,S,K=>vy d S fun S'=>ln ds S' K
def yg (pl:bV) (dst:Option Tmp) (cs:List AV) (S:St) (K:St→Prop):Prop :=
  match dst with
  | none=>ad 31
  | some d=>bO (Nat.blt 0 cs.length) (
    match ep pl.esc d with
    | true=>bO (cs.all (rK 4)) (bk (S.o++[.arr (cs.all (dA 4)) cs.length [cs]]) fun o=>p5 S.t d (.ptr (.O S.o.length) 0 0) fun t=>K { t:=t,l:=S.l,o:=o,b:=S.b })
    | false=>vy d S fun S'=>kU (.L d) cs fun cs'=>p5 S'.t d (.ptr (.L d) 0 0) fun t'=>K { t:=t',l:=(d,cs')::S'.l,o:=S'.o,b:=S'.b })
def lY (place:Nat→Option (Nat×Nat)):List AV→List (Nat×AV)→(List AV→Prop)→Prop
  | cells,[],k=>hG cells k
  | cells,(i,x)::rest,k =>
    match place i with
    | some (off,size)=>lm x fun cs=>bO (Nat.beq cs.length size&&Nat.ble (off + cs.length) cells.length) (lY place (splice cells off cs) rest k)
    | none=>ad 32
def wP (P:Program) (fs:Array Field) (i:Nat):Option (Nat×Nat) :=
  match fs[i]? with
  | some f=>match P.info? f.type with
    | some fi=>some (f.offset,fi.size)
    | none=>none
  | none=>none
def sc (P:Program) (t:TypeId) (parts:List (Nat×AV)) (k:AV→Prop):Prop :=
  cO P t fun z =>
  match P.underlying t with
  | some (.struct fs)=>bO (fs.toList.all fun f=>(P.info? f.type).isSome) (lY (wP P fs) z parts fun cs=>k (.agg cs))
  | some (.array _ e)=>match P.info? e with
    | some i=>lY (fun n=>some (n * i.size,i.size)) z parts fun cs=>k (.agg cs)
    | none=>ad 33
  | _=>ad 34
def o5 (n:Nat):Nat→List AV→List (List AV)
  | 0,_=>[]
  | m + 1,xs=>xs.take n::o5 n m (xs.drop n)
def fh:List (List AV)→(List (List AV)→Prop)→Prop
  | [],k=>k []
  | x::xs,k=>hG x fun y=>fh xs fun ys=>k (y::ys)
def iX (P:Program) (pl:bV) (dst:Option Tmp) (t:TypeId) (len:Nat) (parts:List (Nat×AV)) (S:St) (K:St→Prop):Prop :=
  match len with
  | 0=>match P.underlying t with
    | some (.slice e)=>match P.info? e with
      | some _=>bO (parts.isEmpty) (bN dst .esl S K)
      | none=>ad 35
    | _=>ad 36
  | len + 1 =>
    match P.underlying t with
    | some (.slice e)=>match P.info? e with
      | some i=>cO P e fun z=>bO (Nat.blt 0 i.size&&Nat.ble ((len + 1) * i.size) 16777216) (lY (fun n=>some (n * i.size,i.size)) (List.replicate (len + 1) z).flatten parts fun cs =>
          match ep pl.ms (dst.getD 0)||!(cs.all (dA 4)) with
          | false=>fh (o5 i.size (len + 1) cs) fun rows=>bN dst (.sl rows) S K
          | true=>bO (cs.all (rK 4)) (fh (o5 i.size (len + 1) cs) fun rows=>bk (S.o++[.arr (cs.all (dA 4)) i.size rows]) fun o=>bN dst (.mf S.o.length) { t:=S.t,l:=S.l,o:=o,b:=S.b } K))
      | none=>ad 37
    | _=>ad 38
def mj (P:Program) (pl:bV) (dst:Option Tmp) (t:TypeId) (len:Nat) (parts:List (Nat×AV)) (k:AV→Prop):Prop :=
  match len with
  | 0=>match P.underlying t with
    | some (.slice e)=>match P.info? e with
      | some _=>bO (parts.isEmpty) (k .esl)
      | none=>ad 213
    | _=>ad 214
  | len + 1 =>
    match P.underlying t with
    | some (.slice e)=>match P.info? e with
      | some i=>cO P e fun z=>bO (Nat.blt 0 i.size&&Nat.ble ((len + 1) * i.size) 16777216) (lY (fun n=>some (n * i.size,i.size)) (List.replicate (len + 1) z).flatten parts fun cs =>
          bO (!(ep pl.ms (dst.getD 0))&&cs.all (dA 4)) (fh (o5 i.size (len + 1) cs) fun rows=>k (.sl rows)))
      | none=>ad 215
    | _=>ad 216
def C5 (P:Program) (t:TypeId) (S:St) (x:AV) (k:AV→Prop):Prop :=
  match P.underlying t with
  | some (.slice _)=>match x with
    | .nilsl | .esl=>k (.v (.int .i64 0))
    | .sl rows=>k (.v (.int .i64 rows.length))
    | .mf id=>match S.o[id]? with | some (.arr _ _ rows)=>k (.v (.int .i64 rows.length)) | some (.own none _ cells _)=>k (.v (.int .i64 cells.length)) | _=>ad 39
    | .msl _ _ len _=>k (.v (.int .i64 len))
    | .bsl _ _ len=>k (.v (.int .i64 len))
    | _=>ad 40
  | some .string=>match x with
    | .v (.string s)=>k (.v (.int .i64 s.size))
    | _=>ad 41
  | some (.array n _)=>k (.v (.int .i64 n))
  | some (.map _ _)=>match x with
    | .nilmap=>k (.v (.int .i64 0))
    | .mp id=>match S.o[id]? with | some (.mapo _ es)=>k (.v (.int .i64 es.length)) | _=>ad 42
    | _=>ad 43
  | _=>ad 44
def iY (size:Nat) (S:St) (x:AV) (k:Bool→List (List AV)→Prop):Prop :=
  match x with
  | .nilsl | .esl=>k true []
  | .sl rows=>bO (oY size rows) (k true rows)
  | .mf id=>match S.o[id]? with | some (.arr fl sz rows)=>bO (Nat.beq sz size) (k fl rows) | _=>ad 45
  | .msl id off len _=>match S.o[id]? with | some (.arr fl sz rows)=>bO (Nat.beq sz size) (k fl ((rows.drop off).take len)) | _=>ad 46
  | .v (.string s)=>bO (Nat.beq size 1) (k true (s.data.toList.map fun b=>[.v (.int .u8 b.toNat)]))
  | .bsl (.O id) off len=>uT S (.O id) 0 fun row=>bO (Nat.beq size 1&&Nat.ble (off + len) row.length&&((row.drop off).take len).all (r9 2)) (k true (((row.drop off).take len).map fun c=>[c]))
  | _=>ad 47
def si (S:St) (id:Nat):Bool:=Nat.blt id S.b
def ny (S:St) (id:Nat) (ob:Ob) (k:St→Nat→Prop):Prop :=
  kU (.O id) S.t fun t=>ll (.O id) S.l fun l=>hH (.O id) S.o fun o =>
    match si S id with
    | false=>bk (o.set id (dX (.O id) ob)) fun o'=>k { t:=t,l:=l,o:=o',b:=S.b } id
    | true=>bk (o.set id .dead++[dX (.O id) ob]) fun o'=>k { t:=t,l:=l,o:=o',b:=S.b } o.length
def fo (src:List (List AV)):Bool:=src.all fun r=>r.all kF
def FI (i:TypeInfo):Bool:=match i.zero with | some z=>Nat.beq z.cells.size i.size | none=>false
def ko (P:Program) (ts:List TypeId) (base x:AV) (S:St) (k:St→AV→Prop):Prop :=
  match ts with
  | [t0,t1] =>
    match P.underlying t0 with
    | some (.slice e) =>
      match P.info? e with
      | some i=>bO (Nat.blt 0 i.size&&Nat.blt 0 i.bytes&&FI i&&(match P.underlying t1 with | some (.slice _) | some .string=>true | _=>false)) (iY i.size S x fun fl src=>bO (fo src) (
          match base with
          | .nilsl | .esl=>bO (Nat.ble (src.length * i.bytes) 140737488355328) (bk (S.o++[.arr fl i.size src]) fun o=>k { t:=S.t,l:=S.l,o:=o,b:=S.b } (.mf S.o.length))
          | .mf id=>match S.o[id]? with
            | some (.arr fl' sz rows)=>bO (Nat.beq sz i.size&&Nat.ble ((rows.length + src.length) * i.bytes) 140737488355328&&(fl||!fl')) (ny S id (.arr (fl'&&fl) sz (rows++src)) fun S' id'=>k S' (.mf id'))
            | _=>ad 48
          | .msl id off len ext=>match S.o[id]? with
            | some (.arr fl' sz rows)=>bO (Nat.beq sz i.size&&(fl||!fl')) (
              match Nat.ble src.length ext with
              | true=>bO (Nat.ble (off + len + ext) rows.length) (bk (S.o.set id (.arr (fl'&&fl) sz (rows.take (off + len)++(src++rows.drop (off + len + src.length))))) fun o=>k { t:=S.t,l:=S.l,o:=o,b:=S.b } (.msl id off (len + src.length) (ext - src.length)))
              | false=>bO (Nat.ble ((len + src.length) * i.bytes) 140737488355328) (ny S id (.arr (fl'&&fl) sz ((rows.drop off).take len++src)) fun S' id'=>k S' (.mf id')))
            | _=>ad 49
          | _=>ad 50))
      | none=>ad 51
    | _=>ad 52
  | _=>ad 53
def H_:St:={ t:=[],l:=[],o:=[],b:=0 }
def jP (P:Program) (ts:List TypeId) (base x:AV) (k:AV→Prop):Prop :=
  match ts with
  | [t0,t1] =>
    match P.underlying t0 with
    | some (.slice e) =>
      match P.info? e with
      | some i=>bO (Nat.blt 0 i.size&&Nat.blt 0 i.bytes&&FI i&&(match P.underlying t1 with | some (.slice _) | some .string=>true | _=>false)) (iY i.size H_ x fun fl src=>bO (fl&&fo src&&Nat.ble (src.length * i.bytes) 140737488355328) (
          match base with
          | .nilsl | .esl=>k (.sl src)
          | _=>ad 254))
      | none=>ad 255
    | _=>ad 256
  | _=>ad 257
def jQ (P:Program) (ts:List TypeId) (base:AV) (n:Int) (S:St) (k:St→AV→Prop):Prop :=
  match ts with
  | [t0,t1] =>
    match P.underlying t0,P.underlying t1 with
    | some (.slice e),some (.int _) =>
      match P.info? e with
      | some i=>bO (Nat.blt 0 i.size&&Nat.blt 0 i.bytes&&decide (0<n)&&decide (n * i.bytes≤140737488355328)&&decide (n≤140737488355328)) (cO P e fun z=>bO (z.all (dA 2)) (
          match base with
          | .nilsl | .esl=>bk (S.o++[.arr true i.size (List.replicate n.toNat z)]) fun o=>k { t:=S.t,l:=S.l,o:=o,b:=S.b } (.mf S.o.length)
          | _=>ad 250))
      | none=>ad 251
    | _,_=>ad 252
  | _=>ad 253
def C6 (P:Program) (ts:List TypeId) (x:AV) (k:AV→Prop):Prop :=
  match ts with
  | t::_ =>
    match P.underlying t with
    | some (.slice _)=>match x with
      | .nilsl | .esl=>k (.v (.int .i64 0))
      | _=>ad 240
    | _=>ad 241
  | []=>ad 242
def Hf:AV→Bool
  | .v _=>true
  | _=>false
def qJ (P:Program) (ts:List TypeId) (x y:AV) (M:St) (k:AV→St→Prop):Prop :=
  match ts with
  | t::_ =>
    match P.underlying t with
    | some (.slice e) =>
      match P.info? e with
      | some i=>bO (Nat.blt 0 i.size) (iY i.size M y fun fl src=>bO (fo src&&!(Hf y)) (
          match x with
          | .mf id=>match M.o[id]? with
            | some (.arr fl' sz rows)=>bO (Nat.beq sz i.size) (bk (M.o.set id (.arr (fl'&&fl) sz (src.take rows.length++rows.drop src.length))) fun o=>k (.v (.int .i64 ((min src.length rows.length:Nat):Int))) { t:=M.t,l:=M.l,o:=o,b:=M.b })
            | _=>ad 243
          | .msl id off len _=>match M.o[id]? with
            | some (.arr fl' sz rows)=>bO (Nat.beq sz i.size&&Nat.ble (off + len) rows.length) (bk (M.o.set id (.arr (fl'&&fl) sz (rows.take off++(src.take len++rows.drop (off + min src.length len))))) fun o=>k (.v (.int .i64 ((min src.length len:Nat):Int))) { t:=M.t,l:=M.l,o:=o,b:=M.b })
            | _=>ad 244
          | _=>ad 245))
      | none=>ad 246
    | _=>ad 247
  | []=>ad 248
def p6 (P:Program) (ts:List TypeId) (x:AV) (S:St) (K:St→Prop):Prop :=
  match ts with
  | t::_ =>
    match P.underlying t with
    | some (.slice e) =>
      match P.info? e with
      | some i=>bO (Nat.blt 0 i.size) (
          match x with
          | .nilsl | .esl=>K S
          | .msl id off len _=>match S.o[id]? with
            | some (.arr fl sz rows)=>bO (Nat.beq sz i.size&&Nat.ble (off + len) rows.length) (cO P e fun z=>bO (z.all (dA 2)&&z.all kF) (bk (S.o.set id (.arr (fl&&true) sz (rows.take off++(List.replicate len z++rows.drop (off + len))))) fun o=>K { t:=S.t,l:=S.l,o:=o,b:=S.b }))
            | _=>ad 267
          | _=>ad 268)
      | none=>ad 269
    | _=>ad 270
  | []=>ad 271
def intOf (a:AV) (k:Int→Prop):Prop :=
  match a with
  | .v (.int _ n)=>k n
  | _=>ad 60
def cj (P:Program) (t:TypeId) (l c:AV) (S:St) (k:St→AV→Prop):Prop :=
  match P.underlying t with
  | some (.slice e) =>
    match P.info? e with
    | some i=>intOf l fun l=>intOf c fun c=>bO (decide (0≤l)&&decide (l≤c)&&decide (i.bytes * c≤140737488355328)&&decide (c≤140737488355328)&&Nat.blt 0 i.size)
        (cO P e fun z=>bO (z.all (dA 2)) (bk (S.o++[.arr true i.size (List.replicate l.toNat z)]) fun o=>k { t:=S.t,l:=S.l,o:=o,b:=S.b } (.mf S.o.length)))
    | none=>ad 61
  | _=>ad 62
def p7 (len cap:Nat) (lo hi mx:Option Int) (k:Nat→Nat→Nat→Prop):Prop :=
  match lo,hi,mx with
  | none,none,none=>k 0 len cap
  | some l,none,none=>bO (decide (0≤l)&&decide (l≤len)) (k l.toNat len cap)
  | none,some h,none=>bO (decide (0≤h)&&decide (h≤cap)) (k 0 h.toNat cap)
  | some l,some h,none=>bO (decide (0≤l)&&decide (l≤h)&&decide (h≤cap)) (k l.toNat h.toNat cap)
  | none,some h,some m=>bO (decide (0≤h)&&decide (h≤m)&&decide (m≤cap)) (k 0 h.toNat m.toNat)
  | some l,some h,some m=>bO (decide (0≤l)&&decide (l≤h)&&decide (h≤m)&&decide (m≤cap)) (k l.toNat h.toNat m.toNat)
  | _,_,_=>ad 63
def iy:Option Int→Bool
  | some (.ofNat 0)=>true
  | _=>false
def iD (P:Program) (t:TypeId) (x:AV) (lo hi mx:Option Int) (S:St) (k:AV→Prop):Prop :=
  match P.underlying t with
  | some .string =>
    match x,mx with
    | .v (.string s),none=>p7 s.size s.size lo hi none fun l h _=>k (.v (.string (s.extract l h)))
    | _,_=>ad 64
  | some (.slice e) =>
    match P.info? e with
    | some i=>bO (Nat.blt 0 i.size) (
      match x with
      | .nilsl=>p7 0 0 lo hi mx fun _ _ _=>k .nilsl
      | .esl=>p7 0 0 lo hi mx fun _ _ _=>k .esl
      | .sl rows=>bO (oY i.size rows) (p7 rows.length rows.length lo hi mx fun l h _ =>
        match lo,hi,iy hi&&iy mx with
        | _,_,true=>k .esl
        | none,none,_=>k (.sl rows)
        | _,none,_=>k (.sl (rows.drop l))
        | none,_,_=>k (.sl (rows.take h))
        | _,_,_=>k (.sl ((rows.drop l).take (h - l))))
      | .mf id=>match S.o[id]? with
        | some (.arr _ sz rows)=>bO (Nat.beq sz i.size) (p7 rows.length rows.length lo hi mx fun l h m =>
          match lo,hi,iy hi&&iy mx with
          | _,_,true=>k .esl
          | none,none,_=>k (.mf id)
          | _,none,_=>k (.msl id l (rows.length - l) 0)
          | _,_,_=>k (.msl id l (h - l) (m - h)))
        | _=>ad 65
      | .msl id off len ext=>match S.o[id]? with
        | some (.arr _ sz _)=>bO (Nat.beq sz i.size) (p7 len (len + ext) lo hi mx fun l h m =>
          match iy hi&&iy mx with
          | true=>k .esl
          | false=>k (.msl id (l + off) (h - l) (m - h)))
        | _=>ad 66
      | _=>ad 67)
    | none=>ad 68
  | some (.array n e) =>
    match P.info? e,x with
    | some i,.ptr key 0 j=>bO (Nat.beq i.size 1) (p7 n n lo hi mx fun l h m=>bO (Nat.blt l m) (k (.bsl key (j + l) (h - l))))
    | _,_=>ad 263
  | _=>ad 69
def gB (P:Program) (t:TypeId) (x ix:AV) (S:St) (k:AV→Prop):Prop :=
  intOf ix fun i =>
  match P.underlying t with
  | some (.slice e) =>
    match P.info? e with
    | some inf =>
      match x with
      | .sl rows=>match (if 0≤i then rows[i.toNat]? else none) with
        | some row=>bO (Nat.beq row.length inf.size&&Nat.blt 0 inf.size) (k (.fptr row 0))
        | none=>ad 70
      | .mf id=>match S.o[id]? with
        | some (.arr _ _ rows)=>match (if 0≤i then rows[i.toNat]? else none) with
          | some row=>bO (Nat.beq row.length inf.size&&Nat.blt 0 inf.size) (k (.ptr (.O id) i.toNat 0))
          | none=>ad 71
        | some (.own none _ cells _)=>bO (decide (0≤i)&&Nat.blt i.toNat cells.length&&Nat.beq inf.size 1) (k (.ptr (.O id) i.toNat 0))
        | _=>ad 72
      | .msl id off len _=>match S.o[id]? with
        | some (.arr _ _ rows)=>bO (decide (0≤i)&&decide (i<len)) (match rows[i.toNat + off]? with
          | some row=>bO (Nat.beq row.length inf.size&&Nat.blt 0 inf.size) (k (.ptr (.O id) (i.toNat + off) 0))
          | none=>ad 73)
        | _=>ad 74
      | .bsl key off len=>bO (decide (0≤i)&&decide (i<len)&&Nat.beq inf.size 1) (k (.ptr key 0 (off + i.toNat)))
      | _=>ad 75
    | none=>ad 76
  | some (.array len e) =>
    match P.info? e with
    | some inf=>bO (decide (0≤i)&&decide (i<len)) (
      match x with
      | .ptr key a j=>k (.ptr key a (i.toNat * inf.size + j))
      | .fptr row j=>k (.fptr row (i.toNat * inf.size + j))
      | _=>ad 77)
    | none=>ad 78
  | _=>ad 79
def nT (P:Program) (t:TypeId) (x ix:AV) (k:AV→Prop):Prop :=
  intOf ix fun i =>
  match P.underlying t,x with
  | some (.array len e),.agg cs=>match P.info? e with
    | some inf=>bO (decide (0≤i)&&decide (i<len)) (hP P e cs (i.toNat * inf.size) k)
    | none=>ad 80
  | some .string,.v (.string s)=>match (if 0≤i then s[i.toNat]? else none) with
    | some b=>k (.v (.int .u8 b.toNat))
    | none=>ad 81
  | _,_=>ad 82
def jR (P:Program) (t:TypeId) (x:AV) (f:Nat) (k:AV→Prop):Prop :=
  match P.underlying t with
  | some (.struct fs)=>match fs[f]? with
    | some fl=>match P.info? fl.type with
      | some inf=>bO (Nat.blt 0 inf.size) (match x with
        | .ptr key i j=>k (.ptr key i (j + fl.offset))
        | .fptr row j=>k (.fptr row (j + fl.offset))
        | _=>ad 83)
      | none=>ad 84
    | none=>ad 85
  | _=>ad 86
def sj (P:Program) (t:TypeId) (x:AV) (f:Nat) (k:AV→Prop):Prop :=
  match P.underlying t,x with
  | some (.struct fs),.agg cs=>match fs[f]? with
    | some fl=>hP P fl.type cs fl.offset k
    | none=>ad 87
  | _,_=>ad 88
def bytesOf:List (List AV)→Option (List UInt8)
  | []=>some []
  | [.v (.int .u8 n)]::rs=>match bytesOf rs with | some bs=>some (UInt8.ofNat n.toNat::bs) | none=>none
  | _=>none
def ml (P:Program) (src dst:TypeId) (x:AV) (k:AV→Prop):Prop :=
  match P.underlying src,P.underlying dst with
  | some _,some (.int kd)=>match x with | .v (.int _ n)=>k (.v (.int kd (kd.wrap n))) | _=>ad 89
  | some .string,some .string=>match x with | .v (.string s)=>k (.v (.string s)) | _=>ad 90
  | _,_=>ad 92
def fj (P:Program) (src dst:TypeId) (x:AV) (S:St) (k:AV→Prop):Prop :=
  match P.underlying src,P.underlying dst with
  | some (.slice e),some .string =>
    match P.underlying e with
    | some (.int .u8)=>bO (!(Hf x)) (iY 1 S x fun _ rows=>match bytesOf rows with | some bs=>k (.v (.string ⟨bs.toArray⟩)) | none=>ad 261)
    | _=>ad 262
  | _,_=>ml P src dst x k
def sk (S:St) (x:AV):Bool :=
  match x with
  | .mf id=>match S.o[id]? with
    | some (.arr _ _ (_::_))=>true
    | _=>false
  | .msl _ _ len ext=>Nat.blt 0 (len + ext)
  | _=>false
def sn (P:Program) (op:BinOp) (t:TypeId) (x y:AV) (S:St) (k:AV→Prop):Prop :=
  match sk S x,y with
  | true,.nilsl=>match P.underlying t,op with
    | some (.slice _),.eql=>k (.v (.bool false))
    | some (.slice _),.neq=>k (.v (.bool true))
    | _,_=>ad 265
  | _,_=>z4 P op t x y k
def iZ {α β:Type} (f:α→Option β):List α→Option (List β)
  | []=>some []
  | x::xs=>match f x,iZ f xs with
    | some y,some ys=>some (y::ys)
    | _,_=>none
def p8 (f:AV→Option AV) (fl:Bool) (rows:List (List AV)):Option (List (List AV)) :=
  match fl with
  | true=>some rows
  | false=>iZ (iZ f) rows
def FJ (f:AV→Option AV) (fl:Bool) (row:List AV):Option (List AV) :=
  match fl with
  | true=>some row
  | false=>iZ f row
def zZ (o:List Ob):Nat→AV→Option AV
  | 0,_=>none
  | n + 1,a =>
    match a with
    | .v x=>some (.v x)
    | .nilp=>some .nilp
    | .fptr r j=>some (.fptr r j)
    | .nilsl=>some .nilsl
    | .esl=>some (.sl [])
    | .sl r=>some (.sl r)
    | .nilmap=>some .nilmap
    | .nilfn=>some .nilfn
    | .mf id=>match o[id]? with
      | some (.arr fl _ rows)=>match p8 (zZ o n) fl rows with | some r=>some (.sl r) | none=>none
      | _=>none
    | .msl id off len _=>match o[id]? with
      | some (.arr fl _ rows)=>match p8 (zZ o n) fl ((rows.drop off).take len) with | some r=>some (.sl r) | none=>none
      | _=>none
    | .ptr (.O id) i j=>match o[id]? with
      | some (.arr fl _ rows)=>match rows[i]? with
        | some row=>match FJ (zZ o n) fl row with | some r=>some (.fptr r j) | none=>none
        | none=>none
      | _=>none
    | .fn f x y=>match iZ (zZ o n) x,iZ (zZ o n) y with | some x',some y'=>some (.fn f x' y') | _,_=>none
    | .agg cs=>match iZ (zZ o n) cs with | some r=>some (.agg r) | none=>none
    | .tup cs=>match iZ (zZ o n) cs with | some r=>some (.tup r) | none=>none
    | _=>none
def dB (o:List Ob):Nat→AV→List Nat
  | 0,_=>[]
  | n + 1,a =>
    match a with
    | .mf id=>id::(match o[id]? with | some (.arr false _ rows)=>rows.flatten.flatMap (dB o n) | _=>[])
    | .msl id off len _=>id::(match o[id]? with | some (.arr false _ rows)=>((rows.drop off).take len).flatten.flatMap (dB o n) | _=>[])
    | .ptr (.O id) i _=>id::(match o[id]? with | some (.arr false _ rows)=>(match rows[i]? with | some row=>row.flatMap (dB o n) | none=>[]) | _=>[])
    | .fn _ x y=>x.flatMap (dB o n)++y.flatMap (dB o n)
    | .agg cs | .tup cs=>cs.flatMap (dB o n)
    | _=>[]
def wQ (o:List Ob) (a:AV) (k:AV→Prop):Prop :=
  match zZ o 6 a with
  | some b=>jO b k
  | none=>ad 96
def iz (o:List Ob):List AV→(List AV→Prop)→Prop
  | [],k=>k []
  | a::as,k=>wQ o a fun b=>iz o as fun bs=>k (b::bs)
def fQ:List Nat→St→(St→Prop)→Prop
  | [],S,K=>K S
  | id::ids,S,K=>kU (.O id) S.t fun t=>ll (.O id) S.l fun l=>hH (.O id) S.o fun o=>bk (o.set id .dead) fun o'=>fQ ids { t:=t,l:=l,o:=o',b:=S.b } K
def cf:List Ob→List Ob→Nat→List Nat
  | .dead::xs,_::ys,n=>cf xs ys (n + 1)
  | _::xs,.dead::ys,n=>n::cf xs ys (n + 1)
  | _::xs,_::ys,n=>cf xs ys (n + 1)
  | _,_,_=>[]
def jk:List Nat→List AV→List (Nat×List AV)→(List AV→List (Nat×List AV)→Prop)→Prop
  | [],t,l,K=>K t l
  | id::ids,t,l,K=>kU (.O id) t fun t'=>ll (.O id) l fun l'=>jk ids t' l' K
def vz (C:Ctx) (f:AV) (args:List AV) (S:St) (k:St→AV→Prop):Prop :=
  match f with
  | .fn fid first cap =>
    match C.pure fid with
    | true=>iz S.o (first++args++cap) fun as=>C.pcall fid as fun r =>
        match r9 4 r with
        | true=>k S r
        | false=>fQ ((first++args++cap).flatMap (dB S.o 6)) S fun S'=>k S' r
    | false=>bO ((first++args++cap).all (rK 4)) (C.scall fid (first++args++cap) S.o fun r o'=>jk (cf S.o o' 0) S.t S.l fun t l=>k { t:=t,l:=l,o:=o',b:=S.b } r)
  | _=>ad 97
def rL:AV→Option Value
  | .v x=>some x
  | .agg cs=>match ru cs with | some xs=>some (.agg xs.toArray) | none=>none
  | _=>none
def keysOf:List (AV×AV)→Option (List MapEntry)
  | []=>some []
  | (k,_)::es=>match rL k,keysOf es with
    | some x,some xs=>some ({ key:=x,val:=.bool false,born:=0 }::xs)
    | _,_=>none
def gM (P:Program) (kt:TypeId) (key:AV) (es:List (AV×AV)) (k:Value→Option Nat→Prop):Prop :=
  match rL key,keysOf es with
  | some x,some xs =>
    match ax P (Instr.checkKey xs.isEmpty 10000 kt x),ax P (Instr.findKey kt x xs) with
    | some _,some r=>k x (r.map (·.1))
    | _,_=>ad 98
  | _,_=>ad 99
def mm (ok:Bool) (x:AV) (b:Bool) (k:AV→Prop):Prop :=
  match ok with
  | true=>k (.tup [x,.v (.bool b)])
  | false=>k x
def hU (P:Program) (e:TypeId) (ok:Bool) (k:AV→Prop):Prop :=
  match P.info? e with
  | some i=>match i.zero with
    | some z=>jO (BU z) fun z=>mm ok z false k
    | none=>ad 230
  | none=>ad 231
def iP (P:Program) (e:TypeId) (ok:Bool) (es:List (AV×AV)) (r:Option Nat) (k:AV→Prop):Prop :=
  match r with
  | some i=>match es[i]? with
    | some en=>mm ok en.2 true k
    | none=>ad 232
  | none=>hU P e ok k
def m_ (P:Program) (t:TypeId) (m key:AV) (ok:Bool) (S:St) (k:AV→Prop):Prop :=
  match P.underlying t with
  | some (.map kt e) =>
    match m with
    | .nilmap=>gM P kt key [] fun _ _=>hU P e ok k
    | .mp id=>match S.o[id]? with
      | some (.mapo _ es)=>gM P kt key es fun _ r=>iP P e ok es r k
      | _=>ad 233
    | _=>ad 234
  | _=>ad 235
def wR (P:Program) (kt:TypeId) (x:Value):Bool:=match ax P (Instr.checkKey false 10000 kt x) with | some _=>true | none=>false
def eA (P:Program) (t:TypeId) (m key x:AV) (S:St) (K:St→Prop):Prop :=
  match P.underlying t with
  | some (.map kt _) =>
    match m with
    | .mp id=>match S.o[id]? with
      | some (.mapo fl es)=>bO (rK 4 x) (gM P kt key es fun kv r=>bO (wR P kt kv) (
          match r with
          | some i=>bO (Instr.sameBits 10000 ((es[i]?.bind fun e=>rL e.1).getD (.bool false)) kv) (bk (S.o.set id (.mapo (fl&&dA 4 x) (es.set i (key,x)))) fun o=>K { t:=S.t,l:=S.l,o:=o,b:=S.b })
          | none=>bk (S.o.set id (.mapo (fl&&dA 4 x) (es++[(key,x)]))) fun o=>K { t:=S.t,l:=S.l,o:=o,b:=S.b }))
      | _=>ad 106
    | _=>ad 107
  | _=>ad 108
def pop (C:Ctx) (pl:bV) (o:Oper) (vs:List AV) (k:AV→Prop):Prop :=
  match o.op,vs with
  | .move _,[a]=>k a
  | .assign _,[a]=>k a
  | .pick _ _ _,[.v (.bool c),a,b]=>ye c (k a) (k b)
  | .build t parts,vs=>bO (Nat.beq parts.size vs.length) (sc C.P t ((parts.toList.map (·.1)).zip vs) k)
  | .buildSlice t len parts,vs=>bO (Nat.beq parts.size vs.length) (mj C.P pl o.dst t len ((parts.toList.map (·.1)).zip vs) k)
  | .nilCheck _,[.ptr x i j]=>k (.ptr x i j)
  | .nilCheck _,[.fptr r j]=>k (.fptr r j)
  | .nilCheck _,[.fn f x y]=>k (.fn f x y)
  | .binOp op t _ _ _,[a,b]=>z4 C.P op t a b k
  | .unOp op _ _,[a]=>Hl op a k
  | .makeFunc f first cap,vs=>match f with
    | .func fid=>bO (Nat.beq (first.size + cap.size) vs.length) (hG (vs.take first.size) fun xs=>hG (vs.drop first.size) fun ys=>k (.fn fid xs ys))
    | _=>ad 201
  | .fieldAddr t _ f,[a]=>jR C.P t a f k
  | .field t _ f,[a]=>sj C.P t a f k
  | .index t _ _,[a,i]=>nT C.P t a i k
  | .extract _ ix,[.tup xs]=>nS xs ix k
  | .call c,vs=>match c.callee,vs with
    | .builtin .min,[.v (.int a m),.v (.int b n)]=>bO (decide (a=b)) (k (.v (.int a (if n<m then n else m))))
    | .builtin .max,[.v (.int a m),.v (.int b n)]=>bO (decide (a=b)) (k (.v (.int a (if n>m then n else m))))
    | .builtin .cap,[x]=>C6 C.P c.argTypes.toList x k
    | _,_=>ad 204
  | _,_=>ad 207
def nt (C:Ctx) (o:Oper) (vs:List AV) (M:St) (k:AV→Prop):Prop :=
  match o.op,vs with
  | .load t _,[p]=>CZ M p fun row j=>hP C.P t row j k
  | .convert src dst _,[a]=>fj C.P src dst a M k
  | .slice t _ lo hi mx,a::rest =>
    match lo,hi,mx,rest with
    | none,none,none,[]=>iD C.P t a none none none M k
    | some _,none,none,[x]=>intOf x fun x=>iD C.P t a (some x) none none M k
    | none,some _,none,[y]=>intOf y fun y=>iD C.P t a none (some y) none M k
    | some _,some _,none,[x,y]=>intOf x fun x=>intOf y fun y=>iD C.P t a (some x) (some y) none M k
    | none,some _,some _,[y,z]=>intOf y fun y=>intOf z fun z=>iD C.P t a none (some y) (some z) M k
    | some _,some _,some _,[x,y,z]=>intOf x fun x=>intOf y fun y=>intOf z fun z=>iD C.P t a (some x) (some y) (some z) M k
    | _,_,_,_=>ad 202
  | .binOp op t _ _ _,[a,b]=>sn C.P op t a b M k
  | .indexAddr t _ _,[a,i]=>gB C.P t a i M k
  | .lookup t _ _ ok,[m,key]=>m_ C.P t m key ok M k
  | .call c,vs=>match c.callee with
    | .builtin b=>match b,vs with
      | .len,[x]=>match c.argTypes.toList with | t::_=>C5 C.P t M x k | []=>ad 203
      | _,_=>ad 204
    | .value _=>match vs with
      | .fn fid first cap::as=>bO (C.pure fid) (iz M.o (first++as++cap) fun bs=>C.pcall fid bs fun r=>bO (r9 4 r||((first++as++cap).flatMap (dB M.o 6)).isEmpty) (k r))
      | _=>ad 205
    | .invoke _ _=>ad 206
  | _,_=>ad 207
def Ga (C:Ctx) (o:Oper) (vs:List AV) (k:AV→Prop):Prop :=
  match o.op,vs with
  | .call c,[x,y]=>match c.callee with
    | .builtin .append=>jP C.P c.argTypes.toList x y k
    | _=>ad 258
  | _,_=>ad 259
def vB (C:Ctx) (o:Oper) (vs:List AV) (M:St) (k:AV→St→Prop):Prop :=
  match o.op,vs with
  | .store t _ _,[p,y]=>lm y fun cs=>match C.P.info? t with
    | some i=>bO (Nat.beq cs.length i.size) (kG M p cs fun M'=>k .bad M')
    | none=>ad 208
  | _,_=>ad 209
def da (S:St):St:={ t:=[],l:=S.l,o:=S.o,b:=S.b }
def e_ (S M:St):St:={ t:=S.t,l:=M.l,o:=M.o,b:=M.b }
def addrOf (o:Oper):Option Nat :=
  match o.op with
  | .load _ (.tmp t)=>some t
  | .store _ (.tmp t) _=>some t
  | _=>none
def fE (pl:bV) (o:Oper):Bool :=
  match o.op with
  | .load _ (.tmp t)=>ep pl.ow t
  | .store _ (.tmp t) _=>ep pl.ow t
  | .makeSlice _ _ _=>ep pl.ow (o.dst.getD 0)
  | .makeMap _ _=>ep pl.ow (o.dst.getD 0)
  | .lookup _ _ _ _=>ep pl.ow (o.dst.getD 0)
  | .mapUpdate _ (.tmp t) _ _=>ep pl.ow t
  | .insert _ (.tmp t) _ _=>ep pl.ow t
  | _=>false
def Ba (pl:bV) (o:Oper):Bool :=
  match addrOf o with
  | some t=>ep pl.oh t
  | none=>false
def hZ (S:St) (id:Nat) (K:St→Prop):Prop :=
  match S.o[id]? with
  | some (.own ks sz cells (some (j,.nilsl)))=>bO (Nat.blt j cells.length) (bk (S.o.set id (.own ks sz (cells.set j none) none)) fun o=>K { t:=S.t,l:=S.l,o:=o,b:=S.b })
  | some (.own ks sz cells (some (j,.mf k)))=>match S.o[k]? with
    | some (.arr true sz' rows)=>bO (Nat.beq sz' sz&&Nat.blt j cells.length) (fQ [k] S fun S1=>bk (S1.o.set id (.own ks sz (cells.set j (some rows)) none)) fun o=>K { t:=S1.t,l:=S1.l,o:=o,b:=S1.b })
    | _=>ad 320
  | some (.own _ _ _ (some _))=>ad 321
  | _=>K S
def lq:List Nat→St→(St→Prop)→Prop
  | [],S,K=>K S
  | id::ids,S,K=>hZ S id fun S'=>lq ids S' K
def kH:Option (List (List AV))→AV
  | none=>.nilsl
  | some rows=>.sl rows
def mn:List AV→List (Option (List (List AV)))→List (AV×AV)
  | k::ks,c::cs=>(k,kH c)::mn ks cs
  | _,_=>[]
def jy (S:St) (id:Nat) (K:St→Prop):Prop :=
  match S.o[id]? with
  | some (.own (some ks) _ cells none)=>bk (S.o.set id (.mapo true (mn ks cells))) fun o=>K { t:=S.t,l:=S.l,o:=o,b:=S.b }
  | some (.own none _ cells none)=>bk (S.o.set id (.arr true 1 (cells.map fun c=>[kH c]))) fun o=>K { t:=S.t,l:=S.l,o:=o,b:=S.b }
  | _=>K S
def jS:List Nat→St→(St→Prop)→Prop
  | [],S,K=>K S
  | id::ids,S,K=>jy S id fun S'=>jS ids S' K
def z5:Nat→List Nat
  | 0=>[]
  | n + 1=>n::z5 n
def jp (pl:bV) (id:Nat) (S:St) (K:St→Prop):Prop :=
  match ep pl.cl id with
  | false=>K S
  | true=>lq (z5 S.o.length) S fun S1=>match ep pl.fr id with
    | false=>K S1
    | true=>jS (z5 S1.o.length) S1 K
def fa (M:St) (id i:Nat) (k:AV→St→Prop):Prop :=
  match M.o[id]? with
  | some (.own ks sz cells none)=>match cells[i]? with
    | some none=>k .nilsl M
    | some (some rows)=>bk (M.o.set id (.own ks sz cells (some (i,.mf M.o.length)))++[.arr true sz rows]) fun o=>k (.mf M.o.length) { t:=M.t,l:=M.l,o:=o,b:=M.b }
    | none=>ad 322
  | _=>ad 323
def h_ (P:Program) (t:TypeId) (same:Bool) (M:St) (id i:Nat) (k:AV→St→Prop):Prop :=
  match same with
  | true=>match M.o[id]? with
    | some (.own none _ cells (some (j,a)))=>bO (Nat.beq i j&&Nat.blt j cells.length) (hP P t [a] 0 fun r=>k r M)
    | _=>ad 324
  | false=>fa M id i fun a M'=>hP P t [a] 0 fun r=>k r M'
def p9 (v:AV):Bool:=match v with | .nilsl=>true | .mf _=>true | _=>false
def mo (hole:Option (Nat×AV)) (i:Nat):Bool :=
  match hole with
  | none=>true
  | some (j,_)=>Nat.beq i j
def fR (P:Program) (t:TypeId) (M:St) (id i:Nat) (v:AV) (K:St→Prop):Prop :=
  match P.info? t,M.o[id]? with
  | some inf,some (.own none sz cells hole)=>bO (p9 v&&Nat.blt i cells.length&&Nat.beq inf.size 1&&mo hole i) (bk (M.o.set id (.own none sz cells (some (i,v)))) fun o=>K { t:=M.t,l:=M.l,o:=o,b:=M.b })
  | _,_=>ad 325
def Bb:List (Nat×Nat)→Option Nat→Nat→Nat
  | [],_,n=>n
  | (s,j)::ix,d,n=>match d with
    | some e=>match Nat.beq s e with | true=>j | false=>Bb ix d n
    | none=>n
def nU (j:Nat) (o:List Ob) (b:Nat) (ob:Ob) (k:List Ob→Prop):Prop :=
  match (o++List.replicate (j + 1 - o.length) Ob.dead)[j]? with
  | some .dead=>bO (Nat.ble b j) (bk ((o++List.replicate (j + 1 - o.length) Ob.dead).set j ob) k)
  | _=>ad 331
def gh (P:Program) (j:Nat) (t:TypeId) (l c:AV) (M:St) (k:AV→St→Prop):Prop :=
  match P.underlying t with
  | some (.slice e) =>
    match P.info? e,P.underlying e with
    | some i,some (.slice e2)=>match P.info? e2 with
      | some i2=>intOf l fun l=>intOf c fun c=>bO (decide (0≤l)&&decide (l≤c)&&decide (i.bytes * c≤140737488355328)&&decide (c≤140737488355328)&&Nat.blt 0 i.size&&Nat.beq i.size 1&&Nat.blt 0 i2.size)
          (cO P e fun z=>match z with
            | [.nilsl]=>nU j M.o M.b (.own none i2.size (List.replicate l.toNat none) none) fun o=>k (.mf j) { t:=M.t,l:=M.l,o:=o,b:=M.b }
            | _=>ad 325)
      | none=>ad 326
    | _,_=>ad 61
  | _=>ad 62
def fF (P:Program) (t:TypeId) (M:St) (k:AV→St→Prop):Prop :=
  match P.underlying t with
  | some (.map _ e)=>match P.underlying e with
    | some (.slice e2)=>match P.info? e2 with
      | some i2=>bO (Nat.blt 0 i2.size) (bk (M.o++[.own (some []) i2.size [] none]) fun o=>k (.mp M.o.length) { t:=M.t,l:=M.l,o:=o,b:=M.b })
      | none=>ad 336
    | _=>ad 337
  | _=>ad 338
def kp:List AV→List (AV×AV)
  | []=>[]
  | k::ks=>(k,.bad)::kp ks
def ia (P:Program) (t:TypeId) (m key:AV) (ok:Bool) (M:St) (k:AV→St→Prop):Prop :=
  match P.underlying t with
  | some (.map kt e)=>match m with
    | .mp id=>match M.o[id]? with
      | some (.own (some ks) _ _ none)=>gM P kt key (kp ks) fun _ r=>match r with
        | some i=>fa M id i fun a M'=>mm ok a true fun r=>k r M'
        | none=>hU P e ok fun r=>k r M
      | _=>ad 333
    | _=>ad 334
  | _=>ad 335
def iQ (P:Program) (t:TypeId) (m key x:AV) (M:St) (K:St→Prop):Prop :=
  match P.underlying t with
  | some (.map kt _)=>match m with
    | .mp id=>match M.o[id]? with
      | some (.own (some ks) sz cells hole)=>bO (p9 x) (gM P kt key (kp ks) fun kv r=>bO (wR P kt kv) (match r with
          | some i=>bO (Instr.sameBits 10000 ((ks[i]?.bind rL).getD (.bool false)) kv&&mo hole i) (bk (M.o.set id (.own (some (ks.set i key)) sz cells (some (i,x)))) fun o=>K { t:=M.t,l:=M.l,o:=o,b:=M.b })
          | none=>match hole with
            | none=>bk (M.o.set id (.own (some (ks++[key])) sz (cells++[none]) (some (cells.length,x)))) fun o=>K { t:=M.t,l:=M.l,o:=o,b:=M.b }
            | some _=>ad 339))
      | _=>ad 340
    | _=>ad 341
  | _=>ad 342
def iE (M:St) (p:AV) (k:Nat→Nat→Prop):Prop :=
  match p with
  | .ptr (.O id) i 0=>match M.o[id]? with
    | some (.own none _ _ _)=>k id i
    | _=>ad 331
  | _=>ad 332
def kh (P:Program) (pl:bV) (o:Oper) (vs:List AV) (M:St) (k:AV→St→Prop):Prop :=
  match o.op,vs with
  | .load t _,[p]=>iE M p fun id i=>h_ P t (Ba pl o) M id i k
  | .store t _ _,[p,v]=>iE M p fun id i=>fR P t M id i v fun M'=>k .bad M'
  | .makeSlice t _ _,[l,c]=>gh P (Bb pl.ix o.dst M.o.length) t l c M k
  | .makeMap t none,[]=>fF P t M k
  | .lookup t _ _ ok,[m,key]=>ia P t m key ok M k
  | .mapUpdate t _ _ _,[m,key,x]=>iQ P t m key x M fun M'=>k .bad M'
  | .insert t _ _ _,[m,key,x]=>iQ P t m key x M fun M'=>k .bad M'
  | _,_=>ad 330
def wS (C:Ctx) (pl:bV) (o:Oper) (S:St) (K:St→Prop):Prop :=
  dK S o.op.operands.toList fun vs=>kh C.P pl o vs (da S) fun r M=>bN o.dst r (e_ S M) K
def C7 (x:Operand):Bool :=
  match x with
  | .const (.slice none 0 0)=>true
  | _=>false
def C8 (o:Oper):Nat :=
  match o.op with
  | .binOp _ _ _ y _=>match C7 y with | true=>1 | false=>0
  | .move _ | .assign _ | .pick _ _ _ | .build _ _ | .nilCheck _ | .unOp _ _ _ | .makeFunc _ _ _ | .fieldAddr _ _ _ | .field _ _ _ | .index _ _ _ | .extract _ _=>0
  | .load _ _ | .convert _ _ _ | .slice _ _ _ _ _ | .indexAddr _ _ _ | .lookup _ _ _ _=>1
  | .store _ _ _=>2
  | .call c=>match c.callee with
    | .builtin .min | .builtin .max | .builtin .cap=>0
    | .builtin .len=>1
    | _=>3
  | _=>3
def vC (pl:bV) (o:Oper):Nat :=
  match o.op with
  | .buildSlice _ _ _=>match ep pl.ms (o.dst.getD 0) with | true=>3 | false=>0
  | .alloc _=>4
  | .makeSlice _ _ _=>2
  | .call c=>match c.callee with
    | .value (.func f)=>match ep pl.dc f with | true=>2 | false=>match ep pl.st f with | true=>3 | false=>1
    | .value _=>1
    | .builtin .append=>match ep pl.fz (o.dst.getD 0) with | true=>5 | false=>3
    | _=>C8 o
  | _=>C8 o
def fp (pl:bV) (o:Oper):Nat :=
  match fE pl o with
  | true=>2
  | false=>vC pl o
def yh (pl:bV) (o:Oper):Bool :=
  match o.op with
  | .alloc _=>true
  | .box _ _=>!(ep pl.esc (o.dst.getD 0))
  | _=>false
def BV (C:Ctx) (pl:bV) (o:Oper) (S:St) (K:St→Prop):Prop :=
  dK S o.op.operands.toList fun vs=>pop C pl o vs fun r=>bN o.dst r S K
def BW (C:Ctx) (o:Oper) (S:St) (K:St→Prop):Prop :=
  dK S o.op.operands.toList fun vs=>nt C o vs (da S) fun r=>bN o.dst r S K
def BX (C:Ctx) (o:Oper) (S:St) (K:St→Prop):Prop :=
  dK S o.op.operands.toList fun vs=>vB C o vs (da S) fun r M=>bN o.dst r (e_ S M) K
def BY (C:Ctx) (o:Oper) (S:St) (K:St→Prop):Prop :=
  dK S o.op.operands.toList fun vs=>Ga C o vs fun r=>bN o.dst r S K
def kq (C:Ctx) (o:Oper) (vs:List AV) (M:St) (k:AV→St→Prop):Prop :=
  match o.op,vs with
  | .makeSlice t _ _,[l,c]=>cj C.P t l c M fun M' r=>k r M'
  | .call c,.fn fid first cap::as=>match c.callee with
    | .value _=>bO (!(C.pure fid)&&(first++as++cap).all (rK 4)) (C.scall fid (first++as++cap) M.o fun r o'=>bO (cf M.o o' 0).isEmpty (k r { t:=M.t,l:=M.l,o:=o',b:=M.b }))
    | _=>ad 310
  | _,_=>vB C o vs M k
def lr (C:Ctx) (pl:bV) (o:Oper) (vs:List AV) (M:St) (k:AV→St→Prop):Prop :=
  match fE pl o with
  | true=>kh C.P pl o vs M k
  | false=>kq C o vs M k
def nz (C:Ctx) (pl:bV) (o:Oper) (S:St) (K:St→Prop):Prop :=
  dK S o.op.operands.toList fun vs=>lr C pl o vs (da S) fun r M=>bN o.dst r (e_ S M) K
def uU (C:Ctx) (pl:bV) (o:Oper) (S:St) (K:St→Prop):Prop :=
  match o.op with
  | .alloc e=>cO C.P e fun cs=>yg pl o.dst cs S K
  | .box _ x=>cY S x fun a=>lm a fun cs=>yg pl o.dst cs S K
  | .buildSlice t len parts=>dK S (parts.toList.map (·.2)) fun vs=>bO (Nat.beq parts.size vs.length) (iX C.P pl o.dst t len ((parts.toList.map (·.1)).zip vs) S K)
  | .makeMap _ r=>match r with
    | none=>bk (S.o++[.mapo true []]) fun o'=>bN o.dst (.mp S.o.length) { t:=S.t,l:=S.l,o:=o',b:=S.b } K
    | some _=>ad 209
  | .makeSlice t l c=>cY S l fun l=>cY S c fun c=>cj C.P t l c S fun S' a=>bN o.dst a S' K
  | .mapUpdate t m key x=>cY S m fun m=>cY S key fun key=>cY S x fun x=>eA C.P t m key x S fun S'=>bN o.dst .bad S' K
  | .insert t m key x=>cY S m fun m=>cY S key fun key=>cY S x fun x=>eA C.P t m key x S fun S'=>bN o.dst .bad S' K
  | .call c=>match c.callee with
    | .builtin b=>match b with
      | .append=>dK S c.args.toList fun as=>match as with
        | [x,.v (.int _ n)]=>jQ C.P c.argTypes.toList x n S fun S' r=>bN o.dst r S' K
        | [x,y]=>ko C.P c.argTypes.toList x y S fun S' r=>bN o.dst r S' K
        | _=>ad 210
      | .copy=>dK S c.args.toList fun as=>match as with
        | [x,y]=>qJ C.P c.argTypes.toList x y S fun r S'=>bN o.dst r S' K
        | _=>ad 211
      | .clear=>dK S c.args.toList fun as=>match as with
        | [x]=>p6 C.P c.argTypes.toList x S fun S'=>bN o.dst (.tup []) S' K
        | _=>ad 272
      | _=>ad 212
    | .value f=>cY S f fun fv=>dK S c.args.toList fun as=>vz C fv as S fun S' r=>bN o.dst r S' K
    | .invoke _ _=>ad 213
  | _=>ad 214
def uS (C:Ctx) (pl:bV) (o:Oper) (S:St) (K:St→Prop):Prop :=
  match fp pl o with
  | 0=>BV C pl o S K
  | 1=>BW C o S K
  | 2=>nz C pl o S K
  | 4=>match o.dst with
    | some d=>bN o.dst (.ptr (.L d) 0 0) S K
    | none=>ad 217
  | 5=>BY C o S K
  | _=>match yh pl o with
    | true=>ad 219
    | false=>uU C pl o S K
def wT (C:Ctx) (pl:bV) (o:Oper) (S:St) (K:St→Prop):Prop :=
  match C8 o with
  | 0=>BV C pl o S K
  | 1=>BW C o S K
  | 2=>BX C o S K
  | _=>uU C pl o S K
def C9 (C:Ctx) (pl:bV) (o:Oper) (S:St) (K:St→Prop):Prop :=
  match fE pl o with
  | true=>wS C pl o S K
  | false=>wT C pl o S K
def wU:List Oper→Nat→Option Nat
  | [],_=>none
  | o::os,t =>
    match o.dst,o.op with
    | some d,.fieldAddr _ (.tmp t') _=>match Nat.beq d t with | true=>some t' | false=>wU os t
    | some d,.indexAddr _ (.tmp t') _=>match Nat.beq d t with | true=>some t' | false=>wU os t
    | _,_=>wU os t
def C_ (all:List Oper):Nat→Nat→Nat
  | 0,t=>t
  | n + 1,t=>match wU all t with
    | some t'=>C_ all n t'
    | none=>t
def fq (pl:bV) (all:Array Oper) (o:Oper):Option Nat :=
  match addrOf o with
  | some t=>match ep pl.bx (C_ all.toList 6 t) with
    | true=>some (C_ all.toList 6 t)
    | false=>none
  | none=>none
def mq (a:AV) (site:Option Nat):Bool :=
  match a,site with
  | .ptr (.L d) _ _,some r=>Nat.beq d r
  | .ptr (.O _) _ _,none=>true
  | .fptr _ _,none=>true
  | _,_=>false
def iF (pl:bV) (all:Array Oper) (o:Oper) (S:St):Bool :=
  match addrOf o with
  | some t=>match S.t[t]? with
    | some a=>mq a (fq pl all o)
    | none=>false
  | none=>true
def o6 (all:Array Oper) (j:Nat):Option Nat:=(all[j]?).bind (·.dst)
def fS (d:Nat) (S:St) (k:Option Bool→St→Prop):Prop :=
  nS S.t d fun a =>
    match a with
    | .v (.bool b)=>ye b (p5 S.t d (.v (.bool true)) fun t=>k (some true) { t:=t,l:=S.l,o:=S.o,b:=S.b }) (p5 S.t d (.v (.bool false)) fun t=>k (some false) { t:=t,l:=S.l,o:=S.o,b:=S.b })
    | .tup []=>k none S
    | _=>ad 4
def gsel (b:Option Bool) (want:Bool) (X Y:Prop):Prop :=
  match b,want with
  | some true,true=>X
  | some false,false=>X
  | _,_=>Y
def p_ (C:Ctx) (pl:bV) (all:Array Oper):List Oper→St→(St→Prop)→Prop
  | [],S,K=>K S
  | o::rest,S,K =>
    match o.guard with
    | none=>C9 C pl o S fun S'=>p_ C pl all rest S' K
    | some (j,want) =>
      match o6 all j with
      | none=>ad 218
      | some d=>fS d S fun b S1=>gsel b want (C9 C pl o S1 fun S'=>p_ C pl all rest S' K) (bN o.dst (.tup []) S1 fun S'=>p_ C pl all rest S' K)
def nV (C:Ctx) (pl:bV) (all:Array Oper) (o:Oper) (S:St) (K:St→Prop):Prop:=bO (iF pl all o S) (uS C pl o S K)
def ag (C:Ctx) (pl:bV) (all:Array Oper) (o:Oper) (S:St) (K:St→Prop):Prop :=
  match o.guard with
  | none=>nV C pl all o S K
  | some (j,want) =>
    match o6 all j with
    | none=>ad 218
    | some d=>fS d S fun b S1=>gsel b want (nV C pl all o S1 K) (bN o.dst (.tup []) S1 K)
def iG (pl:bV) (ops:Array Oper) (x y:Oper):Bool :=
  match fq pl ops x,fq pl ops y with
  | some a,some b=>!(Nat.beq a b)
  | some _,none=>true
  | none,some _=>true
  | none,none=>false
def sq (pl:bV) (ops:Array Oper) (x y:Oper):Bool :=
  Oper.apart ops x y&&(match fp pl x,fp pl y with
    | 2,0 | 0,2 | 0,0 | 0,1 | 1,0 | 1,1 | 4,0 | 4,1 | 4,2 | 4,4 | 0,4 | 1,4 | 2,4 | 5,0 | 5,1 | 5,2 | 5,4 | 5,5 | 0,5 | 1,5 | 2,5 | 4,5=>true
    | 1,2 | 2,1=>iG pl ops x y
    | _,_=>false)
def cg:List Oper→List Nat→List Nat
  | [],acc=>acc
  | o::os,acc=>cg os (acc++[o.after.toList.foldl (fun s e=>match Region.binds .any e with | true=>Nat.lor s (Nat.lor (Nat.pow 2 e.on) (acc.getD e.on 0)) | false=>s) 0])
def Bc (pl:bV) (ops:Array Oper) (ws:List Nat) (listed:Array Bool) (i:Nat):Bool :=
  match ops[i]? with
  | none=>false
  | some oi=>(List.range ops.size).all fun j =>
    Nat.beq j i||listed.getD j true ||
      (match ops[j]? with
       | none=>true
       | some oj=>Nat.testBit (ws.getD j 0) i||sq pl ops oi oj)
def z6 (n:Nat):Bool :=
  match n with
  | 0 | 1 | 2 | 4 | 5=>true
  | _=>false
def mr (pl:bV) (ops:Array Oper) (ws:List Nat) (listed:Array Bool):List Nat→Option Nat
  | []=>none
  | i::is=>match (match ops[i]? with | some o=>z6 (fp pl o) | none=>false)&&Bc pl ops ws listed i with
    | true=>some i
    | false=>mr pl ops ws listed is
def Iq:Value→Value→Bool
  | .bool a,.bool b=>a==b
  | .int k a,.int l b=>decide (k=l)&&(a==b)
  | .string a,.string b=>a.data.toList==b.data.toList
  | _,_=>false
def Ir:Key→Key→Bool
  | .L a,.L b=>Nat.beq a b
  | .O a,.O b=>Nat.beq a b
  | _,_=>false
def yi {α:Type} (f:α→α→Bool):List α→List α→Bool
  | [],[]=>true
  | x::xs,y::ys=>f x y&&yi f xs ys
  | _,_=>false
def BZ:Nat→AV→AV→Bool
  | 0,_,_=>false
  | n + 1,x,y =>
    match x,y with
    | .bad,.bad=>true
    | .v a,.v b=>Iq a b
    | .nilp,.nilp=>true
    | .ptr k i j,.ptr k' i' j'=>Ir k k'&&Nat.beq i i'&&Nat.beq j j'
    | .fptr r j,.fptr r' j'=>yi (BZ n) r r'&&Nat.beq j j'
    | .nilsl,.nilsl=>true
    | .esl,.esl=>true
    | .sl r,.sl r'=>yi (yi (BZ n)) r r'
    | .mf i,.mf j=>Nat.beq i j
    | .msl a b c d,.msl a' b' c' d'=>Nat.beq a a'&&Nat.beq b b'&&Nat.beq c c'&&Nat.beq d d'
    | .nilmap,.nilmap=>true
    | .mp i,.mp j=>Nat.beq i j
    | .nilfn,.nilfn=>true
    | .fn f x y,.fn f' x' y'=>Nat.beq f f'&&yi (BZ n) x x'&&yi (BZ n) y y'
    | .agg c,.agg d=>yi (BZ n) c d
    | .tup c,.tup d=>yi (BZ n) c d
    | _,_=>false
def Gb:Ob→Ob→Bool
  | .arr a s r,.arr b s' r'=>(a==b)&&Nat.beq s s'&&yi (yi (BZ 8)) r r'
  | .mapo a e,.mapo b e'=>(a==b)&&yi (fun x y=>BZ 8 x.1 y.1&&BZ 8 x.2 y.2) e e'
  | .dead,.dead=>true
  | _,_=>false
def Gc (S S':St):Bool :=
  yi (BZ 8) S.t S'.t&&yi (fun x y=>Nat.beq x.1 y.1&&yi (BZ 8) x.2 y.2) S.l S'.l&&yi Gb S.o S'.o&&Nat.beq S.b S'.b
def vD (C:Ctx) (pl:bV) (ops:Array Oper) (i:Nat) (S:St) (K:St→Prop):Prop :=
  match ops[i]? with
  | none=>ad 303
  | some o=>ag C pl ops o S K
def qK (S2 S1:St) (X:Prop):Prop :=
  match Gc S2 S1 with
  | true=>X
  | false=>S2=S1∧X
def z7 (go:Nat→(St→Prop)→Prop):List Nat→St→Prop→Prop
  | [],_,X=>X
  | i::is,S1,X=>go i fun S2=>qK S2 S1 (z7 go is S1 X)
def i8 (C:Ctx) (pl:bV) (ops:Array Oper) (ws:List Nat):Nat→Array Bool→St→(St→Prop)→Prop
  | 0,listed,S,K=>match Region.ready .any ops listed with
    | []=>K S
    | _::_=>ad 304
  | n + 1,listed,S,K =>
    match Region.ready .any ops listed with
    | []=>K S
    | r::rs =>
      match mr pl ops ws listed (r::rs) with
      | some k=>vD C pl ops k S fun S'=>i8 C pl ops ws n (listed.setIfInBounds k true) S' K
      | none=>vD C pl ops r S fun S'=>i8 C pl ops ws n (listed.setIfInBounds r true) S' fun S1 =>
          z7 (fun i K'=>vD C pl ops i S fun S'=>i8 C pl ops ws n (listed.setIfInBounds i true) S' K') rs S1 (K S1)
def qa (o:Oper):Bool :=
  match o.guard with
  | some _=>false
  | none=>match o.op with
    | .move _ | .assign _ | .nilCheck _ | .fieldAddr _ _ _=>true
    | _=>false
def mw (ops:Array Oper) (listed:Array Bool):List Nat→Option Nat
  | []=>none
  | i::is=>match (match ops[i]? with | some o=>qa o | none=>false)&&Region.free .any ops listed i with
    | true=>some i
    | false=>mw ops listed is
def rv (C:Ctx) (pl:bV) (ops:Array Oper) (ws:List Nat):Nat→Array Bool→St→(St→Prop)→Prop
  | 0,listed,S,K=>i8 C pl ops ws 0 listed S K
  | n + 1,listed,S,K=>match mw ops listed (Region.ready .any ops listed) with
    | some i=>vD C pl ops i S fun S'=>rv C pl ops ws n (listed.setIfInBounds i true) S' K
    | none=>i8 C pl ops ws (n + 1) listed S K
def Ia (ops:Array Oper):Bool:=Region.noSelect ops&&ops.toList.all fun o=>match o.op with | .defer _=>false | _=>true
def uV (C:Ctx) (pl:bV) (ops:Array Oper) (S:St) (K:St→Prop):Prop :=
  bO (Ia ops) (match pl.cl with
    | []=>i8 C pl ops (cg ops.toList []) ops.size (Array.replicate ops.size false) S K
    | _::_=>rv C pl ops (cg ops.toList []) ops.size (Array.replicate ops.size false) S K)
def cy:List Oper→List (Nat×TypeId)
  | []=>[]
  | o::os=>match o.op,o.dst with
    | .alloc e,some d=>(d,e)::cy os
    | _,_=>cy os
def jz (pl:bV):List (Nat×TypeId)→Bool
  | []=>true
  | (d,_)::xs=>!(ep pl.esc d)&&!(ep (xs.map (·.1)) d)&&jz pl xs
def rM:List Oper→Bool
  | []=>true
  | o::os=>(match o.op,o.guard with | .alloc _,some _=>false | _,_=>true)&&rM os
def qL (pl:bV) (ops:Array Oper):Bool:=jz pl (cy ops.toList)&&rM ops.toList
def wV (P:Program):List (Nat×TypeId)→St→(St→Prop)→Prop
  | [],S,K=>K S
  | (d,e)::xs,S,K=>cO P e fun cs=>bO (Nat.blt 0 cs.length) (wV P xs { t:=S.t,l:=(d,cs)::S.l,o:=S.o,b:=S.b } K)
def uW (P:Program) (xs:List (Nat×TypeId)) (S:St) (K:St→Prop):Prop :=
  ln (xs.map (·.1)) S fun S'=>wV P xs S' K
def jT:List (Nat×TypeId)→St→Prop→Prop
  | [],_,X=>X
  | (d,_)::xs,S,X=>nS S.t d fun a=>match a with
    | .ptr (.L d') _ _=>bO (Nat.beq d' d) (jT xs S X)
    | _=>ad 302
def gi (C:Ctx) (pl:bV):Code→St→(Ex→St→Prop)→Prop
  | .skip,S,K=>K .nrm S
  | .region id ops draw,S,K =>
    match draw with
    | false=>p_ C pl ops ops.toList S fun S'=>jp pl id S' fun S''=>K .nrm S''
    | true=>bO (qL pl ops) (uW C.P (cy ops.toList) S fun S1=>uV C pl ops S1 fun S'=>jT (cy ops.toList) S' (jp pl id S' fun S''=>K .nrm S''))
  | .seq a b,S,K=>gi C pl a S fun e S'=>match e with
    | .nrm=>gi C pl b S' K
    | .ex i=>K (.ex i) S'
    | .ret=>K .ret S'
  | .cond c x y,S,K=>mh c S fun b S'=>match b with
    | true=>gi C pl x S' K
    | false=>gi C pl y S' K
  | .block id c,S,K=>gi C pl c S fun e S'=>match e with
    | .ex i=>match Nat.beq i id with | true=>K .nrm S' | false=>K (.ex i) S'
    | .nrm=>K .nrm S'
    | .ret=>K .ret S'
  | .loop c,S,K=>C.loop pl c S K
  | .exit id,S,K=>K (.ex id) S
  | .ret,S,K=>K .ret S
  | _,_,_=>ad 119
def uX (P:Program) (S:St):List ResultVar→(List AV→Prop)→Prop
  | [],k=>k []
  | .tmp t::rs,k=>nS S.t t fun a=>uX P S rs fun as=>k (a::as)
  | .cell a t::rs,k=>nS S.t a fun p=>CZ S p fun row j=>hP P t row j fun x=>uX P S rs fun as=>k (x::as)
def yj (as:List AV) (k:AV→Prop):Prop :=
  match as with
  | [a]=>k a
  | as=>k (.tup as)
def bads:Nat→List AV
  | 0=>[]
  | n + 1=>.bad::bads n
def sr (C:Ctx) (k:Ctx→Prop):Prop :=
  match C with
  | ⟨a,b,c,d,e,f⟩=>k ⟨a,b,c,d,e,f⟩
def z8 (p:bV) (k:bV→Prop):Prop :=
  match p with
  | ⟨a,b,c,d,e,f,g,h,i,j,l⟩=>k ⟨a,b,c,d,e,f,g,h,i,j,l⟩
def su (C:Ctx) (f:Nat) (args:List AV) (o:List Ob) (K:AV→St→Prop):Prop :=
  match C.P.funcs[f]? with
  | some fn=>match fn.body with
    | some c=>z8 (C.pol f) fun pl=>gi C pl c { t:=args++bads (fn.ntmps - args.length),l:=[],o:=o,b:=o.length } fun e S =>
        match e with
        | .ex _=>ad 120
        | _=>uX C.P S fn.results.toList fun rs=>yj rs fun r=>K r S
    | none=>ad 121
  | none=>ad 122
def qM (C:Ctx) (f:Nat) (args:List AV) (o:List Ob) (K:AV→St→Prop):Prop:=sr C fun C=>su C f args o K
def qN (C:Ctx) (f:Nat) (args:List AV) (K:AV→Prop):Prop :=
  qM C f args [] fun r S=>wQ S.o r K
def mz (C:Ctx) (f:Nat) (args:List AV) (o:List Ob) (K:AV→List Ob→Prop):Prop :=
  qM C f args o fun r S=>bO (rK 4 r&&Nat.beq S.b o.length) (K r S.o)
structure nW where
  P:Program
  pure:Nat→Bool
  pol:Nat→bV
  xs:Nat→Bool:=fun _=>false
  xc:Nat→List AV→List Ob→(AV→List Ob→Prop)→Prop:=fun _ _ _ _=>False
  xq:Nat→List AV→Option AV:=fun _ _=>none
def fG (G:nW):Nat→Ctx
  | 0=>{ P:=G.P,pure:=G.pure,pol:=G.pol,pcall:=fun _ _ _=>ad 123,scall:=fun _ _ _ _=>ad 124,loop:=fun _ _ _ _=>ad 125 }
  | n + 1=>{ P:=G.P,pure:=G.pure,pol:=G.pol,pcall:=fun f args K=>match G.xq f args with | some r=>K r | none=>qN (fG G n) f args K,scall:=fun f args o K=>match G.xs f with | true=>G.xc f args o K | false=>mz (fG G n) f args o K,loop:=fun pl c S K=>sr (fG G n) fun C=>gi C pl c S fun e S'=>match e with
                 | .nrm=>C.loop pl c S' K
                 | .ex i=>K (.ex i) S'
                 | .ret=>K .ret S' }
inductive MV where
  | blk (b o sz n:Nat)
  | virt
structure Env where
  F:Nat→Prop
  mu:Key→Option MV
  h:Array Obj
def Env.fz (E:Env):Env:=⟨E.F,fun _=>none,E.h⟩
def vE (mu:Key→Option MV):Key→Option MV
  | .L _=>none
  | .O i=>mu (.O i)
  | .S id i=>mu (.S id i)
def Env.ob (E:Env):Env:=⟨E.F,vE E.mu,E.h⟩
def dZ (h:Array Obj) (b i:Nat):Option Value :=
  match h[b]? with
  | some (.cells c _ _)=>c[i]?
  | _=>none
def bc (h:Array Obj) (b:Nat):Nat :=
  match h[b]? with
  | some (.cells c _ _)=>c.size
  | _=>0
def plain:Value→Bool
  | .bool _ | .int _ _ | .float _ _ | .complex _ _ _ | .string _=>true
  | _=>false
inductive VR:Env→AV→Value→Prop where
  | bad (E:Env) (u:Value):VR E .bad u
  | v (E:Env) (x:Value):plain x=true→VR E (.v x) x
  | nilp (E:Env):VR E .nilp (.pointer none)
  | ptr {E:Env} {k:Key} {b o sz n:Nat} (i j:Nat) (hs:k.isS=false):E.mu k=some (.blk b o sz n)→VR E (.ptr k i j) (.pointer (some ⟨b,o + i * sz + j,none⟩))
  | fptr {E:Env} {row:List AV} {b o:Nat} (j:Nat) (us:List Value):us.length=row.length→(∀ (m:Nat) (c:AV) (u:Value),row[m]?=some c→us[m]?=some u→VR E.fz c u) →
      E.F b→(∀ (m:Nat) (u:Value),us[m]?=some u→dZ E.h b (o + m)=some u)→VR E (.fptr row j) (.pointer (some ⟨b,o + j,none⟩))
  | nilsl (E:Env):VR E .nilsl (.slice none 0 0)
  | esln (E:Env):VR E .esl (.slice none 0 0)
  | esl (E:Env) (a:Addr):VR E .esl (.slice (some a) 0 0)
  | sln (E:Env):VR E (.sl []) (.slice none 0 0)
  | sle (E:Env) (a:Addr) (cap:Nat):VR E (.sl []) (.slice (some a) 0 cap)
  | sl {E:Env} {rows:List (List AV)} {sz b o cap:Nat} (us:List Value):0<sz→(∀ r∈rows,r.length=sz)→us.length=rows.flatten.length →
      (∀ (m:Nat) (c:AV) (u:Value),rows.flatten[m]?=some c→us[m]?=some u→VR E.fz c u)→E.F b→(∀ (m:Nat) (u:Value),us[m]?=some u→dZ E.h b (o + m)=some u) →
      rows.length≤cap→VR E (.sl rows) (.slice (some ⟨b,o,none⟩) rows.length cap)
  | mfn {E:Env} {id:Nat}:E.mu (.O id)=some .virt→VR E (.mf id) (.slice none 0 0)
  | mfe {E:Env} {id:Nat} (a:Addr):E.mu (.O id)=some .virt→VR E (.mf id) (.slice (some a) 0 0)
  | mf {E:Env} {id b o sz n:Nat} (cap:Nat):E.mu (.O id)=some (.blk b o sz n)→n≤cap→o + cap * sz≤bc E.h b→VR E (.mf id) (.slice (some ⟨b,o,none⟩) n cap)
  | msle {E:Env} {id:Nat} {x:MV} (off:Nat) (a:Option Addr):E.mu (.O id)=some x→VR E (.msl id off 0 0) (.slice a 0 0)
  | msl {E:Env} {id b o sz n:Nat} (off len ext cap:Nat):E.mu (.O id)=some (.blk b o sz n)→off + len + ext≤n→len + ext≤cap→o + (off + cap) * sz≤bc E.h b →
      VR E (.msl id off len ext) (.slice (some ⟨b,o + off * sz,none⟩) len cap)
  | bsl {E:Env} {k:Key} {b o sz n:Nat} (off len cap:Nat) (hs:k.isS=false):E.mu k=some (.blk b o sz n)→len≤cap→VR E (.bsl k off len) (.slice (some ⟨b,o + off,none⟩) len cap)
  | nilmap (E:Env):VR E .nilmap (.map none)
  | mp {E:Env} {id b o sz n:Nat}:E.mu (.O id)=some (.blk b o sz n)→VR E (.mp id) (.map (some b))
  | nilfn (E:Env):VR E .nilfn .nilFunc
  | fn {E:Env} {f:Nat} {xs ys:List AV} (us ws:Array Value):xs.length=us.size→(∀ (m:Nat) (c:AV) (u:Value),xs[m]?=some c→us[m]?=some u→VR E c u) →
      ys.length=ws.size→(∀ (m:Nat) (c:AV) (u:Value),ys[m]?=some c→ws[m]?=some u→VR E c u)→VR E (.fn f xs ys) (.func (.func f) us ws)
  | agg {E:Env} {cs:List AV} (us:Array Value):cs.length=us.size→(∀ (m:Nat) (c:AV) (u:Value),cs[m]?=some c→us[m]?=some u→VR E c u)→VR E (.agg cs) (.agg us)
  | tup {E:Env} {cs:List AV} (us:Array Value):cs.length=us.size→(∀ (m:Nat) (c:AV) (u:Value),cs[m]?=some c→us[m]?=some u→VR E c u)→VR E (.tup cs) (.tuple us)
structure LE (E E':Env):Prop where
  F:∀ b,E.F b→E'.F b
  mu:∀ k x,k.isS=false→E.mu k=some x→E'.mu k=some x
  hF:∀ b,E.F b→E'.h[b]?=E.h[b]?
  sz:∀ k b o s n,k.isS=false→E.mu k=some (.blk b o s n)→bc E'.h b=bc E.h b
theorem LE.refl (E:Env):LE E E:=⟨fun _ h=>h,fun _ _ _ h=>h,fun _ _=>rfl,fun _ _ _ _ _ _ _=>rfl⟩
theorem LE.trans {E E' E'':Env} (h:LE E E') (k:LE E' E''):LE E E'' :=
  ⟨fun b hb=>k.F b (h.F b hb),fun x y hs hx=>k.mu x y hs (h.mu x y hs hx),fun b hb=>(k.hF b (h.F b hb)).trans (h.hF b hb),
   fun x b o s n hs hx=>(k.sz x b o s n hs (h.mu _ _ hs hx)).trans (h.sz x b o s n hs hx)⟩
theorem LE.fz {E E':Env} (h:LE E E'):LE E.fz E'.fz:=⟨h.F,fun _ _ _ hx=>(by cases hx),h.hF,fun _ _ _ _ _ _ hx=>(by cases hx)⟩
theorem eB {mu:Key→Option MV} {k:Key} {x:MV} (h:vE mu k=some x):mu k=some x:=by
  cases k with
  | L d=>cases h
  | O i=>exact h
  | S id i=>exact h
theorem LE.ob {E E':Env} (h:LE E E'):LE E.ob E'.ob :=
  ⟨h.F,fun k x hs hx=>(by
    cases k with
    | L d=>cases hx
    | O i=>exact h.mu _ _ hs hx
    | S id i=>cases hs),h.hF,fun k b o s n hs hx=>h.sz k b o s n hs (eB hx)⟩
theorem mB {h h':Array Obj} {b:Nat} (e:h'[b]?=h[b]?) (i:Nat):dZ h' b i=dZ h b i:=by
  unfold dZ; rw [e]
theorem VR.mono {E:Env} {a:AV} {u:Value} (hv:VR E a u):∀ {E':Env},LE E E'→VR E' a u:=by
  induction hv with
  | bad E u=>intro E' _; exact .bad _ _
  | v E x hx=>intro E' _; exact .v _ _ hx
  | nilp E=>intro E' _; exact .nilp _
  | ptr i j hs hm=>intro E' h; exact .ptr i j hs (h.mu _ _ hs hm)
  | fptr j us hl hc hF hcell ih=>intro E' h; exact .fptr j us hl (fun m c u h1 h2=>ih m c u h1 h2 h.fz) (h.F _ hF) (fun m u hu=>(mB (h.hF _ hF) _).trans (hcell m u hu))
  | nilsl E=>intro E' _; exact .nilsl _
  | esln E=>intro E' _; exact .esln _
  | esl E a=>intro E' _; exact .esl _ a
  | sln E=>intro E' _; exact .sln _
  | sle E a cap=>intro E' _; exact .sle _ a cap
  | sl us hsz hr hl hc hF hcell hcap ih=>intro E' h; exact .sl us hsz hr hl (fun m c u h1 h2=>ih m c u h1 h2 h.fz) (h.F _ hF) (fun m u hu=>(mB (h.hF _ hF) _).trans (hcell m u hu)) hcap
  | mfn hm=>intro E' h; exact .mfn (h.mu _ _ rfl hm)
  | mfe a hm=>intro E' h; exact .mfe a (h.mu _ _ rfl hm)
  | mf cap hm hn hc=>intro E' h; exact .mf cap (h.mu _ _ rfl hm) hn (by rw [h.sz _ _ _ _ _ rfl hm]; exact hc)
  | msle off a hm=>intro E' h; exact .msle off a (h.mu _ _ rfl hm)
  | msl off len ext cap hm h1 h2 h3=>intro E' h; exact .msl off len ext cap (h.mu _ _ rfl hm) h1 h2 (by rw [h.sz _ _ _ _ _ rfl hm]; exact h3)
  | bsl off len cap hs hm h1=>intro E' h; exact .bsl off len cap hs (h.mu _ _ hs hm) h1
  | nilmap E=>intro E' _; exact .nilmap _
  | mp hm=>intro E' h; exact .mp (h.mu _ _ rfl hm)
  | nilfn E=>intro E' _; exact .nilfn _
  | fn us ws h1 h2 h3 h4 ih1 ih2=>intro E' h; exact .fn us ws h1 (fun m c u hc hu=>ih1 m c u hc hu h) h3 (fun m c u hc hu=>ih2 m c u hc hu h)
  | agg us h1 h2 ih=>intro E' h; exact .agg us h1 (fun m c u hc hu=>ih m c u hc hu h)
  | tup us h1 h2 ih=>intro E' h; exact .tup us h1 (fun m c u hc hu=>ih m c u hc hu h)
theorem VR.of_fz {E:Env} {a:AV} {u:Value} (hv:VR E.fz a u):VR E a u :=
  hv.mono ⟨fun _ h=>h,fun _ _ _ h=>(by cases h),fun _ _=>rfl,fun _ _ _ _ _ _ h=>(by cases h)⟩
theorem VR.of_ob {E:Env} {a:AV} {u:Value} (hv:VR E.ob a u):VR E a u :=
  hv.mono ⟨fun _ h=>h,fun _ _ _ h=>eB h,fun _ _=>rfl,fun _ _ _ _ _ _ _=>rfl⟩
theorem VR.fz_ob {E:Env} {a:AV} {u:Value} (hv:VR E.fz a u):VR E.ob a u :=
  hv.mono ⟨fun _ h=>h,fun _ _ _ h=>(by cases h),fun _ _=>rfl,fun _ _ _ _ _ _ h=>(by cases h)⟩
def cq (E:Env) (cs:List AV) (us:List Value):Prop :=
  cs.length=us.length∧∀ (m:Nat) (c:AV) (u:Value),cs[m]?=some c→us[m]?=some u→VR E c u
theorem cq.mono {E E':Env} {cs:List AV} {us:List Value} (h:cq E cs us) (hl:LE E E'):cq E' cs us:=⟨h.1,fun m c u h1 h2=>(h.2 m c u h1 h2).mono hl⟩
theorem cq.nil (E:Env):cq E [] []:=⟨rfl,fun m c u h=>(by simp at h)⟩
theorem cq.cons {E:Env} {c:AV} {u:Value} {cs:List AV} {us:List Value} (h:VR E c u) (hs:cq E cs us):cq E (c::cs) (u::us) :=
  ⟨by simp [hs.1],fun m c' u' h1 h2=>by
    cases m with
    | zero=>simp at h1 h2; subst h1 h2; exact h
    | succ m=>exact hs.2 m c' u' (by simpa using h1) (by simpa using h2)⟩
theorem cq.uncons {E:Env} {c:AV} {cs:List AV} {vs:List Value} (h:cq E (c::cs) vs):∃ u us,vs=u::us∧VR E c u∧cq E cs us:=by
  cases vs with
  | nil=>exact absurd h.1 (by simp)
  | cons u us=>exact ⟨u,us,rfl,h.2 0 c u rfl rfl,by simpa using h.1,fun m c' u' h1 h2=>h.2 (m + 1) c' u' (by simpa using h1) (by simpa using h2)⟩
theorem cq.unnil {E:Env} {vs:List Value} (h:cq E [] vs):vs=[]:=List.eq_nil_of_length_eq_zero h.1.symm
theorem cq.get {E:Env} {cs:List AV} {us:List Value} (h:cq E cs us) {m:Nat} {c:AV} (hc:cs[m]?=some c):∃ u,us[m]?=some u∧VR E c u:=by
  have hm:m<us.length:=by rw [← h.1]; exact (List.getElem?_eq_some_iff.1 hc).1
  exact ⟨us[m],List.getElem?_eq_getElem hm,h.2 m c _ hc (List.getElem?_eq_getElem hm)⟩
theorem cq.append {E:Env} {cs ds:List AV} {us vs:List Value} (h:cq E cs us) (k:cq E ds vs):cq E (cs++ds) (us++vs):=by
  induction cs generalizing us with
  | nil=>rw [h.unnil]; exact k
  | cons c cs ih =>
    obtain ⟨u,us',rfl,hc,hs⟩:=h.uncons
    exact .cons hc (ih hs)
theorem cq.take {E:Env} {cs:List AV} {us:List Value} (h:cq E cs us) (n:Nat):cq E (cs.take n) (us.take n) :=
  ⟨by simp [h.1],fun m c u h1 h2=>by
    rw [List.getElem?_take] at h1 h2
    split at h1
    · rename_i hm; rw [if_pos hm] at h2; exact h.2 m c u h1 h2
    · cases h1⟩
theorem cq.drop {E:Env} {cs:List AV} {us:List Value} (h:cq E cs us) (n:Nat):cq E (cs.drop n) (us.drop n) :=
  ⟨by simp [h.1],fun m c u h1 h2=>by
    rw [List.getElem?_drop] at h1 h2
    exact h.2 _ c u h1 h2⟩
theorem cq.of_fz {E:Env} {cs:List AV} {us:List Value} (h:cq E.fz cs us):cq E cs us:=⟨h.1,fun m c u h1 h2=>(h.2 m c u h1 h2).of_fz⟩
theorem cq.of_ob {E:Env} {cs:List AV} {us:List Value} (h:cq E.ob cs us):cq E cs us:=⟨h.1,fun m c u h1 h2=>(h.2 m c u h1 h2).of_ob⟩
theorem cq.aggV {E:Env} {cs:List AV} {us:Array Value} (h:cq E cs us.toList):VR E (.agg cs) (.agg us) :=
  .agg us (by simpa using h.1) (fun m c u h1 h2=>h.2 m c u h1 (by simpa using h2))
theorem VR.aggI {E:Env} {cs:List AV} {u:Value} (h:VR E (.agg cs) u):∃ us:Array Value,u=.agg us∧cq E cs us.toList:=by
  cases h with
  | agg us h1 h2=>exact ⟨us,rfl,by simpa using h1,fun m c u hc hu=>h2 m c u hc (by simpa using hu)⟩
theorem VR.tupI {E:Env} {cs:List AV} {u:Value} (h:VR E (.tup cs) u):∃ us:Array Value,u=.tuple us∧cq E cs us.toList:=by
  cases h with
  | tup us h1 h2=>exact ⟨us,rfl,by simpa using h1,fun m c u hc hu=>h2 m c u hc (by simpa using hu)⟩
theorem VR.vI {E:Env} {x u:Value} (h:VR E (.v x) u):u=x∧plain x=true:=by
  cases h with
  | v _ _ hx=>exact ⟨rfl,hx⟩
def cz (E':Env) (h:Array Obj) (rows:List (List AV)) (b o sz:Nat):Prop :=
  0<sz∧(∀ r∈rows,r.length=sz)∧∃ (us:Array Value) (ty:TypeId),h[b]?=some (.cells us ty (0,0))∧o + rows.length * sz≤us.size ∧
    ∀ (m:Nat) (c:AV),rows.flatten[m]?=some c→∃ u,us[o + m]?=some u∧VR E' c u
def cC (E:Env) (fl:Bool):Env:=match fl with | true=>E.fz | false=>E.ob
def nX (ms:Array MapEntry) (clock:Nat):Prop:=(∀ x∈ms.toList,x.born<clock)∧(ms.toList.map (·.born)).Nodup
theorem nX.empty (clock:Nat):nX #[] clock:=⟨by simp,by simp⟩
theorem nX.push {ms:Array MapEntry} {clock:Nat} (h:nX ms clock) (key val:Value):nX (ms.push { key:=key,val:=val,born:=clock }) (clock + 1):=by
  obtain ⟨h1,h2⟩:=h
  refine ⟨fun x hx=>?_,?_⟩
  · simp only [Array.toList_push,List.mem_append,List.mem_singleton] at hx
    rcases hx with hx | rfl
    · exact Nat.lt_succ_of_lt (h1 x hx)
    · exact Nat.lt_succ_self _
  · simp only [Array.toList_push,List.map_append,List.map_cons,List.map_nil]
    refine List.nodup_append.2 ⟨h2,by simp,fun a ha b hb=>?_⟩
    simp only [List.mem_singleton] at hb
    subst hb
    obtain ⟨x,hx,rfl⟩:=List.mem_map.1 ha
    exact Nat.ne_of_lt (h1 x hx)
theorem nX.modify {ms:Array MapEntry} {clock:Nat} (h:nX ms clock) (i:Nat) (key val:Value):nX (ms.modify i fun e=>{ e with key:=key,val:=val }) clock:=by
  have hb:(ms.modify i fun e=>{ e with key:=key,val:=val }).toList.map (·.born)=ms.toList.map (·.born):=by
    apply List.ext_getElem?
    intro j
    simp only [List.getElem?_map,Array.getElem?_toList,Array.getElem?_modify]
    split
    · rename_i e
      subst e
      cases ms[i]? <;> rfl
    · rfl
  refine ⟨fun x hx=>?_,by rw [hb]; exact h.2⟩
  have:x.born∈(ms.modify i fun e=>{ e with key:=key,val:=val }).toList.map (·.born):=List.mem_map.2 ⟨x,hx,rfl⟩
  rw [hb] at this
  obtain ⟨y,hy,e⟩:=List.mem_map.1 this
  rw [← e]
  exact h.1 y hy
def Da (E:Env) (h:Array Obj) (fl:Bool) (es:List (AV×AV)) (b:Nat):Prop :=
  ∃ (ms:Array MapEntry) (clock:Nat),h[b]?=some (.map ms clock)∧(es.length=ms.size∧nX ms clock) ∧
    ∀ (i:Nat) (e:AV×AV) (m:MapEntry),es[i]?=some e→ms[i]?=some m→rL e.1=some m.key∧VR (cC E fl) e.2 m.val
def fb (E:Env) (x:Option Ob) (mv:Option MV):Prop :=
  match x,mv with
  | some (.arr _ _ rows),some .virt=>rows=[]
  | some (.arr fl sz rows),some (.blk b o s n)=>(s=sz∧n=rows.length)∧cz (cC E fl) E.h rows b o s
  | some (.mapo fl es),some (.blk b _ _ _)=>Da E E.h fl es b
  | some (.own ks _ cells _),some .virt=>ks=none∧cells=[]
  | some (.own ks _ cells _),some (.blk _ _ s n)=>ks=none→s=1∧n=cells.length
  | some .dead,none=>True
  | none,none=>True
  | _,_=>False
def gj (pend:Nat→Option (List AV)) (E:Env) (x:Option (List AV)) (d:Nat):Prop :=
  match x with
  | none=>E.mu (.L d)=none
  | some row=>(∃ b,E.mu (.L d)=some (.blk b 0 row.length 1)∧cz E E.h [row] b 0 row.length)∨(E.mu (.L d)=none∧pend d=some row∧∀ k,row.map (c_ 4 k)=row)
def cD (E:Env) (sz:Nat) (c:Option (List (List AV))) (mv:Option MV) (u:Value):Prop :=
  match c,mv with
  | none,none=>u=.slice none 0 0
  | some rows,some .virt=>rows=[]∧∃ a,u=.slice a 0 0
  | some rows,some (.blk b o s n)=>(s=sz∧n=rows.length)∧cz E.fz E.h rows b o s∧∃ cap,n≤cap∧o + cap * s≤bc E.h b∧u=.slice (some ⟨b,o,none⟩) n cap
  | _,_=>False
def FK (E:Env) (sz:Nat) (hole:Option (Nat×AV)) (i:Nat) (c:Option (List (List AV))) (mv:Option MV) (u:Value):Prop :=
  match hole with
  | some (j,a)=>if j=i then mv=none∧VR E.ob a u else cD E sz c mv u
  | none=>cD E sz c mv u
def gk (h:Array Obj) (b o i:Nat):Option Value :=
  match h[b]? with
  | some (.cells us _ _)=>us[o + i]?
  | some (.map ms _)=>(ms[i]?).map (·.val)
  | _=>none
def vG (h:Array Obj) (ks:Option (List AV)) (b o n:Nat):Prop :=
  match ks with
  | none=>∃ us ty,h[b]?=some (.cells us ty (0,0))∧o + n≤us.size
  | some ks=>∃ ms clock,h[b]?=some (.map ms clock)∧(n=ms.size∧n=ks.length∧nX ms clock)∧∀ (i:Nat) (k:AV) (m:MapEntry),ks[i]?=some k→ms[i]?=some m→rL k=some m.key
theorem vG.congr {h h':Array Obj} {ks:Option (List AV)} {b o n:Nat} (hb:vG h ks b o n) (e:h'[b]?=h[b]?):vG h' ks b o n:=by
  cases ks with
  | none =>
    obtain ⟨us,ty,h1,h2⟩:=hb
    exact ⟨us,ty,e.trans h1,h2⟩
  | some ks =>
    obtain ⟨ms,clock,h1,h2⟩:=hb
    exact ⟨ms,clock,e.trans h1,h2⟩
theorem yk {h h':Array Obj} {b:Nat} (e:h'[b]?=h[b]?) (o i:Nat):gk h' b o i=gk h b o i:=by
  unfold gk
  rw [e]
theorem yl {h:Array Obj} {b o n i:Nat} {u:Value} (hb:vG h none b o n) (hv:gk h b o i=some u):dZ h b (o + i)=some u:=by
  obtain ⟨us,ty,h1,_⟩:=hb
  unfold gk at hv
  unfold dZ
  rw [h1] at hv ⊢
  exact hv
def dQ (E:Env) (id:Nat) (x:Option Ob):Prop :=
  match x with
  | some (.own ks sz cells hole)=>0<sz∧(∀ i,cells.length≤i→E.mu (.S id i)=none) ∧
      ∀ b o s n,E.mu (.O id)=some (.blk b o s n)→vG E.h ks b o cells.length ∧
        ∀ i c,cells[i]?=some c→∃ u,gk E.h b o i=some u∧FK E sz hole i c (E.mu (.S id i)) u
  | _=>∀ i,E.mu (.S id i)=none
theorem cD.mono {E E':Env} {sz:Nat} {c:Option (List (List AV))} {mv:Option MV} {u:Value} (h:cD E sz c mv u) (hf:LE E.fz E'.fz) (hh:∀ b o s n,mv=some (.blk b o s n)→E'.h[b]?=E.h[b]?):cD E' sz c mv u:=by
  revert h
  cases c with
  | none =>
    cases mv with
    | none=>exact fun h=>h
    | some mv=>cases mv <;> exact fun h=>h.elim
  | some rows =>
    cases mv with
    | none=>exact fun h=>h.elim
    | some mv =>
      cases mv with
      | virt=>exact fun h=>h
      | blk b o s n =>
        rintro ⟨h0,⟨h1,h2,us,ty,h3,h4,h5⟩,cap,h6,h7,h8⟩
        have hb:=hh _ _ _ _ rfl
        refine ⟨h0,⟨h1,h2,us,ty,hb.trans h3,h4,fun m c hc=>?_⟩,cap,h6,?_,h8⟩
        · obtain ⟨u,hu,hv⟩:=h5 m c hc
          exact ⟨u,hu,hv.mono hf⟩
        · have:bc E'.h b=bc E.h b:=by unfold bc; rw [hb]
          rw [this]
          exact h7
theorem dQ.mono {E E':Env} {id:Nat} {x:Option Ob} (h:dQ E id x) (hO:E'.mu (.O id)=E.mu (.O id)) (hS:∀ i,E'.mu (.S id i)=E.mu (.S id i)) (hf:LE E.fz E'.fz) (hb:LE E.ob E'.ob)
    (hh:∀ k b o s n,(k=.O id∨∃ i,k=.S id i)→E.mu k=some (.blk b o s n)→E'.h[b]?=E.h[b]?):dQ E' id x:=by
  revert h
  unfold dQ
  split
  · rename_i ks sz cells hole
    rintro ⟨h1,h2,h3⟩
    refine ⟨h1,fun i hi=>(hS i).trans (h2 i hi),fun b o s n hm=>?_⟩
    rw [hO] at hm
    obtain ⟨h4,h6⟩:=h3 b o s n hm
    have hbb:=hh _ _ _ _ _ (.inl rfl) hm
    refine ⟨h4.congr hbb,fun i c hc=>?_⟩
    obtain ⟨u,hu,h7⟩:=h6 i c hc
    refine ⟨u,(yk hbb _ _).trans hu,?_⟩
    rw [hS i]
    have hcell:cD E sz c (E.mu (.S id i)) u→cD E' sz c (E.mu (.S id i)) u:=fun h=>h.mono hf fun b o s n e=>hh _ _ _ _ _ (.inr ⟨i,rfl⟩) e
    unfold FK at h7 ⊢
    split at h7
    · rename_i j a
      by_cases hj:j=i
      · rw [if_pos hj] at h7 ⊢
        exact ⟨h7.1,h7.2.mono hb⟩
      · rw [if_neg hj] at h7 ⊢
        exact hcell h7
    · exact hcell h7
  · exact fun h i=>(hS i).trans (h i)
theorem dQ.arr {E:Env} {id sz:Nat} {fl:Bool} {rows:List (List AV)}:dQ E id (some (.arr fl sz rows))↔∀ i,E.mu (.S id i)=none:=Iff.rfl
theorem dQ.mapo {E:Env} {id:Nat} {fl:Bool} {es:List (AV×AV)}:dQ E id (some (.mapo fl es))↔∀ i,E.mu (.S id i)=none:=Iff.rfl
def gC:Option Ob→Bool
  | some (.own _ _ _ _)=>false
  | _=>true
theorem dQ.not {E:Env} {id:Nat} {x:Option Ob} (h:gC x=true):dQ E id x↔∀ i,E.mu (.S id i)=none:=by
  unfold dQ
  split
  · cases h
  · exact Iff.rfl
structure Gh where
  w0:World
  M:Nat→Prop
  F:Nat→Prop
  mu:Nat→Option MV
structure ah (G:Gh) (pend:Nat→Option (List AV)) (E:Env) (S:St) (w:World):Prop where
  hp:E.h=w.heap
  os:w.os=G.w0.os
  tape:w.tape=G.w0.tape
  output:w.output=G.w0.output
  size:G.w0.heap.size≤w.heap.size
  keep:∀ b,b<G.w0.heap.size→¬ G.M b→w.heap[b]?=G.w0.heap[b]?
  F0:∀ b,G.F b→E.F b
  Flt:∀ b,E.F b→b<w.heap.size
  Fnew:∀ b,E.F b→b<G.w0.heap.size→G.F b∨G.M b
  own:∀ k b o s n,E.mu k=some (.blk b o s n)→¬ E.F b∧b<w.heap.size∧(G.M b∨G.w0.heap.size≤b)
  inj:∀ k k' b o s n o' s' n',E.mu k=some (.blk b o s n)→E.mu k'=some (.blk b o' s' n')→k=k'
  loc:∀ d,gj pend E (aG S.l d) d
  obj:∀ id,fb E S.o[id]? (E.mu (.O id))
  old:∀ id,id<S.b→S.o[id]?=some .dead∨E.mu (.O id)=G.mu id
  bl:S.b≤S.o.length
  szs:∀ b,b<G.w0.heap.size→bc w.heap b=bc G.w0.heap b
  pk:∀ d row,pend d=some row→E.mu (.L d)=none∧aG S.l d=some row
  ow:∀ id,dQ E id S.o[id]?
def sB (E:Env):Prop:=∀ g row,F_ g=some row→VR E.fz (.fptr row 0) (.pointer (some ⟨g,0,none⟩))∧dZ E.h g row.length=none
theorem wW {E E':Env} {row:List AV} {g:Nat} (h:VR E (.fptr row 0) (.pointer (some ⟨g,0,none⟩))∧dZ E.h g row.length=none) (hl:LE E E'):VR E' (.fptr row 0) (.pointer (some ⟨g,0,none⟩))∧dZ E'.h g row.length=none:=by
  refine ⟨h.1.mono hl,?_⟩
  obtain ⟨h1,h2⟩:=h
  cases h1 with
  | fptr j us _ _ hF _=>exact (mB (hl.hF _ hF) _).trans h2
theorem sB.mono {E E':Env} (h:sB E) (hl:LE E E'):sB E':=fun g row e=>wW (h g row e) hl.fz
theorem sB.up {E:Env} (h:sB E) {F':Nat→Prop} {mu':Key→Option MV} {h':Array Obj} (hF:∀ b,E.F b→F' b) (hh:E.h=h'):sB ⟨F',mu',h'⟩:=fun g row e=>wW (E:=E.fz) (E':=⟨F',fun _=>none,h'⟩) (h g row e) ⟨hF,fun _ _ _ hx=>(by cases hx),fun _ _=>(by rw [← hh]; rfl),fun _ _ _ _ _ _ hx=>(by cases hx)⟩
structure TR (E:Env) (t:List AV) (a:Act):Prop where
  len:t.length=a.tmps.size
  val:∀ (n:Nat) (c:AV) (u:Value),t[n]?=some c→a.tmps[n]?=some u→VR E c u
  df:a.defers=[]
  gt:sB E
theorem TR.mono {E E':Env} {t:List AV} {a:Act} (h:TR E t a) (hl:LE E E'):TR E' t a:=⟨h.len,fun n c u h1 h2=>(h.val n c u h1 h2).mono hl,h.df,h.gt.mono hl⟩
theorem ab {b:Bool} {X:Prop} (h:bO b X):b=true∧X:=by
  cases b with
  | true=>exact ⟨rfl,h⟩
  | false=>exact False.elim h
theorem al {b:Bool} {X:Prop} (hb:b=true) (h:X):bO b X:=by subst hb; exact h
theorem kW {b:Bool} {X Y:Prop} (h:ye b X Y):(b=true∧X)∨(b=false∧Y):=by
  cases b with
  | true=>exact .inl ⟨rfl,h⟩
  | false=>exact .inr ⟨rfl,h⟩
theorem z9 {b:Bool} {X Y:Prop} (hX:b=true→X) (hY:b=false→Y):ye b X Y:=by
  cases b with
  | true=>exact hX rfl
  | false=>exact hY rfl
theorem cE {a:AV} {k:AV→Prop}:jO a k↔k a:=by cases a <;> exact Iff.rfl
theorem dS:∀ {xs:List AV} {k:List AV→Prop},hG xs k↔k xs
  | [],_=>Iff.rfl
  | _::xs,_=>dS (xs:=xs)
theorem gN:∀ {xs:List AV} {k:List AV→Prop},rJ xs k↔k xs
  | [],_=>Iff.rfl
  | x::xs,k=>by
    show jO x _↔_
    rw [cE]
    exact gN (xs:=xs)
theorem az:∀ {xs:List Ob} {k:List Ob→Prop},bk xs k↔k xs
  | [],_=>Iff.rfl
  | _::xs,_=>az (xs:=xs)
theorem ib:∀ {xs:List (Nat×List AV)} {k:List (Nat×List AV)→Prop},mi xs k↔k xs
  | [],_=>Iff.rfl
  | (_,_)::xs,_=>ib (xs:=xs)
theorem iR:∀ {xs:List (List AV)} {k:List (List AV)→Prop},fh xs k↔k xs
  | [],_=>Iff.rfl
  | x::xs,k=>by
    show hG x _↔_
    rw [dS]
    exact iR (xs:=xs)
theorem cr:∀ {xs:List AV} {n:Nat} {k:AV→Prop},nS xs n k↔∃ a,xs[n]?=some a∧k a
  | [],_,_=>⟨fun h=>False.elim h,fun ⟨a,h,_⟩=>by simp at h⟩
  | x::xs,0,k=>⟨fun h=>⟨x,rfl,h⟩,fun ⟨a,h,hk⟩=>by simp at h; subst h; exact hk⟩
  | x::xs,n + 1,k=>by
    show nS xs n k↔_
    rw [cr]
    simp
theorem ed:∀ {xs:List AV} {n:Nat} {v:AV} {k:List AV→Prop},p5 xs n v k↔k (xs.set n v)
  | [],_,_,_=>Iff.rfl
  | _::xs,0,_,_=>Iff.rfl
  | x::xs,n + 1,v,k=>by
    show p5 xs n v _↔_
    rw [ed]
    rfl
def jU (S:St) (dst:Option Tmp) (a:AV):St :=
  match dst with
  | none=>S
  | some d=>{ t:=S.t.set d a,l:=S.l,o:=S.o,b:=S.b }
theorem aD {dst:Option Tmp} {a:AV} {S:St} {K:St→Prop}:bN dst a S K↔K (jU S dst a):=by
  cases dst with
  | none=>exact Iff.rfl
  | some d=>exact ed
theorem qb {c:Value} {E:Env}:VR E (r7 c) c:=by
  unfold r7
  split <;> first
    | exact .v _ _ rfl
    | exact .nilp _
    | exact .nilsl _
    | exact .nilmap _
    | exact .nilfn _
    | exact .bad _ _
theorem wX (E:Env) (c:Value):VR E (BU c) c:=by
  unfold BU
  split
  · rename_i cs
    refine .agg cs (by simp) (fun m x u h1 h2=>?_)
    simp only [List.getElem?_map,Array.getElem?_toList,Option.map_eq_some_iff] at h1
    obtain ⟨y,hy,rfl⟩:=h1
    rw [hy] at h2
    cases h2
    exact qb
  · exact qb
theorem dk {S:St} {x:Operand} {k:AV→Prop} {E:Env} {a:Act} (h:cY S x k) (ht:TR E S.t a):∃ c,k c∧VR E c (a.eval x):=by
  unfold cY at h
  split at h
  · rename_i t
    obtain ⟨c,hc,hk⟩:=cr.1 h
    have hlt:t<a.tmps.size:=by rw [← ht.len]; exact (List.getElem?_eq_some_iff.1 hc).1
    refine ⟨c,hk,ht.val t c _ hc ?_⟩
    simp [Act.eval,Array.getD,hlt]
  · rename_i c
    exact ⟨_,cE.1 h,wX E c⟩
  · rename_i f
    exact ⟨_,h,.fn #[] #[] rfl (fun m c u hc=>by simp at hc) rfl (fun m c u hc=>by simp at hc)⟩
  · rename_i g
    split at h
    · rename_i row e
      exact ⟨_,h,(ht.gt g row e).1.of_fz⟩
    · exact False.elim h
theorem dl {S:St} {E:Env} {a:Act} (ht:TR E S.t a):∀ {xs:List Operand} {k:List AV→Prop},dK S xs k→∃ cs,k cs∧cq E cs (xs.map a.eval)
  | [],_,h=>⟨[],h,.nil _⟩
  | x::xs,k,h=>by
    obtain ⟨c,hk,hc⟩:=dk h ht
    obtain ⟨cs,hk',hcs⟩:=dl ht hk
    exact ⟨c::cs,hk',.cons hc hcs⟩
theorem TR.put {E:Env} {S:St} {a:Act} (h:TR E S.t a) {dst:Option Tmp} {c:AV} {u:Value} (hv:VR E c u):TR E (jU S dst c).t (a.put dst u):=by
  cases dst with
  | none=>exact h
  | some d =>
    refine ⟨by simp [jU,Act.put,h.len],fun n c' u' h1 h2=>?_,h.df,h.gt⟩
    simp only [jU,Act.put,List.getElem?_set,Array.getElem?_setIfInBounds] at h1 h2
    by_cases hd:d=n
    · subst hd
      simp only [if_true] at h1 h2
      split at h1
      · rename_i hl
        rw [if_pos (by rw [← h.len]; exact hl)] at h2
        cases h1; cases h2
        exact hv
      · cases h1
    · rw [if_neg hd] at h1 h2
      exact h.val n c' u' h1 h2
theorem eT {α:Type} {P:Program}:∀ (s:Sem α) {x:α} (w:World),ax P s=some x→s.run P w=.ok x w
  | .pure a,x,w,h=>by simp only [ax,Option.some.injEq] at h; subst h; rfl
  | .program k,x,w,h=>by simp only [ax] at h; exact eT (k P) w h
  | .load _ _ _,_,_,h=>by cases h
  | .store _ _ _ _,_,_,h=>by cases h
  | .new _ _,_,_,h=>by cases h
  | .shape _ _,_,_,h=>by cases h
  | .freeze _ _ _,_,_,h=>by cases h
  | .frozen _ _,_,_,h=>by cases h
  | .getObj _ _,_,_,h=>by cases h
  | .setObj _ _ _,_,_,h=>by cases h
  | .choose _ _,_,_,h=>by cases h
  | .sys _ _,_,_,h=>by cases h
  | .mark _ _,_,_,h=>by cases h
  | .halt _,_,_,h=>by cases h
theorem z_ {P:Program} {op:BinOp} {a b c:Value} (h:EI op a b=some c) (t:TypeId) (w:World) :
    (binOp op t a b).run P w=.ok c w∧plain c=true:=by
  unfold EI at h
  split at h
  · split at h <;> first
      | (split at h
         · rename_i hk
           subst hk
           simp only [Option.some.injEq] at h
           subst h
           refine ⟨?_,rfl⟩
           simp [binOp,Op.intArith,Op.intCmp,Op.intBits]
         · cases h)
      | cases h
  · split at h <;> first
      | (simp only [Option.some.injEq] at h
         subst h
         refine ⟨?_,rfl⟩
         simp [binOp,Op.stringOp])
      | cases h
  · cases h
theorem ym {P:Program} {op:BinOp} {a b:Value} {K:Value→Prop} (h:r_ op a b K) (t:TypeId) (w:World) :
    ∃ c,K c∧(binOp op t a b).run P w=.ok c w∧plain c=true:=by
  unfold r_ at h
  split at h <;> first
    | exact False.elim h
    | (obtain ⟨hc,hK⟩:=ab h
       refine ⟨_,hK,?_,rfl⟩
       simp only [Bool.and_eq_true,decide_eq_true_eq,Bool.not_eq_true',beq_eq_false_iff_ne,ne_eq] at hc
       first
         | (obtain ⟨rfl,hb⟩:=hc; simp [binOp,Op.intDiv,hb])
         | (have hb:¬ _<(0:Int):=Int.not_lt.2 hc
            simp [binOp,Op.shift,hb])
         | (simp only [binOp,Op.stringOp]
            rw [if_neg (by rw [show IntKind.i64.max=9223372036854775807 from rfl]; omega)]
            rfl))
theorem B0 {P:Program} {op:UnOp} {x:AV} {K:AV→Prop} {E:Env} {u:Value} (h:Hl op x K) (hx:VR E x u) (w:World) :
    ∃ r z,K r∧VR E r z∧(Op.unary op u).run P w=.ok z w:=by
  unfold Hl at h
  split at h <;> first
    | exact False.elim h
    | (obtain ⟨rfl,_⟩:=hx.vI
       exact ⟨_,_,h,.v _ _ rfl,by simp [Op.unary,Op.intArith,Op.intBits]⟩)
theorem lu {E:Env}:∀ {as:List AV} {xs:List Value} {us:List Value},ru as=some xs→cq E as us→us=xs
  | [],xs,us,h,hv=>by simp only [ru,Option.some.injEq] at h; subst h; exact hv.unnil
  | a::as,xs,us,h,hv=>by
    obtain ⟨u,us',rfl,ha,hs⟩:=hv.uncons
    unfold ru at h
    split at h
    · rename_i x xs' h1 h2
      simp only [Option.some.injEq] at h
      subst h
      unfold Hk at h1
      split at h1
      · simp only [Option.some.injEq] at h1
        subst h1
        rw [ha.vI.1,lu h2 hs]
      · cases h1
    · cases h
def Db:Value→Bool
  | .nilIface | .agg _=>false
  | _=>true
theorem gE {op:BinOp} {t:TypeId} {X Y:Operand} {a b:Value} (h:Db a=true):eqGuard op t X Y a b=pure ():=by
  unfold eqGuard
  cases a <;> first | (cases op <;> rfl) | (cases h; done)
theorem qc {P:Program} {t:TypeId} {u v:Value} {b:Bool} {w:World} (h:∀ d:Nat,(Op.equalIn (d + 1) t u v).run P w=.ok b w):(Op.equal t u v).run P w=.ok b w:=h 9999
theorem vH {P:Program} {t:TypeId} (hu:P.underlying t=some .bool) (a b:Bool) (w:World) (d:Nat):(Op.equalIn (d + 1) t (.bool a) (.bool b)).run P w=.ok (a==b) w:=by
  unfold Op.equalIn
  rw [Sem.run_bind,run_underlying hu]
  rfl
theorem qO {P:Program} {t:TypeId} {x y:AV} {E:Env} {u v:Value} {b:Bool} (hk:kindOk P t x y=true) (h:A_ x y=some b) (hx:VR E x u) (hy:VR E y v) (w:World) :
    (Op.equal t u v).run P w=.ok b w∧Db u=true∧(binOp .eql t u v).run P w=((Op.equal t u v).run P w).andThen (fun r w=>.ok (.bool r) w)∧(binOp .neq t u v).run P w=((Op.equal t u v).run P w).andThen (fun r w=>.ok (.bool (!r)) w):=by
  have key:(∀ d:Nat,(Op.equalIn (d + 1) t u v).run P w=.ok b w)→Db u=true∧binOp .eql t u v=(do pure (.bool (← Op.equal t u v)))∧binOp .neq t u v=(do pure (.bool (!(← Op.equal t u v)))) →
      (Op.equal t u v).run P w=.ok b w∧Db u=true∧(binOp .eql t u v).run P w=((Op.equal t u v).run P w).andThen (fun r w=>.ok (.bool r) w)∧(binOp .neq t u v).run P w=((Op.equal t u v).run P w).andThen (fun r w=>.ok (.bool (!r)) w) :=
    fun h1 h2=>⟨qc h1,h2.1,by rw [h2.2.1,Sem.run_bind]; rfl,by rw [h2.2.2,Sem.run_bind]; rfl⟩
  unfold A_ at h
  split at h
  all_goals first
    | (cases h; done)
    | (simp only [Option.some.injEq] at h
       subst h
       unfold kindOk at hk
       split at hk
       all_goals first
         | (cases hk; done)
         | (cases hx <;> cases hy <;> have hu:=‹P.underlying t=some _› <;> first
              | (refine key (fun d=>?_) ⟨rfl,rfl,rfl⟩; unfold Op.equalIn; rw [Sem.run_bind,run_underlying hu]; rfl)
              | (exfalso; simp_all; done)))
theorem Aa {P:Program} {op:BinOp} {t:TypeId} {x y:AV} {K:AV→Prop} {E:Env} {u v:Value} (hk:kindOk P t x y=true) (h:C4 op x y K) (hx:VR E x u) (hy:VR E y v) (w:World) (X Y:Operand) :
    ∃ r z,K r∧VR E r z∧(do eqGuard op t X Y u v; binOp op t u v:Sem Value).run P w=.ok z w:=by
  unfold C4 at h
  split at h
  · split at h
    · rename_i b hb
      obtain ⟨h1,h2,h3⟩:=qO hk hb hx hy w
      exact ⟨_,_,h,.v _ _ rfl,by rw [gE h2]; simp [h3.1,h1]⟩
    · exact False.elim h
  · split at h
    · rename_i b hb
      obtain ⟨h1,h2,h3⟩:=qO hk hb hx hy w
      exact ⟨_,_,h,.v _ _ rfl,by rw [gE h2]; simp [h3.2,h1]⟩
    · exact False.elim h
  · exact False.elim h
theorem sD {P:Program} {op:BinOp} {t:TypeId} {x y:AV} {K:AV→Prop} {E:Env} {u v:Value} (h:z4 P op t x y K) (hx:VR E x u) (hy:VR E y v) (w:World) (X Y:Operand) :
    ∃ r z,K r∧VR E r z∧(do eqGuard op t X Y u v; binOp op t u v:Sem Value).run P w=.ok z w:=by
  unfold z4 at h
  split at h
  · rename_i a b
    obtain ⟨rfl,pa⟩:=hx.vI
    obtain ⟨rfl,pb⟩:=hy.vI
    have hg:(eqGuard op t X Y u v).run P w=.ok () w:=by
      rw [gE (by cases u <;> first | rfl | (cases pa; done))]
      rfl
    unfold vx at h
    split at h
    · rename_i c hc
      obtain ⟨h1,h2⟩:=z_ (P:=P) hc t w
      exact ⟨_,_,h,.v _ _ h2,by simp [hg,h1]⟩
    · split at h
      · unfold yf at h
        split at h
        · rename_i hu
          split at h <;> first
            | exact False.elim h
            | (refine ⟨_,_,h,.v _ _ rfl,?_⟩
               rw [Sem.run_bind,hg,Result.andThen_ok]
               first
                 | (show (Op.equal t (.bool _) (.bool _) >>= fun r=>(pure (Value.bool r):Sem Value)).run P w=_
                    rw [Sem.run_bind,qc (vH hu _ _ w)]
                    rfl)
                 | (show (Op.equal t (.bool _) (.bool _) >>= fun r=>(pure (Value.bool (!r)):Sem Value)).run P w=_
                    rw [Sem.run_bind,qc (vH hu _ _ w)]
                    rfl))
        · exact False.elim h
      · obtain ⟨c,hK,h1,h2⟩:=ym (P:=P) h t w
        exact ⟨_,_,hK,.v _ _ h2,by simp [hg,h1]⟩
  · rename_i as bs
    obtain ⟨us,rfl,hus⟩:=hx.aggI
    obtain ⟨ws,rfl,hws⟩:=hy.aggI
    split at h
    · rename_i xs ys h1 h2
      have e1:=lu h1 hus
      have e2:=lu h2 hws
      split at h
      · rename_i b hb
        have hr:=eT _ w hb
        refine ⟨_,_,h,.v _ _ rfl,?_⟩
        have e3:us=xs.toArray:=by rw [← e1]
        have e4:ws=ys.toArray:=by rw [← e2]
        subst e3 e4
        rw [← hr]
        rfl
      · exact False.elim h
    · exact False.elim h
  · obtain ⟨hk,h⟩:=ab h
    exact Aa hk h hx hy w X Y
theorem run_sizeOf {P:Program} {t:TypeId} {i:TypeInfo} (h:P.info? t=some i) (w:World):(sizeOf t).run P w=.ok i.size w:=by
  unfold sizeOf
  rw [Sem.run_bind,run_typeInfo w h]
  rfl
theorem jE {P:Program} {t:TypeId} {d:TypeDesc} (h:P.underlying t=some d) (w:World):(isAgg t).run P w=.ok (match d with | .struct _ | .array _ _=>true | _=>false) w:=by
  unfold isAgg
  rw [Sem.run_bind,run_underlying h,Result.andThen_ok]
  cases d <;> rfl
theorem sE {P:Program} {t:TypeId} {row:List AV} {j:Nat} {k:AV→Prop} {E:Env} {us:Array Value} (h:hP P t row j k) (hr:cq E row us.toList) (w:World) :
    ∃ r u,k r∧VR E r u∧(part t us j).run P w=.ok u w:=by
  have agg:∀ i,P.info? t=some i→bO (Nat.ble (j + i.size) row.length) (hG ((row.drop j).take i.size) fun cs=>k (.agg cs))→(isAgg t).run P w=.ok true w →
      ∃ r u,k r∧VR E r u∧(part t us j).run P w=.ok u w:=by
    intro i hi h ha
    obtain ⟨hl,hk⟩:=ab h
    rw [dS] at hk
    refine ⟨_,.agg (us.extract j (j + i.size)),hk,cq.aggV ?_,?_⟩
    · have:=(hr.drop j).take i.size
      rw [Array.toList_extract]
      simpa [List.extract] using this
    · unfold part
      rw [Sem.run_bind,ha,Result.andThen_ok,if_pos rfl,Sem.run_bind,run_sizeOf hi]
      rfl
  unfold hP at h
  split at h
  · rename_i hu
    split at h
    · rename_i i hi
      exact agg i hi h (by rw [jE hu])
    · exact False.elim h
  · rename_i hu
    split at h
    · rename_i i hi
      exact agg i hi h (by rw [jE hu])
    · exact False.elim h
  · rename_i d h1 h2 hu
    split at h
    · rename_i c hc
      obtain ⟨u,hu',hv⟩:=hr.get hc
      refine ⟨_,_,h,hv,?_⟩
      unfold part
      have ha:(isAgg t).run P w=.ok false w:=by
        rw [jE hu]
        cases d <;> first | rfl | (exact absurd rfl (h1 _)) | (exact absurd rfl (h2 _ _))
      rw [Sem.run_bind,ha,Result.andThen_ok,if_neg (by simp)]
      rw [Array.getElem?_toList] at hu'
      rw [hu']
      rfl
    · exact False.elim h
  · exact False.elim h
theorem fc (b o m:Nat):(⟨b,o,none⟩:Addr).add m=⟨b,o + m,none⟩:=by
  unfold Addr.add
  split
  · rename_i h; subst h; rfl
  · rfl
theorem jF (w:World) (b i:Nat):w.cell? ⟨b,i,none⟩=dZ w.heap b i:=by
  unfold World.cell? dZ
  split <;> simp_all
theorem nY {P:Program} {t:TypeId} {row:List AV} {j:Nat} {k:AV→Prop} {E:Env} {us:List Value} {b o:Nat} (h:hP P t row j k) (hr:cq E row us) (w:World)
    (hc:∀ (m:Nat) (u:Value),us[m]?=some u→dZ w.heap b (o + m)=some u) :
    ∃ r u,k r∧VR E r u∧(Instr.loadAt t (.pointer (some ⟨b,o + j,none⟩))).run P w=.ok u w:=by
  have agg:∀ i,P.info? t=some i→bO (Nat.ble (j + i.size) row.length) (hG ((row.drop j).take i.size) fun cs=>k (.agg cs))→(isAgg t).run P w=.ok true w →
      ∃ r u,k r∧VR E r u∧(Instr.loadAt t (.pointer (some ⟨b,o + j,none⟩))).run P w=.ok u w:=by
    intro i hi h ha
    obtain ⟨hl,hk⟩:=ab h
    rw [dS] at hk
    have hle:j + i.size≤us.length:=by rw [← hr.1]; exact Nat.le_of_ble_eq_true hl
    have hlen:((us.drop j).take i.size).length=i.size:=by simp; omega
    refine ⟨_,.agg ((us.drop j).take i.size).toArray,hk,cq.aggV (by simpa using (hr.drop j).take i.size),?_⟩
    have hrun:=run_loadCells_list (P:=P) (w:=w) ⟨b,o + j,none⟩ ((us.drop j).take i.size) (fun m v hv=>by
      rw [fc,jF,Nat.add_assoc]
      refine hc _ _ ?_
      rw [List.getElem?_take] at hv
      split at hv
      · rw [List.getElem?_drop] at hv
        exact hv
      · cases hv)
    rw [hlen] at hrun
    unfold Instr.loadAt Instr.sureAddr loadVar
    simp only [Sem.run_bind,Sem.run_pure,Result.andThen_ok,ha,if_true,run_sizeOf hi,hrun]
  unfold hP at h
  split at h
  · rename_i hu
    split at h
    · rename_i i hi
      exact agg i hi h (by rw [jE hu])
    · exact False.elim h
  · rename_i hu
    split at h
    · rename_i i hi
      exact agg i hi h (by rw [jE hu])
    · exact False.elim h
  · rename_i d h1 h2 hu
    split at h
    · rename_i c hcc
      obtain ⟨u,hu',hv⟩:=hr.get hcc
      refine ⟨_,_,h,hv,?_⟩
      have ha:(isAgg t).run P w=.ok false w:=by
        rw [jE hu]
        cases d <;> first | rfl | (exact absurd rfl (h1 _)) | (exact absurd rfl (h2 _ _))
      unfold Instr.loadAt Instr.sureAddr loadVar
      have hcell:w.cell? ⟨b,o + j,none⟩=some u:=by rw [jF]; exact hc _ _ hu'
      simp [ha,hcell]
    · exact False.elim h
  · exact False.elim h
theorem yn:∀ (xs cs:List AV) (m:Nat),(over xs cs)[m]?=if m<cs.length∧m<xs.length then cs[m]? else xs[m]?
  | xs,[],m=>by simp [over]
  | [],c::cs,m=>by simp [over]
  | x::xs,c::cs,0=>by simp [over]
  | x::xs,c::cs,m + 1=>by
    have:=yn xs cs m
    simp only [over,List.getElem?_cons_succ,List.length_cons,this]
    by_cases h:m<cs.length∧m<xs.length
    · rw [if_pos h,if_pos (by omega)]
    · rw [if_neg h,if_neg (by omega)]
theorem qP:∀ (xs cs:List AV),(over xs cs).length=xs.length
  | xs,[]=>by simp [over]
  | [],c::cs=>by simp [over]
  | x::xs,c::cs=>by simp [over,qP xs cs]
theorem nZ:∀ (row:List AV) (n:Nat) (cs:List AV) (m:Nat),(splice row n cs)[m]?=if n≤m∧m<n + cs.length∧m<row.length then cs[m - n]? else row[m]?
  | row,0,cs,m=>by
    have:=yn row cs m
    have e:splice row 0 cs=over row cs:=by cases row <;> rfl
    rw [e,this]
    simp
  | [],n + 1,cs,m=>by simp [splice]
  | x::xs,n + 1,cs,0=>by simp [splice]
  | x::xs,n + 1,cs,m + 1=>by
    have:=nZ xs n cs m
    simp only [splice,List.getElem?_cons_succ,List.length_cons,this,Nat.add_sub_add_right]
    by_cases h:n≤m∧m<n + cs.length∧m<xs.length
    · rw [if_pos h,if_pos (by omega)]
    · rw [if_neg h,if_neg (by omega)]
theorem gl:∀ (row:List AV) (n:Nat) (cs:List AV),(splice row n cs).length=row.length
  | row,0,cs=>by
    have e:splice row 0 cs=over row cs:=by cases row <;> rfl
    rw [e,qP]
  | [],n + 1,cs=>rfl
  | x::xs,n + 1,cs=>by simp [splice,gl xs n cs]
def cu (us:Array Value) (off:Nat):List Value→Nat→Array Value
  | [],_=>us
  | v::vs,i=>cu (us.setIfInBounds (off + i) v) off vs (i + 1)
theorem cL:∀ (vs:List Value) (us:Array Value) (off i:Nat),(cu us off vs i).size=us.size
  | [],_,_,_=>rfl
  | v::vs,us,off,i=>by rw [cu,cL vs]; simp
theorem iH:∀ (vs:List Value) (us:Array Value) (off i m:Nat),(cu us off vs i)[m]?=if off + i≤m∧m<off + i + vs.length∧m<us.size then vs[m - (off + i)]? else us[m]?
  | [],us,off,i,m=>by
    rw [if_neg (by simp; omega)]
    rfl
  | v::vs,us,off,i,m=>by
    rw [cu,iH vs]
    simp only [Array.size_setIfInBounds,List.length_cons,Array.getElem?_setIfInBounds]
    by_cases h1:off + (i + 1)≤m∧m<off + (i + 1) + vs.length∧m<us.size
    · rw [if_pos h1,if_pos (by omega),show m - (off + i)=(m - (off + (i + 1))) + 1 by omega]
      rfl
    · rw [if_neg h1]
      by_cases h2:off + i=m
      · subst h2
        rw [if_pos rfl]
        by_cases h3:off + i<us.size
        · rw [if_pos h3,if_pos (by omega)]; simp
        · rw [if_neg h3,if_neg (by omega)]
          simp [Array.getElem?_eq_none (Nat.le_of_not_lt h3)]
      · rw [if_neg h2,if_neg (by omega)]
theorem o7:∀ (vs:List Value) (us:Array Value) (off i:Nat),(vs.zipIdx i).foldl (fun cs (x:Value×Nat)=>cs.setIfInBounds (off + x.2) x.1) us=cu us off vs i
  | [],_,_,_=>rfl
  | v::vs,us,off,i=>by
    rw [List.zipIdx_cons,List.foldl_cons,o7 vs]
    rfl
theorem cq.splice {E:Env} {row cs:List AV} {us:Array Value} {vs:List Value} (h:cq E row us.toList) (k:cq E cs vs) (n:Nat):cq E (splice row n cs) (cu us n vs 0).toList:=by
  have hl:row.length=us.size:=by simpa using h.1
  refine ⟨by have:=cL vs us n 0; simp [gl,this,hl],fun m c u h1 h2=>?_⟩
  rw [nZ] at h1
  rw [Array.getElem?_toList,iH] at h2
  simp only [Nat.add_zero] at h2
  by_cases hc:n≤m∧m<n + cs.length∧m<row.length
  · rw [if_pos hc] at h1
    rw [if_pos (by rw [← k.1,← hl]; exact hc)] at h2
    exact k.2 _ c u h1 h2
  · rw [if_neg hc] at h1
    rw [if_neg (by rw [← k.1,← hl]; exact hc)] at h2
    exact h.2 m c u h1 (by rw [Array.getElem?_toList]; exact h2)
def mC:Value→Bool
  | .agg _ | .tuple _=>false
  | _=>true
theorem oa {E:Env} {c:AV} {u:Value} (h:kF c=true) (hv:VR E c u):mC u=true:=by
  cases hv <;> first | rfl | (cases h; done) | (rename_i hp; revert hp; cases u <;> intro hp <;> first | rfl | (cases hp; done))
theorem wY {u:Value} (h:mC u=true):u.cells=#[u]:=by
  cases u <;> first | rfl | (cases h; done)
theorem lv {E:Env} {a:AV} {u:Value} {k:List AV→Prop} (h:lm a k) (hv:VR E a u):∃ cs,k cs∧cq E cs u.cells.toList∧∀ c∈cs,kF c=true:=by
  unfold lm at h
  split at h
  · obtain ⟨us,rfl,hs⟩:=hv.aggI
    obtain ⟨h1,h2⟩:=ab h
    exact ⟨_,h2,hs,fun c hc=>List.all_eq_true.1 h1 c hc⟩
  · exact False.elim h
  · exact False.elim h
  · rename_i h1 h2 h3
    have ho:kF a=true:=by
      cases a <;> first | rfl | (exact (h1 _ rfl).elim) | (exact (h2 rfl).elim) | (exact (h3 _ rfl).elim)
    refine ⟨_,h,?_,fun c hc=>by simp at hc; subst hc; exact ho⟩
    rw [wY (oa ho hv)]
    exact .cons hv (.nil E)
theorem dv {P:Program} {e:TypeId} {k:List AV→Prop} (h:cO P e k):∃ i z cs,P.info? e=some i∧i.zero=some z∧z.cells.size=i.size∧k cs∧∀ E,cq E cs z.cells.toList:=by
  unfold cO at h
  split at h
  · rename_i i hi
    split at h
    · rename_i z hz
      obtain ⟨h1,h2⟩:=ab h
      rw [gN] at h2
      refine ⟨i,z,_,hi,hz,by simpa using h1,h2,fun E=>⟨by simp,fun m c u h3 h4=>?_⟩⟩
      rw [List.getElem?_map,Option.map_eq_some_iff] at h3
      obtain ⟨y,hy,rfl⟩:=h3
      rw [hy] at h4
      cases h4
      exact qb
    · exact False.elim h
  · exact False.elim h
def Ib (E:Env) (ps:List (Nat×AV)) (qs:List (Nat×Value)):Prop :=
  ps.map (·.1)=qs.map (·.1)∧cq E (ps.map (·.2)) (qs.map (·.2))
theorem jV {E:Env} {place:Nat→Option (Nat×Nat)} {k:List AV→Prop}:∀ {ps:List (Nat×AV)} {qs:List (Nat×Value)} {cells:List AV} {us:Array Value},Ib E ps qs→cq E cells us.toList →
    lY place cells ps k→∃ cs us',k cs∧cq E cs us'.toList∧us'.size=us.size∧Instr.fill place us qs=some us'
  | [],qs,cells,us,hp,hc,h=>by
    have:qs=[]:=by have:=hp.1; simpa using this.symm
    subst this
    exact ⟨_,us,dS.1 h,hc,rfl,rfl⟩
  | (i,x)::ps,qs,cells,us,hp,hc,h=>by
    cases qs with
    | nil=>have:=hp.1; simp at this
    | cons q qs =>
      obtain ⟨i',v⟩:=q
      have h1:=hp.1
      simp only [List.map_cons,List.cons.injEq] at h1
      obtain ⟨rfl,h1⟩:=h1
      have h2:=hp.2
      simp only [List.map_cons] at h2
      obtain ⟨u,us',e,hx,hs⟩:=h2.uncons
      simp only [List.cons.injEq] at e
      obtain ⟨rfl,rfl⟩:=e
      unfold lY at h
      split at h
      · rename_i off size hpl
        obtain ⟨cs,h,hcs,_⟩:=lv h hx
        obtain ⟨hb,h⟩:=ab h
        simp only [Bool.and_eq_true] at hb
        have e1:cs.length=size:=Nat.eq_of_beq_eq_true hb.1
        have e2:off + cs.length≤cells.length:=Nat.le_of_ble_eq_true hb.2
        have e3:cs.length=v.cells.size:=by simpa using hcs.1
        have e4:cells.length=us.size:=by simpa using hc.1
        have hc':=hc.splice hcs off
        obtain ⟨cs',us',hk,hv,hsz,hf⟩:=jV (ps:=ps) (qs:=qs) ⟨h1,hs⟩ hc' h
        refine ⟨cs',us',hk,hv,by rw [hsz,cL],?_⟩
        unfold Instr.fill
        rw [hpl]
        simp only
        rw [if_neg (by simp; omega)]
        have:=o7 v.cells.toList us off 0
        rw [← hf]
        congr 1
        rw [← this,← Array.foldl_toList,Array.toList_zipIdx]
      · exact False.elim h
end A
end Go.Proofs.Ytcckeabholabcaa
