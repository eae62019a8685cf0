/- The evaluator and what its values stand for. Nothing is claimed here of the program. -/
import Derived.Calls
import Derived.Still
import Derived.Below
import Derived.Laws.Cells
import Derived.Laws.Entries
import Derived.ChangeKeysEq
namespace Go.Proofs.YteafbimadlcljaaDoor
namespace A
open Go
inductive Key where
  | L (d:Nat)
  | O (i:Nat)
  | S (id i:Nat)
  deriving DecidableEq
def Key.isS:Key→Bool
  | .S _ _=>true
  | _=>false
inductive AV where
  | bad
  | v (x:Value)
  | nilp
  | ptr (k:Key) (i j:Nat)
  | fptr (row:List AV) (j:Nat)
  | nilsl
  | esl
  | sl (rows:List (List AV))
  | mf (id:Nat)
  | msl (id off len ext:Nat)
  | bsl (k:Key) (off len:Nat)
  | nilmap
  | mp (id:Nat)
  | nilfn
  | fn (f:Nat) (first cap:List AV)
  | agg (cs:List AV)
  | tup (vs:List AV)
inductive Ob where
  | arr (fl:Bool) (sz:Nat) (rows:List (List AV))
  | mapo (fl:Bool) (es:List (AV×AV))
  | own (ks:Option (List AV)) (sz:Nat) (cells:List (Option (List (List AV)))) (hole:Option (Nat×AV))
  | dead
structure St where
  t:List AV
  l:List (Nat×List AV)
  o:List Ob
  b:Nat
inductive Ex where
  | nrm
  | ex (id:Nat)
  | ret
structure bA where
  esc:List Nat
  ms:List Nat
  bx:List Nat
  st:List Nat
  fz:List Nat:=[]
  dc:List Nat:=[]
  ow:List Nat:=[]
  oh:List Nat:=[]
  cl:List Nat:=[]
  fr:List Nat:=[]
  ix:List (Nat×Nat):=[]
structure Ctx where
  P:Program
  pure:Nat→Bool
  pol:Nat→bA
  pcall:Nat→List AV→(AV→Prop)→Prop
  scall:Nat→List AV→List Ob→(AV→List Ob→Prop)→Prop
  loop:bA→Code→St→(Ex→St→Prop)→Prop
def ah (_n:Nat):Prop:=False
def xn (b:Bool) (X Y:Prop):Prop:=match b with | true=>X | false=>Y
def bw (b:Bool) (X:Prop):Prop:=match b with | true=>X | false=>ah 1
def i7 (a:AV) (k:AV→Prop):Prop :=
  match a with
  | .bad=>k .bad
  | .v x=>k (.v x)
  | .nilp=>k .nilp
  | .ptr x i j=>k (.ptr x i j)
  | .fptr r j=>k (.fptr r j)
  | .nilsl=>k .nilsl
  | .esl=>k .esl
  | .sl r=>k (.sl r)
  | .mf i=>k (.mf i)
  | .msl i a b c=>k (.msl i a b c)
  | .bsl x a b=>k (.bsl x a b)
  | .nilmap=>k .nilmap
  | .mp i=>k (.mp i)
  | .nilfn=>k .nilfn
  | .fn f a b=>k (.fn f a b)
  | .agg c=>k (.agg c)
  | .tup c=>k (.tup c)
def gp:List AV→(List AV→Prop)→Prop
  | [],k=>k []
  | x::xs,k=>gp xs fun ys=>k (x::ys)
def rK:List AV→(List AV→Prop)→Prop
  | [],k=>k []
  | x::xs,k=>i7 x fun y=>rK xs fun ys=>k (y::ys)
def nE:List AV→Nat→(AV→Prop)→Prop
  | [],_,_=>ah 2
  | x::_,0,k=>k x
  | _::xs,n + 1,k=>nE xs n k
def qc:List AV→Nat→AV→(List AV→Prop)→Prop
  | [],_,_,k=>k []
  | _::xs,0,v,k=>k (v::xs)
  | x::xs,n + 1,v,k=>qc xs n v fun ys=>k (x::ys)
def r8:Value→AV
  | .bool b=>.v (.bool b)
  | .int k n=>.v (.int k n)
  | .float k n=>.v (.float k n)
  | .string s=>.v (.string s)
  | .pointer none=>.nilp
  | .slice none 0 0=>.nilsl
  | .map none=>.nilmap
  | .nilFunc=>.nilfn
  | _=>.bad
def AO:Value→AV
  | .agg cs=>.agg (cs.toList.map r8)
  | x=>r8 x
def lU (k:IntKind) (ns:List Int):List AV:=ns.map fun n=>.v (.int k n)
def Dm (g:Nat):Option (List AV) :=
  match g with
  | 0=>some (lU .u64 [1,10,100,1000,10000,100000,1000000,10000000,100000000,1000000000,10000000000,100000000000,1000000000000,10000000000000,100000000000000,1000000000000000,10000000000000000,100000000000000000,1000000000000000000,10000000000000000000])
  | 1=>some (lU .u8 [0,1,28,2,29,14,24,3,30,22,20,15,25,17,4,8,31,27,13,23,21,19,16,7,26,12,18,6,11,5,10,9])
  | 2=>some (lU .u8 [0,1,56,2,57,49,28,3,61,58,42,50,38,29,17,4,62,47,59,36,45,43,51,22,53,39,33,30,24,18,12,5,63,55,48,27,60,41,37,16,46,35,44,21,52,32,23,11,54,26,40,15,34,20,31,10,25,14,19,9,13,8,7,6])
  | _=>none
def cy (S:St) (x:Operand) (k:AV→Prop):Prop :=
  match x with
  | .tmp t=>nE S.t t k
  | .const c=>i7 (AO c) k
  | .func f=>k (.fn f [] [])
  | .global g=>match Dm g with | some row=>k (.fptr row 0) | none=>ah 3
def cY (S:St):List Operand→(List AV→Prop)→Prop
  | [],k=>k []
  | x::xs,k=>cy S x fun a=>cY S xs fun as=>k (a::as)
def br (dst:Option Tmp) (a:AV) (S:St) (K:St→Prop):Prop :=
  match dst with
  | none=>K S
  | some d=>qc S.t d a fun t=>K { t:=t,l:=S.l,o:=S.o,b:=S.b }
def r9 (d:Nat) (S:St) (k:Bool→St→Prop):Prop :=
  nE S.t d fun a =>
    match a with
    | .v (.bool b)=>xn b (qc S.t d (.v (.bool true)) fun t=>k true { t:=t,l:=S.l,o:=S.o,b:=S.b }) (qc S.t d (.v (.bool false)) fun t=>k false { t:=t,l:=S.l,o:=S.o,b:=S.b })
    | _=>ah 4
def lV (c:Operand) (S:St) (k:Bool→St→Prop):Prop :=
  match c with
  | .tmp d=>r9 d S k
  | .const (.bool b)=>xn b (k true S) (k false S)
  | _=>ah 5
def cE:Nat→Key→AV→AV
  | 0,_,_=>.bad
  | n + 1,k,a =>
    match a with
    | .ptr k' i j=>if k'=k then .bad else .ptr k' i j
    | .mf id=>if Key.O id=k then .bad else .mf id
    | .msl id a b c=>if Key.O id=k then .bad else .msl id a b c
    | .bsl k' a b=>if k'=k then .bad else .bsl k' a b
    | .mp id=>if Key.O id=k then .bad else .mp id
    | .fn f x y=>.fn f (x.map (cE n k)) (y.map (cE n k))
    | .agg cs=>.agg (cs.map (cE n k))
    | .tup cs=>.tup (cs.map (cE n k))
    | a=>a
def ky (k:Key):List AV→(List AV→Prop)→Prop
  | [],K=>K []
  | x::xs,K=>i7 (cE 4 k x) fun y=>ky k xs fun ys=>K (y::ys)
def kP (k:Key):List (Nat×List AV)→(List (Nat×List AV)→Prop)→Prop
  | [],K=>K []
  | (d,c)::xs,K=>ky k c fun c'=>kP k xs fun ys=>K ((d,c')::ys)
def dH (k:Key):Ob→Ob
  | .arr false sz rows=>.arr false sz (rows.map (List.map (cE 4 k)))
  | .mapo false es=>.mapo false (es.map fun e=>(e.1,cE 4 k e.2))
  | .own ks sz cells (some h)=>.own ks sz cells (some (h.1,cE 4 k h.2))
  | o=>o
def gq (k:Key):List Ob→(List Ob→Prop)→Prop
  | [],K=>K []
  | .arr true sz rows::xs,K=>gq k xs fun ys=>K (.arr true sz rows::ys)
  | .dead::xs,K=>gq k xs fun ys=>K (.dead::ys)
  | .mapo true es::xs,K=>gq k xs fun ys=>K (.mapo true es::ys)
  | .arr false sz rows::xs,K=>gq k xs fun ys=>K (.arr false sz (rows.map (List.map (cE 4 k)))::ys)
  | .mapo false es::xs,K=>gq k xs fun ys=>K (.mapo false (es.map fun e=>(e.1,cE 4 k e.2))::ys)
  | .own ks sz cells none::xs,K=>gq k xs fun ys=>K (.own ks sz cells none::ys)
  | .own ks sz cells (some h)::xs,K=>gq k xs fun ys=>K (.own ks sz cells (some (h.1,cE 4 k h.2))::ys)
def cN:Nat→AV→Bool
  | 0,_=>false
  | n + 1,a =>
    match a with
    | .v _ | .nilp | .fptr .. | .nilsl | .esl | .sl _ | .nilmap | .nilfn=>true
    | .fn _ x y=>x.all (cN n)&&y.all (cN n)
    | .agg cs | .tup cs=>cs.all (cN n)
    | _=>false
def rL:Nat→AV→Bool
  | 0,_=>false
  | n + 1,a =>
    match a with
    | .ptr (.L _) _ _ | .bsl (.L _) _ _ | .bad=>false
    | .fn _ x y=>x.all (rL n)&&y.all (rL n)
    | .agg cs | .tup cs=>cs.all (rL n)
    | _=>true
def jV:AV→Bool
  | .bad | .agg _ | .tup _=>false
  | _=>true
def sc:Nat→AV→Bool
  | 0,_=>false
  | n + 1,a =>
    match a with
    | .v _ | .nilp | .nilsl | .esl | .nilmap | .nilfn=>true
    | .agg cs | .tup cs=>cs.all (sc n)
    | _=>false
def fE (size:Nat):List (List AV)→Bool
  | []=>true
  | r::_=>Nat.beq r.length size
def kQ (a:AV) (k:List AV→Prop):Prop :=
  match a with
  | .agg cs=>bw (cs.all jV) (k cs)
  | .bad | .tup _=>ah 6
  | a=>k [a]
def over:List AV→List AV→List AV
  | xs,[]=>xs
  | [],_=>[]
  | _::xs,c::cs=>c::over xs cs
def splice:List AV→Nat→List AV→List AV
  | row,0,cs=>over row cs
  | [],_ + 1,_=>[]
  | x::xs,n + 1,cs=>x::splice xs n cs
def aJ:List (Nat×List AV)→Nat→Option (List AV)
  | [],_=>none
  | (d,c)::xs,e=>if d=e then some c else aJ xs e
def m_:List (Nat×List AV)→Nat→List (Nat×List AV)
  | [],_=>[]
  | (d,c)::xs,e=>if d=e then m_ xs e else (d,c)::m_ xs e
def o_:List (Nat×List AV)→Nat→List AV→List (Nat×List AV)
  | [],_,_=>[]
  | (d,c)::xs,e,c'=>if d=e then (d,c')::xs else (d,c)::o_ xs e c'
def lW:List (Nat×List AV)→(List (Nat×List AV)→Prop)→Prop
  | [],k=>k []
  | (d,c)::xs,k=>lW xs fun ys=>k ((d,c)::ys)
def bc:List Ob→(List Ob→Prop)→Prop
  | [],k=>k []
  | x::xs,k=>bc xs fun ys=>k (x::ys)
def ul (S:St) (key:Key) (i:Nat) (k:List AV→Prop):Prop :=
  match key with
  | .L d =>
    match aJ S.l d with
    | some row=>match i with | 0=>k row | _ + 1=>ah 7
    | none=>ah 8
  | .O id =>
    match S.o[id]? with
    | some (.arr _ _ rows)=>match rows[i]? with | some row=>k row | none=>ah 9
    | _=>ah 10
  | .S _ _=>ah 11
def BO (S:St) (a:AV) (k:List AV→Nat→Prop):Prop :=
  match a with
  | .ptr key i j=>ul S key i fun row=>k row j
  | .fptr row j=>k row j
  | _=>ah 11
def gu (P:Program) (t:TypeId) (row:List AV) (j:Nat) (k:AV→Prop):Prop :=
  match P.underlying t with
  | some (.struct _) | some (.array _ _) =>
    match P.info? t with
    | some i=>bw (Nat.ble (j + i.size) row.length) (gp ((row.drop j).take i.size) fun cs=>k (.agg cs))
    | none=>ah 12
  | some _=>match row[j]? with | some c=>k c | none=>ah 13
  | none=>ah 14
def jW (S:St) (a:AV) (cs:List AV) (K:St→Prop):Prop :=
  match a with
  | .ptr (.L d) i j =>
    match aJ S.l d with
    | some row =>
      match i with
      | 0=>bw (Nat.ble (j + cs.length) row.length) (gp (splice row j cs) fun row'=>lW (o_ S.l d row') fun l=>K { t:=S.t,l:=l,o:=S.o,b:=S.b })
      | _ + 1=>ah 15
    | none=>ah 16
  | .ptr (.O id) i j =>
    match S.o[id]? with
    | some (.arr fl sz rows) =>
      match rows[i]? with
      | some row=>bw (Nat.ble (j + cs.length) row.length&&cs.all (rL 4)) (gp (splice row j cs) fun row'=>bc (S.o.set id (.arr (fl&&cs.all (cN 4)) sz (rows.set i row'))) fun o=>K { t:=S.t,l:=S.l,o:=o,b:=S.b })
      | none=>ah 17
    | _=>ah 18
  | _=>ah 19
def Dn (op:BinOp) (x y:Value):Option Value :=
  match x,y with
  | .int k a,.int k' b =>
    match op with
    | .add=>if k=k' then some (.int k (k.wrap (a + b))) else none
    | .sub=>if k=k' then some (.int k (k.wrap (a - b))) else none
    | .mul=>if k=k' then some (.int k (k.wrap (a * b))) else none
    | .eql=>if k=k' then some (.bool (a==b)) else none
    | .neq=>if k=k' then some (.bool (a != b)) else none
    | .lss=>if k=k' then some (.bool (a<b)) else none
    | .leq=>if k=k' then some (.bool (a≤b)) else none
    | .gtr=>if k=k' then some (.bool (a>b)) else none
    | .geq=>if k=k' then some (.bool (a≥b)) else none
    | .and=>if k=k' then some (.int k (k.wrap (BitVec.ofInt k.bits a &&& BitVec.ofInt k.bits b).toNat)) else none
    | .or=>if k=k' then some (.int k (k.wrap (BitVec.ofInt k.bits a ||| BitVec.ofInt k.bits b).toNat)) else none
    | .xor=>if k=k' then some (.int k (k.wrap (BitVec.ofInt k.bits a ^^^ BitVec.ofInt k.bits b).toNat)) else none
    | .andNot=>if k=k' then some (.int k (k.wrap (BitVec.ofInt k.bits a &&& ~~~ BitVec.ofInt k.bits b).toNat)) else none
    | _=>none
  | .string a,.string b =>
    match op with
    | .eql=>some (.bool (a.toList==b.toList))
    | .neq=>some (.bool (!(a.toList==b.toList)))
    | .lss=>some (.bool (Op.bytesLess a.toList b.toList))
    | _=>none
  | _,_=>none
def sd (op:BinOp) (x y:Value) (K:Value→Prop):Prop :=
  match op,x,y with
  | .quo,.int k a,.int k' b=>bw (decide (k=k')&&!(b==0)) (K (.int k (k.wrap (a.tdiv b))))
  | .rem,.int k a,.int k' b=>bw (decide (k=k')&&!(b==0)) (K (.int k (a.tmod b)))
  | .shl,.int k a,.int _ b=>bw (decide (0≤b)) (K (.int k (k.wrap (a * 2 ^ (min b.toNat k.bits)))))
  | .shr,.int k a,.int _ b=>bw (decide (0≤b)) (K (.int k (a.fdiv (2 ^ (min b.toNat k.bits)))))
  | .add,.string a,.string b=>bw (decide (((a.size + b.size:Nat):Int)≤9223372036854775807)) (K (.string (a++b)))
  | _,_,_=>ah 20
def FK:AV→Option Value
  | .v x=>some x
  | _=>none
def rx:List AV→Option (List Value)
  | []=>some []
  | a::as=>match FK a,rx as with
    | some x,some xs=>some (x::xs)
    | _,_=>none
def aw {α:Type} (P:Program):Sem α→Option α
  | .pure a=>some a
  | .program k=>aw P (k P)
  | _=>none
def zV (x y:AV):Option Bool :=
  match x,y with
  | .nilp,.nilp | .nilsl,.nilsl | .nilmap,.nilmap | .nilfn,.nilfn=>some true
  | .ptr ..,.nilp | .nilp,.ptr .. | .fptr ..,.nilp | .nilp,.fptr ..=>some false
  | .sl (_::_),.nilsl | .nilsl,.sl (_::_)=>some false
  | .mp _,.nilmap | .nilmap,.mp _=>some false
  | .fn ..,.nilfn | .nilfn,.fn ..=>some false
  | _,_=>none
def xo (P:Program) (op:BinOp) (t:TypeId) (a b:Bool) (K:AV→Prop):Prop :=
  match P.underlying t with
  | some .bool=>match op with
    | .eql=>K (.v (.bool (a==b)))
    | .neq=>K (.v (.bool (!(a==b))))
    | _=>ah 221
  | _=>ah 222
def uX (P:Program) (op:BinOp) (t:TypeId) (a b:Value) (K:AV→Prop):Prop :=
  match Dn op a b with
  | some c=>K (.v c)
  | none=>match a,b with
    | .bool x,.bool y=>xo P op t x y K
    | a,b=>sd op a b fun c=>K (.v c)
def BQ (op:BinOp) (x y:AV) (K:AV→Prop):Prop :=
  match op with
  | .eql=>match zV x y with | some b=>K (.v (.bool b)) | none=>ah 223
  | .neq=>match zV x y with | some b=>K (.v (.bool (!b))) | none=>ah 224
  | _=>ah 225
def kindOk (P:Program) (t:TypeId) (x y:AV):Bool :=
  match P.underlying t,x,y with
  | some (.pointer _),.nilp,_ | some (.pointer _),_,.nilp=>true
  | some (.slice _),.nilsl,_ | some (.slice _),_,.nilsl=>true
  | some (.map _ _),.nilmap,_ | some (.map _ _),_,.nilmap=>true
  | some (.func _ _ _),.nilfn,_ | some (.func _ _ _),_,.nilfn=>true
  | _,_,_=>false
def co (P:Program) (op:BinOp) (t:TypeId) (xs ys:List Value):Option Value :=
  aw P (do eqGuard op t (.tmp 0) (.tmp 0) (.agg xs.toArray) (.agg ys.toArray); binOp op t (.agg xs.toArray) (.agg ys.toArray))
def yO (P:Program) (op:BinOp) (t:TypeId) (x y:AV) (K:AV→Prop):Prop :=
  match x,y with
  | .v a,.v b=>uX P op t a b K
  | .agg as,.agg bs =>
    match rx as,rx bs with
    | some xs,some ys =>
      match co P op t xs ys with
      | some (.bool b)=>K (.v (.bool b))
      | _=>ah 226
    | _,_=>ah 227
  | x,y=>bw (kindOk P t x y) (BQ op x y K)
def FL (op:UnOp) (x:AV) (K:AV→Prop):Prop :=
  match op,x with
  | .not,.v (.bool b)=>K (.v (.bool (!b)))
  | .neg,.v (.int k n)=>K (.v (.int k (k.wrap (0 - n))))
  | .xor,.v (.int k n)=>K (.v (.int k (k.wrap (BitVec.ofInt k.bits (if k.signed then -1 else k.max) ^^^ BitVec.ofInt k.bits n).toNat)))
  | _,_=>ah 28
def cr (P:Program) (e:TypeId) (k:List AV→Prop):Prop :=
  match P.info? e with
  | some i=>match i.zero with
    | some z=>bw (z.cells.size==i.size) (rK (z.cells.toList.map r8) k)
    | none=>ah 29
  | none=>ah 30
def dV:List Nat→Nat→Bool
  | [],_=>false
  | x::xs,d=>Nat.beq x d||dV xs d
def uY (d:Nat) (S:St) (K:St→Prop):Prop :=
  match aJ S.l d with
  | none=>K S
  | some _=>ky (.L d) S.t fun t=>kP (.L d) (m_ S.l d) fun l=>K { t:=t,l:=l,o:=S.o,b:=S.b }
def kR:List Nat→St→(St→Prop)→Prop
  | [],S,K=>K S
  | d::ds,S,K=>uY d S fun S'=>kR ds S' K
def xp (pl:bA) (dst:Option Tmp) (cs:List AV) (S:St) (K:St→Prop):Prop :=
  match dst with
  | none=>ah 31
  | some d=>bw (Nat.blt 0 cs.length) (
    match dV pl.esc d with
    | true=>bw (cs.all (rL 4)) (bc (S.o++[.arr (cs.all (cN 4)) cs.length [cs]]) fun o=>qc S.t d (.ptr (.O S.o.length) 0 0) fun t=>K { t:=t,l:=S.l,o:=o,b:=S.b })
    | false=>uY d S fun S'=>ky (.L d) cs fun cs'=>qc S'.t d (.ptr (.L d) 0 0) fun t'=>K { t:=t',l:=(d,cs')::S'.l,o:=S'.o,b:=S'.b })
def ly (place:Nat→Option (Nat×Nat)):List AV→List (Nat×AV)→(List AV→Prop)→Prop
  | cells,[],k=>gp cells k
  | cells,(i,x)::rest,k =>
    match place i with
    | some (off,size)=>kQ x fun cs=>bw (Nat.beq cs.length size&&Nat.ble (off + cs.length) cells.length) (ly place (splice cells off cs) rest k)
    | none=>ah 32
def v6 (P:Program) (fs:Array Field) (i:Nat):Option (Nat×Nat) :=
  match fs[i]? with
  | some f=>match P.info? f.type with
    | some fi=>some (f.offset,fi.size)
    | none=>none
  | none=>none
def se (P:Program) (t:TypeId) (parts:List (Nat×AV)) (k:AV→Prop):Prop :=
  cr P t fun z =>
  match P.underlying t with
  | some (.struct fs)=>bw (fs.toList.all fun f=>(P.info? f.type).isSome) (ly (v6 P fs) z parts fun cs=>k (.agg cs))
  | some (.array _ e)=>match P.info? e with
    | some i=>ly (fun n=>some (n * i.size,i.size)) z parts fun cs=>k (.agg cs)
    | none=>ah 33
  | _=>ah 34
def pe (n:Nat):Nat→List AV→List (List AV)
  | 0,_=>[]
  | m + 1,xs=>xs.take n::pe n m (xs.drop n)
def eC:List (List AV)→(List (List AV)→Prop)→Prop
  | [],k=>k []
  | x::xs,k=>gp x fun y=>eC xs fun ys=>k (y::ys)
def io (P:Program) (pl:bA) (dst:Option Tmp) (t:TypeId) (len:Nat) (parts:List (Nat×AV)) (S:St) (K:St→Prop):Prop :=
  match len with
  | 0=>match P.underlying t with
    | some (.slice e)=>match P.info? e with
      | some _=>bw (parts.isEmpty) (br dst .esl S K)
      | none=>ah 35
    | _=>ah 36
  | len + 1 =>
    match P.underlying t with
    | some (.slice e)=>match P.info? e with
      | some i=>cr P e fun z=>bw (Nat.blt 0 i.size&&Nat.ble ((len + 1) * i.size) 16777216) (ly (fun n=>some (n * i.size,i.size)) (List.replicate (len + 1) z).flatten parts fun cs =>
          match dV pl.ms (dst.getD 0)||!(cs.all (cN 4)) with
          | false=>eC (pe i.size (len + 1) cs) fun rows=>br dst (.sl rows) S K
          | true=>bw (cs.all (rL 4)) (eC (pe i.size (len + 1) cs) fun rows=>bc (S.o++[.arr (cs.all (cN 4)) i.size rows]) fun o=>br dst (.mf S.o.length) { t:=S.t,l:=S.l,o:=o,b:=S.b } K))
      | none=>ah 37
    | _=>ah 38
def lX (P:Program) (pl:bA) (dst:Option Tmp) (t:TypeId) (len:Nat) (parts:List (Nat×AV)) (k:AV→Prop):Prop :=
  match len with
  | 0=>match P.underlying t with
    | some (.slice e)=>match P.info? e with
      | some _=>bw (parts.isEmpty) (k .esl)
      | none=>ah 213
    | _=>ah 214
  | len + 1 =>
    match P.underlying t with
    | some (.slice e)=>match P.info? e with
      | some i=>cr P e fun z=>bw (Nat.blt 0 i.size&&Nat.ble ((len + 1) * i.size) 16777216) (ly (fun n=>some (n * i.size,i.size)) (List.replicate (len + 1) z).flatten parts fun cs =>
          bw (!(dV pl.ms (dst.getD 0))&&cs.all (cN 4)) (eC (pe i.size (len + 1) cs) fun rows=>k (.sl rows)))
      | none=>ah 215
    | _=>ah 216
def BR (P:Program) (t:TypeId) (S:St) (x:AV) (k:AV→Prop):Prop :=
  match P.underlying t with
  | some (.slice _)=>match x with
    | .nilsl | .esl=>k (.v (.int .i64 0))
    | .sl rows=>k (.v (.int .i64 rows.length))
    | .mf id=>match S.o[id]? with | some (.arr _ _ rows)=>k (.v (.int .i64 rows.length)) | some (.own none _ cells _)=>k (.v (.int .i64 cells.length)) | _=>ah 39
    | .msl _ _ len _=>k (.v (.int .i64 len))
    | .bsl _ _ len=>k (.v (.int .i64 len))
    | _=>ah 40
  | some .string=>match x with
    | .v (.string s)=>k (.v (.int .i64 s.size))
    | _=>ah 41
  | some (.array n _)=>k (.v (.int .i64 n))
  | some (.map _ _)=>match x with
    | .nilmap=>k (.v (.int .i64 0))
    | .mp id=>match S.o[id]? with | some (.mapo _ es)=>k (.v (.int .i64 es.length)) | _=>ah 42
    | _=>ah 43
  | _=>ah 44
def iK (size:Nat) (S:St) (x:AV) (k:Bool→List (List AV)→Prop):Prop :=
  match x with
  | .nilsl | .esl=>k true []
  | .sl rows=>bw (fE size rows) (k true rows)
  | .mf id=>match S.o[id]? with | some (.arr fl sz rows)=>bw (Nat.beq sz size) (k fl rows) | _=>ah 45
  | .msl id off len _=>match S.o[id]? with | some (.arr fl sz rows)=>bw (Nat.beq sz size) (k fl ((rows.drop off).take len)) | _=>ah 46
  | .v (.string s)=>bw (Nat.beq size 1) (k true (s.data.toList.map fun b=>[.v (.int .u8 b.toNat)]))
  | .bsl (.O id) off len=>ul S (.O id) 0 fun row=>bw (Nat.beq size 1&&Nat.ble (off + len) row.length&&((row.drop off).take len).all (sc 2)) (k true (((row.drop off).take len).map fun c=>[c]))
  | _=>ah 47
def sf (S:St) (id:Nat):Bool:=Nat.blt id S.b
def na (S:St) (id:Nat) (ob:Ob) (k:St→Nat→Prop):Prop :=
  ky (.O id) S.t fun t=>kP (.O id) S.l fun l=>gq (.O id) S.o fun o =>
    match sf S id with
    | false=>bc (o.set id (dH (.O id) ob)) fun o'=>k { t:=t,l:=l,o:=o',b:=S.b } id
    | true=>bc (o.set id .dead++[dH (.O id) ob]) fun o'=>k { t:=t,l:=l,o:=o',b:=S.b } o.length
def bu (src:List (List AV)):Bool:=src.all fun r=>r.all jV
def D8 (i:TypeInfo):Bool:=match i.zero with | some z=>Nat.beq z.cells.size i.size | none=>false
def jH (P:Program) (ts:List TypeId) (base x:AV) (S:St) (k:St→AV→Prop):Prop :=
  match ts with
  | [t0,t1] =>
    match P.underlying t0 with
    | some (.slice e) =>
      match P.info? e with
      | some i=>bw (Nat.blt 0 i.size&&Nat.blt 0 i.bytes&&D8 i&&(match P.underlying t1 with | some (.slice _) | some .string=>true | _=>false)) (iK i.size S x fun fl src=>bw (bu src) (
          match base with
          | .nilsl | .esl=>bw (Nat.ble (src.length * i.bytes) 140737488355328) (bc (S.o++[.arr fl i.size src]) fun o=>k { t:=S.t,l:=S.l,o:=o,b:=S.b } (.mf S.o.length))
          | .mf id=>match S.o[id]? with
            | some (.arr fl' sz rows)=>bw (Nat.beq sz i.size&&Nat.ble ((rows.length + src.length) * i.bytes) 140737488355328&&(fl||!fl')) (na S id (.arr (fl'&&fl) sz (rows++src)) fun S' id'=>k S' (.mf id'))
            | _=>ah 48
          | .msl id off len ext=>match S.o[id]? with
            | some (.arr fl' sz rows)=>bw (Nat.beq sz i.size&&(fl||!fl')) (
              match Nat.ble src.length ext with
              | true=>bw (Nat.ble (off + len + ext) rows.length) (bc (S.o.set id (.arr (fl'&&fl) sz (rows.take (off + len)++(src++rows.drop (off + len + src.length))))) fun o=>k { t:=S.t,l:=S.l,o:=o,b:=S.b } (.msl id off (len + src.length) (ext - src.length)))
              | false=>bw (Nat.ble ((len + src.length) * i.bytes) 140737488355328) (na S id (.arr (fl'&&fl) sz ((rows.drop off).take len++src)) fun S' id'=>k S' (.mf id')))
            | _=>ah 49
          | _=>ah 50))
      | none=>ah 51
    | _=>ah 52
  | _=>ah 53
def Gk:St:={ t:=[],l:=[],o:=[],b:=0 }
def i8 (P:Program) (ts:List TypeId) (base x:AV) (k:AV→Prop):Prop :=
  match ts with
  | [t0,t1] =>
    match P.underlying t0 with
    | some (.slice e) =>
      match P.info? e with
      | some i=>bw (Nat.blt 0 i.size&&Nat.blt 0 i.bytes&&D8 i&&(match P.underlying t1 with | some (.slice _) | some .string=>true | _=>false)) (iK i.size Gk x fun fl src=>bw (fl&&bu src&&Nat.ble (src.length * i.bytes) 140737488355328) (
          match base with
          | .nilsl | .esl=>k (.sl src)
          | _=>ah 254))
      | none=>ah 255
    | _=>ah 256
  | _=>ah 257
def i9 (P:Program) (ts:List TypeId) (base:AV) (n:Int) (S:St) (k:St→AV→Prop):Prop :=
  match ts with
  | [t0,t1] =>
    match P.underlying t0,P.underlying t1 with
    | some (.slice e),some (.int _) =>
      match P.info? e with
      | some i=>bw (Nat.blt 0 i.size&&Nat.blt 0 i.bytes&&decide (0<n)&&decide (n * i.bytes≤140737488355328)&&decide (n≤140737488355328)) (cr P e fun z=>bw (z.all (cN 2)) (
          match base with
          | .nilsl | .esl=>bc (S.o++[.arr true i.size (List.replicate n.toNat z)]) fun o=>k { t:=S.t,l:=S.l,o:=o,b:=S.b } (.mf S.o.length)
          | _=>ah 250))
      | none=>ah 251
    | _,_=>ah 252
  | _=>ah 253
def BS (P:Program) (ts:List TypeId) (x:AV) (k:AV→Prop):Prop :=
  match ts with
  | t::_ =>
    match P.underlying t with
    | some (.slice _)=>match x with
      | .nilsl | .esl=>k (.v (.int .i64 0))
      | _=>ah 240
    | _=>ah 241
  | []=>ah 242
def FM:AV→Bool
  | .v _=>true
  | _=>false
def qR (P:Program) (ts:List TypeId) (x y:AV) (M:St) (k:AV→St→Prop):Prop :=
  match ts with
  | t::_ =>
    match P.underlying t with
    | some (.slice e) =>
      match P.info? e with
      | some i=>bw (Nat.blt 0 i.size) (iK i.size M y fun fl src=>bw (bu src&&!(FM y)) (
          match x with
          | .mf id=>match M.o[id]? with
            | some (.arr fl' sz rows)=>bw (Nat.beq sz i.size) (bc (M.o.set id (.arr (fl'&&fl) sz (src.take rows.length++rows.drop src.length))) fun o=>k (.v (.int .i64 ((min src.length rows.length:Nat):Int))) { t:=M.t,l:=M.l,o:=o,b:=M.b })
            | _=>ah 243
          | .msl id off len _=>match M.o[id]? with
            | some (.arr fl' sz rows)=>bw (Nat.beq sz i.size&&Nat.ble (off + len) rows.length) (bc (M.o.set id (.arr (fl'&&fl) sz (rows.take off++(src.take len++rows.drop (off + min src.length len))))) fun o=>k (.v (.int .i64 ((min src.length len:Nat):Int))) { t:=M.t,l:=M.l,o:=o,b:=M.b })
            | _=>ah 244
          | _=>ah 245))
      | none=>ah 246
    | _=>ah 247
  | []=>ah 248
def qd (P:Program) (ts:List TypeId) (x:AV) (S:St) (K:St→Prop):Prop :=
  match ts with
  | t::_ =>
    match P.underlying t with
    | some (.slice e) =>
      match P.info? e with
      | some i=>bw (Nat.blt 0 i.size) (
          match x with
          | .nilsl | .esl=>K S
          | .msl id off len _=>match S.o[id]? with
            | some (.arr fl sz rows)=>bw (Nat.beq sz i.size&&Nat.ble (off + len) rows.length) (cr P e fun z=>bw (z.all (cN 2)&&z.all jV) (bc (S.o.set id (.arr (fl&&true) sz (rows.take off++(List.replicate len z++rows.drop (off + len))))) fun o=>K { t:=S.t,l:=S.l,o:=o,b:=S.b }))
            | _=>ah 267
          | _=>ah 268)
      | none=>ah 269
    | _=>ah 270
  | []=>ah 271
def intOf (a:AV) (k:Int→Prop):Prop :=
  match a with
  | .v (.int _ n)=>k n
  | _=>ah 60
def bP (P:Program) (t:TypeId) (l c:AV) (S:St) (k:St→AV→Prop):Prop :=
  match P.underlying t with
  | some (.slice e) =>
    match P.info? e with
    | some i=>intOf l fun l=>intOf c fun c=>bw (decide (0≤l)&&decide (l≤c)&&decide (i.bytes * c≤140737488355328)&&decide (c≤140737488355328)&&Nat.blt 0 i.size)
        (cr P e fun z=>bw (z.all (cN 2)) (bc (S.o++[.arr true i.size (List.replicate l.toNat z)]) fun o=>k { t:=S.t,l:=S.l,o:=o,b:=S.b } (.mf S.o.length)))
    | none=>ah 61
  | _=>ah 62
def qe (len cap:Nat) (lo hi mx:Option Int) (k:Nat→Nat→Nat→Prop):Prop :=
  match lo,hi,mx with
  | none,none,none=>k 0 len cap
  | some l,none,none=>bw (decide (0≤l)&&decide (l≤len)) (k l.toNat len cap)
  | none,some h,none=>bw (decide (0≤h)&&decide (h≤cap)) (k 0 h.toNat cap)
  | some l,some h,none=>bw (decide (0≤l)&&decide (l≤h)&&decide (h≤cap)) (k l.toNat h.toNat cap)
  | none,some h,some m=>bw (decide (0≤h)&&decide (h≤m)&&decide (m≤cap)) (k 0 h.toNat m.toNat)
  | some l,some h,some m=>bw (decide (0≤l)&&decide (l≤h)&&decide (h≤m)&&decide (m≤cap)) (k l.toNat h.toNat m.toNat)
  | _,_,_=>ah 63
def gO:Option Int→Bool
  | some (.ofNat 0)=>true
  | _=>false
def gT (P:Program) (t:TypeId) (x:AV) (lo hi mx:Option Int) (S:St) (k:AV→Prop):Prop :=
  match P.underlying t with
  | some .string =>
    match x,mx with
    | .v (.string s),none=>qe s.size s.size lo hi none fun l h _=>k (.v (.string (s.extract l h)))
    | _,_=>ah 64
  | some (.slice e) =>
    match P.info? e with
    | some i=>bw (Nat.blt 0 i.size) (
      match x with
      | .nilsl=>qe 0 0 lo hi mx fun _ _ _=>k .nilsl
      | .esl=>qe 0 0 lo hi mx fun _ _ _=>k .esl
      | .sl rows=>bw (fE i.size rows) (qe rows.length rows.length lo hi mx fun l h _ =>
        match lo,hi,gO hi&&gO mx with
        | _,_,true=>k .esl
        | none,none,_=>k (.sl rows)
        | _,none,_=>k (.sl (rows.drop l))
        | none,_,_=>k (.sl (rows.take h))
        | _,_,_=>k (.sl ((rows.drop l).take (h - l))))
      | .mf id=>match S.o[id]? with
        | some (.arr _ sz rows)=>bw (Nat.beq sz i.size) (qe rows.length rows.length lo hi mx fun l h m =>
          match lo,hi,gO hi&&gO mx with
          | _,_,true=>k .esl
          | none,none,_=>k (.mf id)
          | _,none,_=>k (.msl id l (rows.length - l) 0)
          | _,_,_=>k (.msl id l (h - l) (m - h)))
        | _=>ah 65
      | .msl id off len ext=>match S.o[id]? with
        | some (.arr _ sz _)=>bw (Nat.beq sz i.size) (qe len (len + ext) lo hi mx fun l h m =>
          match gO hi&&gO mx with
          | true=>k .esl
          | false=>k (.msl id (l + off) (h - l) (m - h)))
        | _=>ah 66
      | _=>ah 67)
    | none=>ah 68
  | some (.array n e) =>
    match P.info? e,x with
    | some i,.ptr key 0 j=>bw (Nat.beq i.size 1) (qe n n lo hi mx fun l h m=>bw (Nat.blt l m) (k (.bsl key (j + l) (h - l))))
    | _,_=>ah 263
  | _=>ah 69
def fS (P:Program) (t:TypeId) (x ix:AV) (S:St) (k:AV→Prop):Prop :=
  intOf ix fun i =>
  match P.underlying t with
  | some (.slice e) =>
    match P.info? e with
    | some inf =>
      match x with
      | .sl rows=>match (if 0≤i then rows[i.toNat]? else none) with
        | some row=>bw (Nat.beq row.length inf.size&&Nat.blt 0 inf.size) (k (.fptr row 0))
        | none=>ah 70
      | .mf id=>match S.o[id]? with
        | some (.arr _ _ rows)=>match (if 0≤i then rows[i.toNat]? else none) with
          | some row=>bw (Nat.beq row.length inf.size&&Nat.blt 0 inf.size) (k (.ptr (.O id) i.toNat 0))
          | none=>ah 71
        | some (.own none _ cells _)=>bw (decide (0≤i)&&Nat.blt i.toNat cells.length&&Nat.beq inf.size 1) (k (.ptr (.O id) i.toNat 0))
        | _=>ah 72
      | .msl id off len _=>match S.o[id]? with
        | some (.arr _ _ rows)=>bw (decide (0≤i)&&decide (i<len)) (match rows[i.toNat + off]? with
          | some row=>bw (Nat.beq row.length inf.size&&Nat.blt 0 inf.size) (k (.ptr (.O id) (i.toNat + off) 0))
          | none=>ah 73)
        | _=>ah 74
      | _=>ah 75
    | none=>ah 76
  | some (.array len e) =>
    match P.info? e with
    | some inf=>bw (decide (0≤i)&&decide (i<len)) (
      match x with
      | .ptr key a j=>k (.ptr key a (i.toNat * inf.size + j))
      | .fptr row j=>k (.fptr row (i.toNat * inf.size + j))
      | _=>ah 77)
    | none=>ah 78
  | _=>ah 79
def nF (P:Program) (t:TypeId) (x ix:AV) (k:AV→Prop):Prop :=
  intOf ix fun i =>
  match P.underlying t,x with
  | some (.array len e),.agg cs=>match P.info? e with
    | some inf=>bw (decide (0≤i)&&decide (i<len)) (gu P e cs (i.toNat * inf.size) k)
    | none=>ah 80
  | some .string,.v (.string s)=>match (if 0≤i then s[i.toNat]? else none) with
    | some b=>k (.v (.int .u8 b.toNat))
    | none=>ah 81
  | _,_=>ah 82
def i_ (P:Program) (t:TypeId) (x:AV) (f:Nat) (k:AV→Prop):Prop :=
  match P.underlying t with
  | some (.struct fs)=>match fs[f]? with
    | some fl=>match P.info? fl.type with
      | some inf=>bw (Nat.blt 0 inf.size) (match x with
        | .ptr key i j=>k (.ptr key i (j + fl.offset))
        | .fptr row j=>k (.fptr row (j + fl.offset))
        | _=>ah 83)
      | none=>ah 84
    | none=>ah 85
  | _=>ah 86
def sg (P:Program) (t:TypeId) (x:AV) (f:Nat) (k:AV→Prop):Prop :=
  match P.underlying t,x with
  | some (.struct fs),.agg cs=>match fs[f]? with
    | some fl=>gu P fl.type cs fl.offset k
    | none=>ah 87
  | _,_=>ah 88
def bytesOf:List (List AV)→Option (List UInt8)
  | []=>some []
  | [.v (.int .u8 n)]::rs=>match bytesOf rs with | some bs=>some (UInt8.ofNat n.toNat::bs) | none=>none
  | _=>none
def lY (P:Program) (src dst:TypeId) (x:AV) (k:AV→Prop):Prop :=
  match P.underlying src,P.underlying dst with
  | some _,some (.int kd)=>match x with | .v (.int _ n)=>k (.v (.int kd (kd.wrap n))) | _=>ah 89
  | some .string,some .string=>match x with | .v (.string s)=>k (.v (.string s)) | _=>ah 90
  | _,_=>ah 92
def fX (P:Program) (src dst:TypeId) (x:AV) (S:St) (k:AV→Prop):Prop :=
  match P.underlying src,P.underlying dst with
  | some (.slice e),some .string =>
    match P.underlying e with
    | some (.int .u8)=>bw (!(FM x)) (iK 1 S x fun _ rows=>match bytesOf rows with | some bs=>k (.v (.string ⟨bs.toArray⟩)) | none=>ah 261)
    | _=>ah 262
  | _,_=>lY P src dst x k
def si (S:St) (x:AV):Bool :=
  match x with
  | .mf id=>match S.o[id]? with
    | some (.arr _ _ (_::_))=>true
    | _=>false
  | .msl _ _ len ext=>Nat.blt 0 (len + ext)
  | _=>false
def sj (P:Program) (op:BinOp) (t:TypeId) (x y:AV) (S:St) (k:AV→Prop):Prop :=
  match si S x,y with
  | true,.nilsl=>match P.underlying t,op with
    | some (.slice _),.eql=>k (.v (.bool false))
    | some (.slice _),.neq=>k (.v (.bool true))
    | _,_=>ah 265
  | _,_=>yO P op t x y k
def ip {α β:Type} (f:α→Option β):List α→Option (List β)
  | []=>some []
  | x::xs=>match f x,ip f xs with
    | some y,some ys=>some (y::ys)
    | _,_=>none
def qf (f:AV→Option AV) (fl:Bool) (rows:List (List AV)):Option (List (List AV)) :=
  match fl with
  | true=>some rows
  | false=>ip (ip f) rows
def D9 (f:AV→Option AV) (fl:Bool) (row:List AV):Option (List AV) :=
  match fl with
  | true=>some row
  | false=>ip f row
def yL (o:List Ob):Nat→AV→Option AV
  | 0,_=>none
  | n + 1,a =>
    match a with
    | .v x=>some (.v x)
    | .nilp=>some .nilp
    | .fptr r j=>some (.fptr r j)
    | .nilsl=>some .nilsl
    | .esl=>some (.sl [])
    | .sl r=>some (.sl r)
    | .nilmap=>some .nilmap
    | .nilfn=>some .nilfn
    | .mf id=>match o[id]? with
      | some (.arr fl _ rows)=>match qf (yL o n) fl rows with | some r=>some (.sl r) | none=>none
      | _=>none
    | .msl id off len _=>match o[id]? with
      | some (.arr fl _ rows)=>match qf (yL o n) fl ((rows.drop off).take len) with | some r=>some (.sl r) | none=>none
      | _=>none
    | .ptr (.O id) i j=>match o[id]? with
      | some (.arr fl _ rows)=>match rows[i]? with
        | some row=>match D9 (yL o n) fl row with | some r=>some (.fptr r j) | none=>none
        | none=>none
      | _=>none
    | .fn f x y=>match ip (yL o n) x,ip (yL o n) y with | some x',some y'=>some (.fn f x' y') | _,_=>none
    | .agg cs=>match ip (yL o n) cs with | some r=>some (.agg r) | none=>none
    | .tup cs=>match ip (yL o n) cs with | some r=>some (.tup r) | none=>none
    | _=>none
def cO (o:List Ob):Nat→AV→List Nat
  | 0,_=>[]
  | n + 1,a =>
    match a with
    | .mf id=>id::(match o[id]? with | some (.arr false _ rows)=>rows.flatten.flatMap (cO o n) | _=>[])
    | .msl id off len _=>id::(match o[id]? with | some (.arr false _ rows)=>((rows.drop off).take len).flatten.flatMap (cO o n) | _=>[])
    | .ptr (.O id) i _=>id::(match o[id]? with | some (.arr false _ rows)=>(match rows[i]? with | some row=>row.flatMap (cO o n) | none=>[]) | _=>[])
    | .fn _ x y=>x.flatMap (cO o n)++y.flatMap (cO o n)
    | .agg cs | .tup cs=>cs.flatMap (cO o n)
    | _=>[]
def v7 (o:List Ob) (a:AV) (k:AV→Prop):Prop :=
  match yL o 6 a with
  | some b=>i7 b k
  | none=>ah 96
def gP (o:List Ob):List AV→(List AV→Prop)→Prop
  | [],k=>k []
  | a::as,k=>v7 o a fun b=>gP o as fun bs=>k (b::bs)
def fb:List Nat→St→(St→Prop)→Prop
  | [],S,K=>K S
  | id::ids,S,K=>ky (.O id) S.t fun t=>kP (.O id) S.l fun l=>gq (.O id) S.o fun o=>bc (o.set id .dead) fun o'=>fb ids { t:=t,l:=l,o:=o',b:=S.b } K
def bL:List Ob→List Ob→Nat→List Nat
  | .dead::xs,_::ys,n=>bL xs ys (n + 1)
  | _::xs,.dead::ys,n=>n::bL xs ys (n + 1)
  | _::xs,_::ys,n=>bL xs ys (n + 1)
  | _,_,_=>[]
def iD:List Nat→List AV→List (Nat×List AV)→(List AV→List (Nat×List AV)→Prop)→Prop
  | [],t,l,K=>K t l
  | id::ids,t,l,K=>ky (.O id) t fun t'=>kP (.O id) l fun l'=>iD ids t' l' K
def uZ (C:Ctx) (f:AV) (args:List AV) (S:St) (k:St→AV→Prop):Prop :=
  match f with
  | .fn fid first cap =>
    match C.pure fid with
    | true=>gP S.o (first++args++cap) fun as=>C.pcall fid as fun r =>
        match sc 4 r with
        | true=>k S r
        | false=>fb ((first++args++cap).flatMap (cO S.o 6)) S fun S'=>k S' r
    | false=>bw ((first++args++cap).all (rL 4)) (C.scall fid (first++args++cap) S.o fun r o'=>iD (bL S.o o' 0) S.t S.l fun t l=>k { t:=t,l:=l,o:=o',b:=S.b } r)
  | _=>ah 97
def uo:AV→Option Value
  | .v x=>some x
  | .agg cs=>match rx cs with | some xs=>some (.agg xs.toArray) | none=>none
  | _=>none
def keysOf:List (AV×AV)→Option (List MapEntry)
  | []=>some []
  | (k,_)::es=>match uo k,keysOf es with
    | some x,some xs=>some ({ key:=x,val:=.bool false,born:=0 }::xs)
    | _,_=>none
def fY (P:Program) (kt:TypeId) (key:AV) (es:List (AV×AV)) (k:Value→Option Nat→Prop):Prop :=
  match uo key,keysOf es with
  | some x,some xs =>
    match aw P (Instr.checkKey xs.isEmpty 10000 kt x),aw P (Instr.findKey kt x xs) with
    | some _,some r=>k x (r.map (·.1))
    | _,_=>ah 98
  | _,_=>ah 99
def lZ (ok:Bool) (x:AV) (b:Bool) (k:AV→Prop):Prop :=
  match ok with
  | true=>k (.tup [x,.v (.bool b)])
  | false=>k x
def gv (P:Program) (e:TypeId) (ok:Bool) (k:AV→Prop):Prop :=
  match P.info? e with
  | some i=>match i.zero with
    | some z=>i7 (AO z) fun z=>lZ ok z false k
    | none=>ah 230
  | none=>ah 231
def hU (P:Program) (e:TypeId) (ok:Bool) (es:List (AV×AV)) (r:Option Nat) (k:AV→Prop):Prop :=
  match r with
  | some i=>match es[i]? with
    | some en=>lZ ok en.2 true k
    | none=>ah 232
  | none=>gv P e ok k
def mM (P:Program) (t:TypeId) (m key:AV) (ok:Bool) (S:St) (k:AV→Prop):Prop :=
  match P.underlying t with
  | some (.map kt e) =>
    match m with
    | .nilmap=>fY P kt key [] fun _ _=>gv P e ok k
    | .mp id=>match S.o[id]? with
      | some (.mapo _ es)=>fY P kt key es fun _ r=>hU P e ok es r k
      | _=>ah 233
    | _=>ah 234
  | _=>ah 235
def v8 (P:Program) (kt:TypeId) (x:Value):Bool:=match aw P (Instr.checkKey false 10000 kt x) with | some _=>true | none=>false
def dW (P:Program) (t:TypeId) (m key x:AV) (S:St) (K:St→Prop):Prop :=
  match P.underlying t with
  | some (.map kt _) =>
    match m with
    | .mp id=>match S.o[id]? with
      | some (.mapo fl es)=>bw (rL 4 x) (fY P kt key es fun kv r=>bw (v8 P kt kv) (
          match r with
          | some i=>bw (Instr.sameBits 10000 ((es[i]?.bind fun e=>uo e.1).getD (.bool false)) kv) (bc (S.o.set id (.mapo (fl&&cN 4 x) (es.set i (key,x)))) fun o=>K { t:=S.t,l:=S.l,o:=o,b:=S.b })
          | none=>bc (S.o.set id (.mapo (fl&&cN 4 x) (es++[(key,x)]))) fun o=>K { t:=S.t,l:=S.l,o:=o,b:=S.b }))
      | _=>ah 106
    | _=>ah 107
  | _=>ah 108
def pop (C:Ctx) (pl:bA) (o:Oper) (vs:List AV) (k:AV→Prop):Prop :=
  match o.op,vs with
  | .move _,[a]=>k a
  | .assign _,[a]=>k a
  | .pick _ _ _,[.v (.bool c),a,b]=>xn c (k a) (k b)
  | .build t parts,vs=>bw (Nat.beq parts.size vs.length) (se C.P t ((parts.toList.map (·.1)).zip vs) k)
  | .buildSlice t len parts,vs=>bw (Nat.beq parts.size vs.length) (lX C.P pl o.dst t len ((parts.toList.map (·.1)).zip vs) k)
  | .nilCheck _,[.ptr x i j]=>k (.ptr x i j)
  | .nilCheck _,[.fptr r j]=>k (.fptr r j)
  | .nilCheck _,[.fn f x y]=>k (.fn f x y)
  | .binOp op t _ _ _,[a,b]=>yO C.P op t a b k
  | .unOp op _ _,[a]=>FL op a k
  | .makeFunc f first cap,vs=>match f with
    | .func fid=>bw (Nat.beq (first.size + cap.size) vs.length) (gp (vs.take first.size) fun xs=>gp (vs.drop first.size) fun ys=>k (.fn fid xs ys))
    | _=>ah 201
  | .fieldAddr t _ f,[a]=>i_ C.P t a f k
  | .field t _ f,[a]=>sg C.P t a f k
  | .index t _ _,[a,i]=>nF C.P t a i k
  | .extract _ ix,[.tup xs]=>nE xs ix k
  | .call c,vs=>match c.callee,vs with
    | .builtin .min,[.v (.int a m),.v (.int b n)]=>bw (decide (a=b)) (k (.v (.int a (if n<m then n else m))))
    | .builtin .max,[.v (.int a m),.v (.int b n)]=>bw (decide (a=b)) (k (.v (.int a (if n>m then n else m))))
    | .builtin .cap,[x]=>BS C.P c.argTypes.toList x k
    | _,_=>ah 204
  | _,_=>ah 207
def nG (C:Ctx) (o:Oper) (vs:List AV) (M:St) (k:AV→Prop):Prop :=
  match o.op,vs with
  | .load t _,[p]=>BO M p fun row j=>gu C.P t row j k
  | .convert src dst _,[a]=>fX C.P src dst a M k
  | .slice t _ lo hi mx,a::rest =>
    match lo,hi,mx,rest with
    | none,none,none,[]=>gT C.P t a none none none M k
    | some _,none,none,[x]=>intOf x fun x=>gT C.P t a (some x) none none M k
    | none,some _,none,[y]=>intOf y fun y=>gT C.P t a none (some y) none M k
    | some _,some _,none,[x,y]=>intOf x fun x=>intOf y fun y=>gT C.P t a (some x) (some y) none M k
    | none,some _,some _,[y,z]=>intOf y fun y=>intOf z fun z=>gT C.P t a none (some y) (some z) M k
    | some _,some _,some _,[x,y,z]=>intOf x fun x=>intOf y fun y=>intOf z fun z=>gT C.P t a (some x) (some y) (some z) M k
    | _,_,_,_=>ah 202
  | .binOp op t _ _ _,[a,b]=>sj C.P op t a b M k
  | .indexAddr t _ _,[a,i]=>fS C.P t a i M k
  | .lookup t _ _ ok,[m,key]=>mM C.P t m key ok M k
  | .call c,vs=>match c.callee with
    | .builtin b=>match b,vs with
      | .len,[x]=>match c.argTypes.toList with | t::_=>BR C.P t M x k | []=>ah 203
      | _,_=>ah 204
    | .value _=>match vs with
      | .fn fid first cap::as=>bw (C.pure fid) (gP M.o (first++as++cap) fun bs=>C.pcall fid bs fun r=>bw (sc 4 r||((first++as++cap).flatMap (cO M.o 6)).isEmpty) (k r))
      | _=>ah 205
    | .invoke _ _=>ah 206
  | _,_=>ah 207
def ED (C:Ctx) (o:Oper) (vs:List AV) (k:AV→Prop):Prop :=
  match o.op,vs with
  | .call c,[x,y]=>match c.callee with
    | .builtin .append=>i8 C.P c.argTypes.toList x y k
    | _=>ah 258
  | _,_=>ah 259
def u0 (C:Ctx) (o:Oper) (vs:List AV) (M:St) (k:AV→St→Prop):Prop :=
  match o.op,vs with
  | .store t _ _,[p,y]=>kQ y fun cs=>match C.P.info? t with
    | some i=>bw (Nat.beq cs.length i.size) (jW M p cs fun M'=>k .bad M')
    | none=>ah 208
  | _,_=>ah 209
def cC (S:St):St:={ t:=[],l:=S.l,o:=S.o,b:=S.b }
def ey (S M:St):St:={ t:=S.t,l:=M.l,o:=M.o,b:=M.b }
def addrOf (o:Oper):Option Nat :=
  match o.op with
  | .load _ (.tmp t)=>some t
  | .store _ (.tmp t) _=>some t
  | _=>none
def eT (pl:bA) (o:Oper):Bool :=
  match o.op with
  | .load _ (.tmp t)=>dV pl.ow t
  | .store _ (.tmp t) _=>dV pl.ow t
  | .makeSlice _ _ _=>dV pl.ow (o.dst.getD 0)
  | .makeMap _ _=>dV pl.ow (o.dst.getD 0)
  | .lookup _ _ _ _=>dV pl.ow (o.dst.getD 0)
  | .mapUpdate _ (.tmp t) _ _=>dV pl.ow t
  | .insert _ (.tmp t) _ _=>dV pl.ow t
  | _=>false
def zW (pl:bA) (o:Oper):Bool :=
  match addrOf o with
  | some t=>dV pl.oh t
  | none=>false
def gw (S:St) (id:Nat) (K:St→Prop):Prop :=
  match S.o[id]? with
  | some (.own ks sz cells (some (j,.nilsl)))=>bw (Nat.blt j cells.length) (bc (S.o.set id (.own ks sz (cells.set j none) none)) fun o=>K { t:=S.t,l:=S.l,o:=o,b:=S.b })
  | some (.own ks sz cells (some (j,.mf k)))=>match S.o[k]? with
    | some (.arr true sz' rows)=>bw (Nat.beq sz' sz&&Nat.blt j cells.length) (fb [k] S fun S1=>bc (S1.o.set id (.own ks sz (cells.set j (some rows)) none)) fun o=>K { t:=S1.t,l:=S1.l,o:=o,b:=S1.b })
    | _=>ah 320
  | some (.own _ _ _ (some _))=>ah 321
  | _=>K S
def kS:List Nat→St→(St→Prop)→Prop
  | [],S,K=>K S
  | id::ids,S,K=>gw S id fun S'=>kS ids S' K
def gU:Option (List (List AV))→AV
  | none=>.nilsl
  | some rows=>.sl rows
def l3:List AV→List (Option (List (List AV)))→List (AV×AV)
  | k::ks,c::cs=>(k,gU c)::l3 ks cs
  | _,_=>[]
def iQ (S:St) (id:Nat) (K:St→Prop):Prop :=
  match S.o[id]? with
  | some (.own (some ks) _ cells none)=>bc (S.o.set id (.mapo true (l3 ks cells))) fun o=>K { t:=S.t,l:=S.l,o:=o,b:=S.b }
  | some (.own none _ cells none)=>bc (S.o.set id (.arr true 1 (cells.map fun c=>[gU c]))) fun o=>K { t:=S.t,l:=S.l,o:=o,b:=S.b }
  | _=>K S
def ja:List Nat→St→(St→Prop)→Prop
  | [],S,K=>K S
  | id::ids,S,K=>iQ S id fun S'=>ja ids S' K
def yP:Nat→List Nat
  | 0=>[]
  | n + 1=>n::yP n
def iL (pl:bA) (id:Nat) (S:St) (K:St→Prop):Prop :=
  match dV pl.cl id with
  | false=>K S
  | true=>kS (yP S.o.length) S fun S1=>match dV pl.fr id with
    | false=>K S1
    | true=>ja (yP S1.o.length) S1 K
def ez (M:St) (id i:Nat) (k:AV→St→Prop):Prop :=
  match M.o[id]? with
  | some (.own ks sz cells none)=>match cells[i]? with
    | some none=>k .nilsl M
    | some (some rows)=>bc (M.o.set id (.own ks sz cells (some (i,.mf M.o.length)))++[.arr true sz rows]) fun o=>k (.mf M.o.length) { t:=M.t,l:=M.l,o:=o,b:=M.b }
    | none=>ah 322
  | _=>ah 323
def gx (P:Program) (t:TypeId) (same:Bool) (M:St) (id i:Nat) (k:AV→St→Prop):Prop :=
  match same with
  | true=>match M.o[id]? with
    | some (.own none _ cells (some (j,a)))=>bw (Nat.beq i j&&Nat.blt j cells.length) (gu P t [a] 0 fun r=>k r M)
    | _=>ah 324
  | false=>ez M id i fun a M'=>gu P t [a] 0 fun r=>k r M'
def qg (v:AV):Bool:=match v with | .nilsl=>true | .mf _=>true | _=>false
def gy (hole:Option (Nat×AV)) (i:Nat):Bool :=
  match hole with
  | none=>true
  | some (j,_)=>Nat.beq i j
def fc (P:Program) (t:TypeId) (M:St) (id i:Nat) (v:AV) (K:St→Prop):Prop :=
  match P.info? t,M.o[id]? with
  | some inf,some (.own none sz cells hole)=>bw (qg v&&Nat.blt i cells.length&&Nat.beq inf.size 1&&gy hole i) (bc (M.o.set id (.own none sz cells (some (i,v)))) fun o=>K { t:=M.t,l:=M.l,o:=o,b:=M.b })
  | _,_=>ah 325
def zX:List (Nat×Nat)→Option Nat→Nat→Nat
  | [],_,n=>n
  | (s,j)::ix,d,n=>match d with
    | some e=>match Nat.beq s e with | true=>j | false=>zX ix d n
    | none=>n
def nH (j:Nat) (o:List Ob) (b:Nat) (ob:Ob) (k:List Ob→Prop):Prop :=
  match (o++List.replicate (j + 1 - o.length) Ob.dead)[j]? with
  | some .dead=>bw (Nat.ble b j) (bc ((o++List.replicate (j + 1 - o.length) Ob.dead).set j ob) k)
  | _=>ah 331
def fF (P:Program) (j:Nat) (t:TypeId) (l c:AV) (M:St) (k:AV→St→Prop):Prop :=
  match P.underlying t with
  | some (.slice e) =>
    match P.info? e,P.underlying e with
    | some i,some (.slice e2)=>match P.info? e2 with
      | some i2=>intOf l fun l=>intOf c fun c=>bw (decide (0≤l)&&decide (l≤c)&&decide (i.bytes * c≤140737488355328)&&decide (c≤140737488355328)&&Nat.blt 0 i.size&&Nat.beq i.size 1&&Nat.blt 0 i2.size)
          (cr P e fun z=>match z with
            | [.nilsl]=>nH j M.o M.b (.own none i2.size (List.replicate l.toNat none) none) fun o=>k (.mf j) { t:=M.t,l:=M.l,o:=o,b:=M.b }
            | _=>ah 325)
      | none=>ah 326
    | _,_=>ah 61
  | _=>ah 62
def eU (P:Program) (t:TypeId) (M:St) (k:AV→St→Prop):Prop :=
  match P.underlying t with
  | some (.map _ e)=>match P.underlying e with
    | some (.slice e2)=>match P.info? e2 with
      | some i2=>bw (Nat.blt 0 i2.size) (bc (M.o++[.own (some []) i2.size [] none]) fun o=>k (.mp M.o.length) { t:=M.t,l:=M.l,o:=o,b:=M.b })
      | none=>ah 336
    | _=>ah 337
  | _=>ah 338
def jI:List AV→List (AV×AV)
  | []=>[]
  | k::ks=>(k,.bad)::jI ks
def gz (P:Program) (t:TypeId) (m key:AV) (ok:Bool) (M:St) (k:AV→St→Prop):Prop :=
  match P.underlying t with
  | some (.map kt e)=>match m with
    | .mp id=>match M.o[id]? with
      | some (.own (some ks) _ _ none)=>fY P kt key (jI ks) fun _ r=>match r with
        | some i=>ez M id i fun a M'=>lZ ok a true fun r=>k r M'
        | none=>gv P e ok fun r=>k r M
      | _=>ah 333
    | _=>ah 334
  | _=>ah 335
def hZ (P:Program) (t:TypeId) (m key x:AV) (M:St) (K:St→Prop):Prop :=
  match P.underlying t with
  | some (.map kt _)=>match m with
    | .mp id=>match M.o[id]? with
      | some (.own (some ks) sz cells hole)=>bw (qg x) (fY P kt key (jI ks) fun kv r=>bw (v8 P kt kv) (match r with
          | some i=>bw (Instr.sameBits 10000 ((ks[i]?.bind uo).getD (.bool false)) kv&&gy hole i) (bc (M.o.set id (.own (some (ks.set i key)) sz cells (some (i,x)))) fun o=>K { t:=M.t,l:=M.l,o:=o,b:=M.b })
          | none=>match hole with
            | none=>bc (M.o.set id (.own (some (ks++[key])) sz (cells++[none]) (some (cells.length,x)))) fun o=>K { t:=M.t,l:=M.l,o:=o,b:=M.b }
            | some _=>ah 339))
      | _=>ah 340
    | _=>ah 341
  | _=>ah 342
def gV (M:St) (p:AV) (k:Nat→Nat→Prop):Prop :=
  match p with
  | .ptr (.O id) i 0=>match M.o[id]? with
    | some (.own none _ _ _)=>k id i
    | _=>ah 331
  | _=>ah 332
def jD (P:Program) (pl:bA) (o:Oper) (vs:List AV) (M:St) (k:AV→St→Prop):Prop :=
  match o.op,vs with
  | .load t _,[p]=>gV M p fun id i=>gx P t (zW pl o) M id i k
  | .store t _ _,[p,v]=>gV M p fun id i=>fc P t M id i v fun M'=>k .bad M'
  | .makeSlice t _ _,[l,c]=>fF P (zX pl.ix o.dst M.o.length) t l c M k
  | .makeMap t none,[]=>eU P t M k
  | .lookup t _ _ ok,[m,key]=>gz P t m key ok M k
  | .mapUpdate t _ _ _,[m,key,x]=>hZ P t m key x M fun M'=>k .bad M'
  | .insert t _ _ _,[m,key,x]=>hZ P t m key x M fun M'=>k .bad M'
  | _,_=>ah 330
def v9 (C:Ctx) (pl:bA) (o:Oper) (S:St) (K:St→Prop):Prop :=
  cY S o.op.operands.toList fun vs=>jD C.P pl o vs (cC S) fun r M=>br o.dst r (ey S M) K
def BU (x:Operand):Bool :=
  match x with
  | .const (.slice none 0 0)=>true
  | _=>false
def BV (o:Oper):Nat :=
  match o.op with
  | .binOp _ _ _ y _=>match BU y with | true=>1 | false=>0
  | .move _ | .assign _ | .pick _ _ _ | .build _ _ | .nilCheck _ | .unOp _ _ _ | .makeFunc _ _ _ | .fieldAddr _ _ _ | .field _ _ _ | .index _ _ _ | .extract _ _=>0
  | .load _ _ | .convert _ _ _ | .slice _ _ _ _ _ | .indexAddr _ _ _ | .lookup _ _ _ _=>1
  | .store _ _ _=>2
  | .call c=>match c.callee with
    | .builtin .min | .builtin .max | .builtin .cap=>0
    | .builtin .len=>1
    | _=>3
  | _=>3
def u4 (pl:bA) (o:Oper):Nat :=
  match o.op with
  | .buildSlice _ _ _=>match dV pl.ms (o.dst.getD 0) with | true=>3 | false=>0
  | .alloc _=>4
  | .makeSlice _ _ _=>2
  | .call c=>match c.callee with
    | .value (.func f)=>match dV pl.dc f with | true=>2 | false=>match dV pl.st f with | true=>3 | false=>1
    | .value _=>1
    | .builtin .append=>match dV pl.fz (o.dst.getD 0) with | true=>5 | false=>3
    | _=>BV o
  | _=>BV o
def eG (pl:bA) (o:Oper):Nat :=
  match eT pl o with
  | true=>2
  | false=>u4 pl o
def xr (pl:bA) (o:Oper):Bool :=
  match o.op with
  | .alloc _=>true
  | .box _ _=>!(dV pl.esc (o.dst.getD 0))
  | _=>false
def AP (C:Ctx) (pl:bA) (o:Oper) (S:St) (K:St→Prop):Prop :=
  cY S o.op.operands.toList fun vs=>pop C pl o vs fun r=>br o.dst r S K
def AQ (C:Ctx) (o:Oper) (S:St) (K:St→Prop):Prop :=
  cY S o.op.operands.toList fun vs=>nG C o vs (cC S) fun r=>br o.dst r S K
def AR (C:Ctx) (o:Oper) (S:St) (K:St→Prop):Prop :=
  cY S o.op.operands.toList fun vs=>u0 C o vs (cC S) fun r M=>br o.dst r (ey S M) K
def AS (C:Ctx) (o:Oper) (S:St) (K:St→Prop):Prop :=
  cY S o.op.operands.toList fun vs=>ED C o vs fun r=>br o.dst r S K
def jJ (C:Ctx) (o:Oper) (vs:List AV) (M:St) (k:AV→St→Prop):Prop :=
  match o.op,vs with
  | .makeSlice t _ _,[l,c]=>bP C.P t l c M fun M' r=>k r M'
  | .call c,.fn fid first cap::as=>match c.callee with
    | .value _=>bw (!(C.pure fid)&&(first++as++cap).all (rL 4)) (C.scall fid (first++as++cap) M.o fun r o'=>bw (bL M.o o' 0).isEmpty (k r { t:=M.t,l:=M.l,o:=o',b:=M.b }))
    | _=>ah 310
  | _,_=>u0 C o vs M k
def kT (C:Ctx) (pl:bA) (o:Oper) (vs:List AV) (M:St) (k:AV→St→Prop):Prop :=
  match eT pl o with
  | true=>jD C.P pl o vs M k
  | false=>jJ C o vs M k
def nd (C:Ctx) (pl:bA) (o:Oper) (S:St) (K:St→Prop):Prop :=
  cY S o.op.operands.toList fun vs=>kT C pl o vs (cC S) fun r M=>br o.dst r (ey S M) K
def uq (C:Ctx) (pl:bA) (o:Oper) (S:St) (K:St→Prop):Prop :=
  match o.op with
  | .alloc e=>cr C.P e fun cs=>xp pl o.dst cs S K
  | .box _ x=>cy S x fun a=>kQ a fun cs=>xp pl o.dst cs S K
  | .buildSlice t len parts=>cY S (parts.toList.map (·.2)) fun vs=>bw (Nat.beq parts.size vs.length) (io C.P pl o.dst t len ((parts.toList.map (·.1)).zip vs) S K)
  | .makeMap _ r=>match r with
    | none=>bc (S.o++[.mapo true []]) fun o'=>br o.dst (.mp S.o.length) { t:=S.t,l:=S.l,o:=o',b:=S.b } K
    | some _=>ah 209
  | .makeSlice t l c=>cy S l fun l=>cy S c fun c=>bP C.P t l c S fun S' a=>br o.dst a S' K
  | .mapUpdate t m key x=>cy S m fun m=>cy S key fun key=>cy S x fun x=>dW C.P t m key x S fun S'=>br o.dst .bad S' K
  | .insert t m key x=>cy S m fun m=>cy S key fun key=>cy S x fun x=>dW C.P t m key x S fun S'=>br o.dst .bad S' K
  | .call c=>match c.callee with
    | .builtin b=>match b with
      | .append=>cY S c.args.toList fun as=>match as with
        | [x,.v (.int _ n)]=>i9 C.P c.argTypes.toList x n S fun S' r=>br o.dst r S' K
        | [x,y]=>jH C.P c.argTypes.toList x y S fun S' r=>br o.dst r S' K
        | _=>ah 210
      | .copy=>cY S c.args.toList fun as=>match as with
        | [x,y]=>qR C.P c.argTypes.toList x y S fun r S'=>br o.dst r S' K
        | _=>ah 211
      | .clear=>cY S c.args.toList fun as=>match as with
        | [x]=>qd C.P c.argTypes.toList x S fun S'=>br o.dst (.tup []) S' K
        | _=>ah 272
      | _=>ah 212
    | .value f=>cy S f fun fv=>cY S c.args.toList fun as=>uZ C fv as S fun S' r=>br o.dst r S' K
    | .invoke _ _=>ah 213
  | _=>ah 214
def uj (C:Ctx) (pl:bA) (o:Oper) (S:St) (K:St→Prop):Prop :=
  match eG pl o with
  | 0=>AP C pl o S K
  | 1=>AQ C o S K
  | 2=>nd C pl o S K
  | 4=>match o.dst with
    | some d=>br o.dst (.ptr (.L d) 0 0) S K
    | none=>ah 217
  | 5=>AS C o S K
  | _=>match xr pl o with
    | true=>ah 219
    | false=>uq C pl o S K
def v_ (C:Ctx) (pl:bA) (o:Oper) (S:St) (K:St→Prop):Prop :=
  match BV o with
  | 0=>AP C pl o S K
  | 1=>AQ C o S K
  | 2=>AR C o S K
  | _=>uq C pl o S K
def BW (C:Ctx) (pl:bA) (o:Oper) (S:St) (K:St→Prop):Prop :=
  match eT pl o with
  | true=>v9 C pl o S K
  | false=>v_ C pl o S K
def wa:List Oper→Nat→Option Nat
  | [],_=>none
  | o::os,t =>
    match o.dst,o.op with
    | some d,.fieldAddr _ (.tmp t') _=>match Nat.beq d t with | true=>some t' | false=>wa os t
    | some d,.indexAddr _ (.tmp t') _=>match Nat.beq d t with | true=>some t' | false=>wa os t
    | _,_=>wa os t
def BX (all:List Oper):Nat→Nat→Nat
  | 0,t=>t
  | n + 1,t=>match wa all t with
    | some t'=>BX all n t'
    | none=>t
def eH (pl:bA) (all:Array Oper) (o:Oper):Option Nat :=
  match addrOf o with
  | some t=>match dV pl.bx (BX all.toList 6 t) with
    | true=>some (BX all.toList 6 t)
    | false=>none
  | none=>none
def l4 (a:AV) (site:Option Nat):Bool :=
  match a,site with
  | .ptr (.L d) _ _,some r=>Nat.beq d r
  | .ptr (.O _) _ _,none=>true
  | .fptr _ _,none=>true
  | _,_=>false
def gW (pl:bA) (all:Array Oper) (o:Oper) (S:St):Bool :=
  match addrOf o with
  | some t=>match S.t[t]? with
    | some a=>l4 a (eH pl all o)
    | none=>false
  | none=>true
def pf (all:Array Oper) (j:Nat):Option Nat:=(all[j]?).bind (·.dst)
def fe (d:Nat) (S:St) (k:Option Bool→St→Prop):Prop :=
  nE S.t d fun a =>
    match a with
    | .v (.bool b)=>xn b (qc S.t d (.v (.bool true)) fun t=>k (some true) { t:=t,l:=S.l,o:=S.o,b:=S.b }) (qc S.t d (.v (.bool false)) fun t=>k (some false) { t:=t,l:=S.l,o:=S.o,b:=S.b })
    | .tup []=>k none S
    | _=>ah 4
def gsel (b:Option Bool) (want:Bool) (X Y:Prop):Prop :=
  match b,want with
  | some true,true=>X
  | some false,false=>X
  | _,_=>Y
def qh (C:Ctx) (pl:bA) (all:Array Oper):List Oper→St→(St→Prop)→Prop
  | [],S,K=>K S
  | o::rest,S,K =>
    match o.guard with
    | none=>BW C pl o S fun S'=>qh C pl all rest S' K
    | some (j,want) =>
      match pf all j with
      | none=>ah 218
      | some d=>fe d S fun b S1=>gsel b want (BW C pl o S1 fun S'=>qh C pl all rest S' K) (br o.dst (.tup []) S1 fun S'=>qh C pl all rest S' K)
def nI (C:Ctx) (pl:bA) (all:Array Oper) (o:Oper) (S:St) (K:St→Prop):Prop:=bw (gW pl all o S) (uj C pl o S K)
def ag (C:Ctx) (pl:bA) (all:Array Oper) (o:Oper) (S:St) (K:St→Prop):Prop :=
  match o.guard with
  | none=>nI C pl all o S K
  | some (j,want) =>
    match pf all j with
    | none=>ah 218
    | some d=>fe d S fun b S1=>gsel b want (nI C pl all o S1 K) (br o.dst (.tup []) S1 K)
def gX (pl:bA) (aj:Array Oper) (x y:Oper):Bool :=
  match eH pl aj x,eH pl aj y with
  | some a,some b=>!(Nat.beq a b)
  | some _,none=>true
  | none,some _=>true
  | none,none=>false
def sk (pl:bA) (aj:Array Oper) (x y:Oper):Bool :=
  Oper.apart aj x y&&(match eG pl x,eG pl y with
    | 2,0 | 0,2 | 0,0 | 0,1 | 1,0 | 1,1 | 4,0 | 4,1 | 4,2 | 4,4 | 0,4 | 1,4 | 2,4 | 5,0 | 5,1 | 5,2 | 5,4 | 5,5 | 0,5 | 1,5 | 2,5 | 4,5=>true
    | 1,2 | 2,1=>gX pl aj x y
    | _,_=>false)
def bM:List Oper→List Nat→List Nat
  | [],acc=>acc
  | o::os,acc=>bM os (acc++[o.after.toList.foldl (fun s e=>match Region.binds .any e with | true=>Nat.lor s (Nat.lor (Nat.pow 2 e.on) (acc.getD e.on 0)) | false=>s) 0])
def zY (pl:bA) (aj:Array Oper) (ws:List Nat) (listed:Array Bool) (i:Nat):Bool :=
  match aj[i]? with
  | none=>false
  | some oi=>(List.range aj.size).all fun j =>
    Nat.beq j i||listed.getD j true ||
      (match aj[j]? with
       | none=>true
       | some oj=>Nat.testBit (ws.getD j 0) i||sk pl aj oi oj)
def yQ (n:Nat):Bool :=
  match n with
  | 0 | 1 | 2 | 4 | 5=>true
  | _=>false
def l5 (pl:bA) (aj:Array Oper) (ws:List Nat) (listed:Array Bool):List Nat→Option Nat
  | []=>none
  | i::is=>match (match aj[i]? with | some o=>yQ (eG pl o) | none=>false)&&zY pl aj ws listed i with
    | true=>some i
    | false=>l5 pl aj ws listed is
def Gu:Value→Value→Bool
  | .bool a,.bool b=>a==b
  | .int k a,.int l b=>decide (k=l)&&(a==b)
  | .string a,.string b=>a.data.toList==b.data.toList
  | _,_=>false
def Gv:Key→Key→Bool
  | .L a,.L b=>Nat.beq a b
  | .O a,.O b=>Nat.beq a b
  | _,_=>false
def xt {α:Type} (f:α→α→Bool):List α→List α→Bool
  | [],[]=>true
  | x::xs,y::ys=>f x y&&xt f xs ys
  | _,_=>false
def AT:Nat→AV→AV→Bool
  | 0,_,_=>false
  | n + 1,x,y =>
    match x,y with
    | .bad,.bad=>true
    | .v a,.v b=>Gu a b
    | .nilp,.nilp=>true
    | .ptr k i j,.ptr k' i' j'=>Gv k k'&&Nat.beq i i'&&Nat.beq j j'
    | .fptr r j,.fptr r' j'=>xt (AT n) r r'&&Nat.beq j j'
    | .nilsl,.nilsl=>true
    | .esl,.esl=>true
    | .sl r,.sl r'=>xt (xt (AT n)) r r'
    | .mf i,.mf j=>Nat.beq i j
    | .msl a b c d,.msl a' b' c' d'=>Nat.beq a a'&&Nat.beq b b'&&Nat.beq c c'&&Nat.beq d d'
    | .nilmap,.nilmap=>true
    | .mp i,.mp j=>Nat.beq i j
    | .nilfn,.nilfn=>true
    | .fn f x y,.fn f' x' y'=>Nat.beq f f'&&xt (AT n) x x'&&xt (AT n) y y'
    | .agg c,.agg d=>xt (AT n) c d
    | .tup c,.tup d=>xt (AT n) c d
    | _,_=>false
def EE:Ob→Ob→Bool
  | .arr a s r,.arr b s' r'=>(a==b)&&Nat.beq s s'&&xt (xt (AT 8)) r r'
  | .mapo a e,.mapo b e'=>(a==b)&&xt (fun x y=>AT 8 x.1 y.1&&AT 8 x.2 y.2) e e'
  | .dead,.dead=>true
  | _,_=>false
def EF (S S':St):Bool :=
  xt (AT 8) S.t S'.t&&xt (fun x y=>Nat.beq x.1 y.1&&xt (AT 8) x.2 y.2) S.l S'.l&&xt EE S.o S'.o&&Nat.beq S.b S'.b
def u5 (C:Ctx) (pl:bA) (aj:Array Oper) (i:Nat) (S:St) (K:St→Prop):Prop :=
  match aj[i]? with
  | none=>ah 303
  | some o=>ag C pl aj o S K
def qS (S2 S1:St) (X:Prop):Prop :=
  match EF S2 S1 with
  | true=>X
  | false=>S2=S1∧X
def yR (go:Nat→(St→Prop)→Prop):List Nat→St→Prop→Prop
  | [],_,X=>X
  | i::is,S1,X=>go i fun S2=>qS S2 S1 (yR go is S1 X)
def iq (C:Ctx) (pl:bA) (aj:Array Oper) (ws:List Nat):Nat→Array Bool→St→(St→Prop)→Prop
  | 0,listed,S,K=>match Region.ready .any aj listed with
    | []=>K S
    | _::_=>ah 304
  | n + 1,listed,S,K =>
    match Region.ready .any aj listed with
    | []=>K S
    | r::rs =>
      match l5 pl aj ws listed (r::rs) with
      | some k=>u5 C pl aj k S fun S'=>iq C pl aj ws n (listed.setIfInBounds k true) S' K
      | none=>u5 C pl aj r S fun S'=>iq C pl aj ws n (listed.setIfInBounds r true) S' fun S1 =>
          yR (fun i K'=>u5 C pl aj i S fun S'=>iq C pl aj ws n (listed.setIfInBounds i true) S' K') rs S1 (K S1)
def qi (o:Oper):Bool :=
  match o.guard with
  | some _=>false
  | none=>match o.op with
    | .move _ | .assign _ | .nilCheck _ | .fieldAddr _ _ _=>true
    | _=>false
def l6 (aj:Array Oper) (listed:Array Bool):List Nat→Option Nat
  | []=>none
  | i::is=>match (match aj[i]? with | some o=>qi o | none=>false)&&Region.free .any aj listed i with
    | true=>some i
    | false=>l6 aj listed is
def ry (C:Ctx) (pl:bA) (aj:Array Oper) (ws:List Nat):Nat→Array Bool→St→(St→Prop)→Prop
  | 0,listed,S,K=>iq C pl aj ws 0 listed S K
  | n + 1,listed,S,K=>match l6 aj listed (Region.ready .any aj listed) with
    | some i=>u5 C pl aj i S fun S'=>ry C pl aj ws n (listed.setIfInBounds i true) S' K
    | none=>iq C pl aj ws (n + 1) listed S K
def Gl (aj:Array Oper):Bool:=Region.noSelect aj&&aj.toList.all fun o=>match o.op with | .defer _=>false | _=>true
def ut (C:Ctx) (pl:bA) (aj:Array Oper) (S:St) (K:St→Prop):Prop :=
  bw (Gl aj) (match pl.cl with
    | []=>iq C pl aj (bM aj.toList []) aj.size (Array.replicate aj.size false) S K
    | _::_=>ry C pl aj (bM aj.toList []) aj.size (Array.replicate aj.size false) S K)
def ca:List Oper→List (Nat×TypeId)
  | []=>[]
  | o::os=>match o.op,o.dst with
    | .alloc e,some d=>(d,e)::ca os
    | _,_=>ca os
def iR (pl:bA):List (Nat×TypeId)→Bool
  | []=>true
  | (d,_)::xs=>!(dV pl.esc d)&&!(dV (xs.map (·.1)) d)&&iR pl xs
def rM:List Oper→Bool
  | []=>true
  | o::os=>(match o.op,o.guard with | .alloc _,some _=>false | _,_=>true)&&rM os
def qT (pl:bA) (aj:Array Oper):Bool:=iR pl (ca aj.toList)&&rM aj.toList
def wb (P:Program):List (Nat×TypeId)→St→(St→Prop)→Prop
  | [],S,K=>K S
  | (d,e)::xs,S,K=>cr P e fun cs=>bw (Nat.blt 0 cs.length) (wb P xs { t:=S.t,l:=(d,cs)::S.l,o:=S.o,b:=S.b } K)
def uu (P:Program) (xs:List (Nat×TypeId)) (S:St) (K:St→Prop):Prop :=
  kR (xs.map (·.1)) S fun S'=>wb P xs S' K
def jb:List (Nat×TypeId)→St→Prop→Prop
  | [],_,X=>X
  | (d,_)::xs,S,X=>nE S.t d fun a=>match a with
    | .ptr (.L d') _ _=>bw (Nat.beq d' d) (jb xs S X)
    | _=>ah 302
def fG (C:Ctx) (pl:bA):Code→St→(Ex→St→Prop)→Prop
  | .skip,S,K=>K .nrm S
  | .region id aj draw,S,K =>
    match draw with
    | false=>qh C pl aj aj.toList S fun S'=>iL pl id S' fun S''=>K .nrm S''
    | true=>bw (qT pl aj) (uu C.P (ca aj.toList) S fun S1=>ut C pl aj S1 fun S'=>jb (ca aj.toList) S' (iL pl id S' fun S''=>K .nrm S''))
  | .seq a b,S,K=>fG C pl a S fun e S'=>match e with
    | .nrm=>fG C pl b S' K
    | .ex i=>K (.ex i) S'
    | .ret=>K .ret S'
  | .cond c x y,S,K=>lV c S fun b S'=>match b with
    | true=>fG C pl x S' K
    | false=>fG C pl y S' K
  | .block id c,S,K=>fG C pl c S fun e S'=>match e with
    | .ex i=>match Nat.beq i id with | true=>K .nrm S' | false=>K (.ex i) S'
    | .nrm=>K .nrm S'
    | .ret=>K .ret S'
  | .loop c,S,K=>C.loop pl c S K
  | .exit id,S,K=>K (.ex id) S
  | .ret,S,K=>K .ret S
  | _,_,_=>ah 119
def uv (P:Program) (S:St):List ResultVar→(List AV→Prop)→Prop
  | [],k=>k []
  | .tmp t::rs,k=>nE S.t t fun a=>uv P S rs fun as=>k (a::as)
  | .cell a t::rs,k=>nE S.t a fun p=>BO S p fun row j=>gu P t row j fun x=>uv P S rs fun as=>k (x::as)
def xu (as:List AV) (k:AV→Prop):Prop :=
  match as with
  | [a]=>k a
  | as=>k (.tup as)
def wc:Nat→List AV
  | 0=>[]
  | n + 1=>.bad::wc n
def sn (C:Ctx) (k:Ctx→Prop):Prop :=
  match C with
  | ⟨a,b,c,d,e,f⟩=>k ⟨a,b,c,d,e,f⟩
def yS (p:bA) (k:bA→Prop):Prop :=
  match p with
  | ⟨a,b,c,d,e,f,g,h,i,j,l⟩=>k ⟨a,b,c,d,e,f,g,h,i,j,l⟩
def sq (C:Ctx) (f:Nat) (args:List AV) (o:List Ob) (K:AV→St→Prop):Prop :=
  match C.P.funcs[f]? with
  | some fn=>match fn.body with
    | some c=>yS (C.pol f) fun pl=>fG C pl c { t:=args++wc (fn.ntmps - args.length),l:=[],o:=o,b:=o.length } fun e S =>
        match e with
        | .ex _=>ah 120
        | _=>uv C.P S fn.results.toList fun rs=>xu rs fun r=>K r S
    | none=>ah 121
  | none=>ah 122
def qU (C:Ctx) (f:Nat) (args:List AV) (o:List Ob) (K:AV→St→Prop):Prop:=sn C fun C=>sq C f args o K
def pg (C:Ctx) (f:Nat) (args:List AV) (K:AV→Prop):Prop :=
  qU C f args [] fun r S=>v7 S.o r K
def qj (C:Ctx) (f:Nat) (args:List AV) (o:List Ob) (K:AV→List Ob→Prop):Prop :=
  qU C f args o fun r S=>bw (rL 4 r&&Nat.beq S.b o.length) (K r S.o)
structure m4 where
  P:Program
  pure:Nat→Bool
  pol:Nat→bA
  xs:Nat→Bool:=fun _=>false
  xc:Nat→List AV→List Ob→(AV→List Ob→Prop)→Prop:=fun _ _ _ _=>False
  xq:Nat→List AV→Option AV:=fun _ _=>none
def ff (G:m4):Nat→Ctx
  | 0=>{ P:=G.P,pure:=G.pure,pol:=G.pol,pcall:=fun _ _ _=>ah 123,scall:=fun _ _ _ _=>ah 124,loop:=fun _ _ _ _=>ah 125 }
  | n + 1=>{ P:=G.P,pure:=G.pure,pol:=G.pol,pcall:=fun f args K=>match G.xq f args with | some r=>K r | none=>pg (ff G n) f args K,scall:=fun f args o K=>match G.xs f with | true=>G.xc f args o K | false=>qj (ff G n) f args o K,loop:=fun pl c S K=>sn (ff G n) fun C=>fG C pl c S fun e S'=>match e with
                 | .nrm=>C.loop pl c S' K
                 | .ex i=>K (.ex i) S'
                 | .ret=>K .ret S' }
inductive MV where
  | blk (b o sz n:Nat)
  | virt
structure Env where
  F:Nat→Prop
  mu:Key→Option MV
  h:Array Obj
def Env.fz (E:Env):Env:=⟨E.F,fun _=>none,E.h⟩
def u6 (mu:Key→Option MV):Key→Option MV
  | .L _=>none
  | .O i=>mu (.O i)
  | .S id i=>mu (.S id i)
def Env.ob (E:Env):Env:=⟨E.F,u6 E.mu,E.h⟩
def cQ (h:Array Obj) (b i:Nat):Option Value :=
  match h[b]? with
  | some (.cells c _ _)=>c[i]?
  | _=>none
def bf (h:Array Obj) (b:Nat):Nat :=
  match h[b]? with
  | some (.cells c _ _)=>c.size
  | _=>0
def plain:Value→Bool
  | .bool _ | .int _ _ | .float _ _ | .complex _ _ _ | .string _=>true
  | _=>false
inductive VR:Env→AV→Value→Prop where
  | bad (E:Env) (u:Value):VR E .bad u
  | v (E:Env) (x:Value):plain x=true→VR E (.v x) x
  | nilp (E:Env):VR E .nilp (.pointer none)
  | ptr {E:Env} {k:Key} {b o sz n:Nat} (i j:Nat) (hs:k.isS=false):E.mu k=some (.blk b o sz n)→VR E (.ptr k i j) (.pointer (some ⟨b,o + i * sz + j,none⟩))
  | fptr {E:Env} {row:List AV} {b o:Nat} (j:Nat) (us:List Value):us.length=row.length→(∀ (m:Nat) (c:AV) (u:Value),row[m]?=some c→us[m]?=some u→VR E.fz c u) →
      E.F b→(∀ (m:Nat) (u:Value),us[m]?=some u→cQ E.h b (o + m)=some u)→VR E (.fptr row j) (.pointer (some ⟨b,o + j,none⟩))
  | nilsl (E:Env):VR E .nilsl (.slice none 0 0)
  | esln (E:Env):VR E .esl (.slice none 0 0)
  | esl (E:Env) (a:Addr):VR E .esl (.slice (some a) 0 0)
  | sln (E:Env):VR E (.sl []) (.slice none 0 0)
  | sle (E:Env) (a:Addr) (cap:Nat):VR E (.sl []) (.slice (some a) 0 cap)
  | sl {E:Env} {rows:List (List AV)} {sz b o cap:Nat} (us:List Value):0<sz→(∀ r∈rows,r.length=sz)→us.length=rows.flatten.length →
      (∀ (m:Nat) (c:AV) (u:Value),rows.flatten[m]?=some c→us[m]?=some u→VR E.fz c u)→E.F b→(∀ (m:Nat) (u:Value),us[m]?=some u→cQ E.h b (o + m)=some u) →
      rows.length≤cap→VR E (.sl rows) (.slice (some ⟨b,o,none⟩) rows.length cap)
  | mfn {E:Env} {id:Nat}:E.mu (.O id)=some .virt→VR E (.mf id) (.slice none 0 0)
  | mfe {E:Env} {id:Nat} (a:Addr):E.mu (.O id)=some .virt→VR E (.mf id) (.slice (some a) 0 0)
  | mf {E:Env} {id b o sz n:Nat} (cap:Nat):E.mu (.O id)=some (.blk b o sz n)→n≤cap→o + cap * sz≤bf E.h b→VR E (.mf id) (.slice (some ⟨b,o,none⟩) n cap)
  | msle {E:Env} {id:Nat} {x:MV} (off:Nat) (a:Option Addr):E.mu (.O id)=some x→VR E (.msl id off 0 0) (.slice a 0 0)
  | msl {E:Env} {id b o sz n:Nat} (off len ext cap:Nat):E.mu (.O id)=some (.blk b o sz n)→off + len + ext≤n→len + ext≤cap→o + (off + cap) * sz≤bf E.h b →
      VR E (.msl id off len ext) (.slice (some ⟨b,o + off * sz,none⟩) len cap)
  | bsl {E:Env} {k:Key} {b o sz n:Nat} (off len cap:Nat) (hs:k.isS=false):E.mu k=some (.blk b o sz n)→len≤cap→VR E (.bsl k off len) (.slice (some ⟨b,o + off,none⟩) len cap)
  | nilmap (E:Env):VR E .nilmap (.map none)
  | mp {E:Env} {id b o sz n:Nat}:E.mu (.O id)=some (.blk b o sz n)→VR E (.mp id) (.map (some b))
  | nilfn (E:Env):VR E .nilfn .nilFunc
  | fn {E:Env} {f:Nat} {xs ys:List AV} (us ws:Array Value):xs.length=us.size→(∀ (m:Nat) (c:AV) (u:Value),xs[m]?=some c→us[m]?=some u→VR E c u) →
      ys.length=ws.size→(∀ (m:Nat) (c:AV) (u:Value),ys[m]?=some c→ws[m]?=some u→VR E c u)→VR E (.fn f xs ys) (.func (.func f) us ws)
  | agg {E:Env} {cs:List AV} (us:Array Value):cs.length=us.size→(∀ (m:Nat) (c:AV) (u:Value),cs[m]?=some c→us[m]?=some u→VR E c u)→VR E (.agg cs) (.agg us)
  | tup {E:Env} {cs:List AV} (us:Array Value):cs.length=us.size→(∀ (m:Nat) (c:AV) (u:Value),cs[m]?=some c→us[m]?=some u→VR E c u)→VR E (.tup cs) (.tuple us)
structure LE (E E':Env):Prop where
  F:∀ b,E.F b→E'.F b
  mu:∀ k x,k.isS=false→E.mu k=some x→E'.mu k=some x
  hF:∀ b,E.F b→E'.h[b]?=E.h[b]?
  sz:∀ k b o s n,k.isS=false→E.mu k=some (.blk b o s n)→bf E'.h b=bf E.h b
theorem LE.refl (E:Env):LE E E:=⟨fun _ h=>h,fun _ _ _ h=>h,fun _ _=>rfl,fun _ _ _ _ _ _ _=>rfl⟩
theorem LE.trans {E E' E'':Env} (h:LE E E') (k:LE E' E''):LE E E'' :=
  ⟨fun b hb=>k.F b (h.F b hb),fun x y hs hx=>k.mu x y hs (h.mu x y hs hx),fun b hb=>(k.hF b (h.F b hb)).trans (h.hF b hb),
   fun x b o s n hs hx=>(k.sz x b o s n hs (h.mu _ _ hs hx)).trans (h.sz x b o s n hs hx)⟩
theorem LE.fz {E E':Env} (h:LE E E'):LE E.fz E'.fz:=⟨h.F,fun _ _ _ hx=>(by cases hx),h.hF,fun _ _ _ _ _ _ hx=>(by cases hx)⟩
theorem eV {mu:Key→Option MV} {k:Key} {x:MV} (h:u6 mu k=some x):mu k=some x:=by
  cases k with
  | L d=>cases h
  | O i=>exact h
  | S id i=>exact h
theorem LE.ob {E E':Env} (h:LE E E'):LE E.ob E'.ob :=
  ⟨h.F,fun k x hs hx=>(by
    cases k with
    | L d=>cases hx
    | O i=>exact h.mu _ _ hs hx
    | S id i=>cases hs),h.hF,fun k b o s n hs hx=>h.sz k b o s n hs (eV hx)⟩
theorem l7 {h h':Array Obj} {b:Nat} (e:h'[b]?=h[b]?) (i:Nat):cQ h' b i=cQ h b i:=by
  unfold cQ; rw [e]
theorem VR.mono {E:Env} {a:AV} {u:Value} (hv:VR E a u):∀ {E':Env},LE E E'→VR E' a u:=by
  induction hv with
  | bad E u=>intro E' _; exact .bad _ _
  | v E x hx=>intro E' _; exact .v _ _ hx
  | nilp E=>intro E' _; exact .nilp _
  | ptr i j hs hm=>intro E' h; exact .ptr i j hs (h.mu _ _ hs hm)
  | fptr j us hl hc hF hcell ih=>intro E' h; exact .fptr j us hl (fun m c u h1 h2=>ih m c u h1 h2 h.fz) (h.F _ hF) (fun m u hu=>(l7 (h.hF _ hF) _).trans (hcell m u hu))
  | nilsl E=>intro E' _; exact .nilsl _
  | esln E=>intro E' _; exact .esln _
  | esl E a=>intro E' _; exact .esl _ a
  | sln E=>intro E' _; exact .sln _
  | sle E a cap=>intro E' _; exact .sle _ a cap
  | sl us hsz hr hl hc hF hcell hcap ih=>intro E' h; exact .sl us hsz hr hl (fun m c u h1 h2=>ih m c u h1 h2 h.fz) (h.F _ hF) (fun m u hu=>(l7 (h.hF _ hF) _).trans (hcell m u hu)) hcap
  | mfn hm=>intro E' h; exact .mfn (h.mu _ _ rfl hm)
  | mfe a hm=>intro E' h; exact .mfe a (h.mu _ _ rfl hm)
  | mf cap hm hn hc=>intro E' h; exact .mf cap (h.mu _ _ rfl hm) hn (by rw [h.sz _ _ _ _ _ rfl hm]; exact hc)
  | msle off a hm=>intro E' h; exact .msle off a (h.mu _ _ rfl hm)
  | msl off len ext cap hm h1 h2 h3=>intro E' h; exact .msl off len ext cap (h.mu _ _ rfl hm) h1 h2 (by rw [h.sz _ _ _ _ _ rfl hm]; exact h3)
  | bsl off len cap hs hm h1=>intro E' h; exact .bsl off len cap hs (h.mu _ _ hs hm) h1
  | nilmap E=>intro E' _; exact .nilmap _
  | mp hm=>intro E' h; exact .mp (h.mu _ _ rfl hm)
  | nilfn E=>intro E' _; exact .nilfn _
  | fn us ws h1 h2 h3 h4 ih1 ih2=>intro E' h; exact .fn us ws h1 (fun m c u hc hu=>ih1 m c u hc hu h) h3 (fun m c u hc hu=>ih2 m c u hc hu h)
  | agg us h1 h2 ih=>intro E' h; exact .agg us h1 (fun m c u hc hu=>ih m c u hc hu h)
  | tup us h1 h2 ih=>intro E' h; exact .tup us h1 (fun m c u hc hu=>ih m c u hc hu h)
theorem VR.of_fz {E:Env} {a:AV} {u:Value} (hv:VR E.fz a u):VR E a u :=
  hv.mono ⟨fun _ h=>h,fun _ _ _ h=>(by cases h),fun _ _=>rfl,fun _ _ _ _ _ _ h=>(by cases h)⟩
theorem VR.of_ob {E:Env} {a:AV} {u:Value} (hv:VR E.ob a u):VR E a u :=
  hv.mono ⟨fun _ h=>h,fun _ _ _ h=>eV h,fun _ _=>rfl,fun _ _ _ _ _ _ _=>rfl⟩
theorem VR.fz_ob {E:Env} {a:AV} {u:Value} (hv:VR E.fz a u):VR E.ob a u :=
  hv.mono ⟨fun _ h=>h,fun _ _ _ h=>(by cases h),fun _ _=>rfl,fun _ _ _ _ _ _ h=>(by cases h)⟩
def bU (E:Env) (cs:List AV) (us:List Value):Prop :=
  cs.length=us.length∧∀ (m:Nat) (c:AV) (u:Value),cs[m]?=some c→us[m]?=some u→VR E c u
theorem bU.mono {E E':Env} {cs:List AV} {us:List Value} (h:bU E cs us) (hl:LE E E'):bU E' cs us:=⟨h.1,fun m c u h1 h2=>(h.2 m c u h1 h2).mono hl⟩
theorem bU.nil (E:Env):bU E [] []:=⟨rfl,fun m c u h=>(by simp at h)⟩
theorem bU.cons {E:Env} {c:AV} {u:Value} {cs:List AV} {us:List Value} (h:VR E c u) (hs:bU E cs us):bU E (c::cs) (u::us) :=
  ⟨by simp [hs.1],fun m c' u' h1 h2=>by
    cases m with
    | zero=>simp at h1 h2; subst h1 h2; exact h
    | succ m=>exact hs.2 m c' u' (by simpa using h1) (by simpa using h2)⟩
theorem bU.uncons {E:Env} {c:AV} {cs:List AV} {vs:List Value} (h:bU E (c::cs) vs):∃ u us,vs=u::us∧VR E c u∧bU E cs us:=by
  cases vs with
  | nil=>exact absurd h.1 (by simp)
  | cons u us=>exact ⟨u,us,rfl,h.2 0 c u rfl rfl,by simpa using h.1,fun m c' u' h1 h2=>h.2 (m + 1) c' u' (by simpa using h1) (by simpa using h2)⟩
theorem bU.unnil {E:Env} {vs:List Value} (h:bU E [] vs):vs=[]:=List.eq_nil_of_length_eq_zero h.1.symm
theorem bU.get {E:Env} {cs:List AV} {us:List Value} (h:bU E cs us) {m:Nat} {c:AV} (hc:cs[m]?=some c):∃ u,us[m]?=some u∧VR E c u:=by
  have hm:m<us.length:=by rw [← h.1]; exact (List.getElem?_eq_some_iff.1 hc).1
  exact ⟨us[m],List.getElem?_eq_getElem hm,h.2 m c _ hc (List.getElem?_eq_getElem hm)⟩
theorem bU.append {E:Env} {cs ds:List AV} {us vs:List Value} (h:bU E cs us) (k:bU E ds vs):bU E (cs++ds) (us++vs):=by
  induction cs generalizing us with
  | nil=>rw [h.unnil]; exact k
  | cons c cs ih =>
    obtain ⟨u,us',rfl,hc,hs⟩:=h.uncons
    exact .cons hc (ih hs)
theorem bU.take {E:Env} {cs:List AV} {us:List Value} (h:bU E cs us) (n:Nat):bU E (cs.take n) (us.take n) :=
  ⟨by simp [h.1],fun m c u h1 h2=>by
    rw [List.getElem?_take] at h1 h2
    split at h1
    · rename_i hm; rw [if_pos hm] at h2; exact h.2 m c u h1 h2
    · cases h1⟩
theorem bU.drop {E:Env} {cs:List AV} {us:List Value} (h:bU E cs us) (n:Nat):bU E (cs.drop n) (us.drop n) :=
  ⟨by simp [h.1],fun m c u h1 h2=>by
    rw [List.getElem?_drop] at h1 h2
    exact h.2 _ c u h1 h2⟩
theorem bU.of_fz {E:Env} {cs:List AV} {us:List Value} (h:bU E.fz cs us):bU E cs us:=⟨h.1,fun m c u h1 h2=>(h.2 m c u h1 h2).of_fz⟩
theorem bU.of_ob {E:Env} {cs:List AV} {us:List Value} (h:bU E.ob cs us):bU E cs us:=⟨h.1,fun m c u h1 h2=>(h.2 m c u h1 h2).of_ob⟩
theorem bU.aggV {E:Env} {cs:List AV} {us:Array Value} (h:bU E cs us.toList):VR E (.agg cs) (.agg us) :=
  .agg us (by simpa using h.1) (fun m c u h1 h2=>h.2 m c u h1 (by simpa using h2))
theorem VR.aggI {E:Env} {cs:List AV} {u:Value} (h:VR E (.agg cs) u):∃ us:Array Value,u=.agg us∧bU E cs us.toList:=by
  cases h with
  | agg us h1 h2=>exact ⟨us,rfl,by simpa using h1,fun m c u hc hu=>h2 m c u hc (by simpa using hu)⟩
theorem VR.tupI {E:Env} {cs:List AV} {u:Value} (h:VR E (.tup cs) u):∃ us:Array Value,u=.tuple us∧bU E cs us.toList:=by
  cases h with
  | tup us h1 h2=>exact ⟨us,rfl,by simpa using h1,fun m c u hc hu=>h2 m c u hc (by simpa using hu)⟩
theorem VR.vI {E:Env} {x u:Value} (h:VR E (.v x) u):u=x∧plain x=true:=by
  cases h with
  | v _ _ hx=>exact ⟨rfl,hx⟩
def cb (E':Env) (h:Array Obj) (rows:List (List AV)) (b o sz:Nat):Prop :=
  0<sz∧(∀ r∈rows,r.length=sz)∧∃ (us:Array Value) (ty:TypeId),h[b]?=some (.cells us ty (0,0))∧o + rows.length * sz≤us.size ∧
    ∀ (m:Nat) (c:AV),rows.flatten[m]?=some c→∃ u,us[o + m]?=some u∧VR E' c u
def cg (E:Env) (fl:Bool):Env:=match fl with | true=>E.fz | false=>E.ob
def rz (ms:Array MapEntry) (clock:Nat):Prop:=(∀ x∈ms.toList,x.born<clock)∧(ms.toList.map (·.born)).Nodup
theorem rz.empty (clock:Nat):rz #[] clock:=⟨by simp,by simp⟩
theorem rz.push {ms:Array MapEntry} {clock:Nat} (h:rz ms clock) (key val:Value):rz (ms.push { key:=key,val:=val,born:=clock }) (clock + 1):=by
  obtain ⟨h1,h2⟩:=h
  refine ⟨fun x hx=>?_,?_⟩
  · simp only [Array.toList_push,List.mem_append,List.mem_singleton] at hx
    rcases hx with hx | rfl
    · exact Nat.lt_succ_of_lt (h1 x hx)
    · exact Nat.lt_succ_self _
  · simp only [Array.toList_push,List.map_append,List.map_cons,List.map_nil]
    refine List.nodup_append.2 ⟨h2,by simp,fun a ha b hb=>?_⟩
    simp only [List.mem_singleton] at hb
    subst hb
    obtain ⟨x,hx,rfl⟩:=List.mem_map.1 ha
    exact Nat.ne_of_lt (h1 x hx)
theorem rz.modify {ms:Array MapEntry} {clock:Nat} (h:rz ms clock) (i:Nat) (key val:Value):rz (ms.modify i fun e=>{ e with key:=key,val:=val }) clock:=by
  have hb:(ms.modify i fun e=>{ e with key:=key,val:=val }).toList.map (·.born)=ms.toList.map (·.born):=by
    apply List.ext_getElem?
    intro j
    simp only [List.getElem?_map,Array.getElem?_toList,Array.getElem?_modify]
    split
    · rename_i e
      subst e
      cases ms[i]? <;> rfl
    · rfl
  refine ⟨fun x hx=>?_,by rw [hb]; exact h.2⟩
  have:x.born∈(ms.modify i fun e=>{ e with key:=key,val:=val }).toList.map (·.born):=List.mem_map.2 ⟨x,hx,rfl⟩
  rw [hb] at this
  obtain ⟨y,hy,e⟩:=List.mem_map.1 this
  rw [← e]
  exact h.1 y hy
def BY (E:Env) (h:Array Obj) (fl:Bool) (es:List (AV×AV)) (b:Nat):Prop :=
  ∃ (ms:Array MapEntry) (clock:Nat),h[b]?=some (.map ms clock)∧(es.length=ms.size∧rz ms clock) ∧
    ∀ (i:Nat) (e:AV×AV) (m:MapEntry),es[i]?=some e→ms[i]?=some m→uo e.1=some m.key∧VR (cg E fl) e.2 m.val
def eD (E:Env) (x:Option Ob) (mv:Option MV):Prop :=
  match x,mv with
  | some (.arr _ _ rows),some .virt=>rows=[]
  | some (.arr fl sz rows),some (.blk b o s n)=>(s=sz∧n=rows.length)∧cb (cg E fl) E.h rows b o s
  | some (.mapo fl es),some (.blk b _ _ _)=>BY E E.h fl es b
  | some (.own ks _ cells _),some .virt=>ks=none∧cells=[]
  | some (.own ks _ cells _),some (.blk _ _ s n)=>ks=none→s=1∧n=cells.length
  | some .dead,none=>True
  | none,none=>True
  | _,_=>False
def fH (pend:Nat→Option (List AV)) (E:Env) (x:Option (List AV)) (d:Nat):Prop :=
  match x with
  | none=>E.mu (.L d)=none
  | some row=>(∃ b,E.mu (.L d)=some (.blk b 0 row.length 1)∧cb E E.h [row] b 0 row.length)∨(E.mu (.L d)=none∧pend d=some row∧∀ k,row.map (cE 4 k)=row)
def ch (E:Env) (sz:Nat) (c:Option (List (List AV))) (mv:Option MV) (u:Value):Prop :=
  match c,mv with
  | none,none=>u=.slice none 0 0
  | some rows,some .virt=>rows=[]∧∃ a,u=.slice a 0 0
  | some rows,some (.blk b o s n)=>(s=sz∧n=rows.length)∧cb E.fz E.h rows b o s∧∃ cap,n≤cap∧o + cap * s≤bf E.h b∧u=.slice (some ⟨b,o,none⟩) n cap
  | _,_=>False
def D_ (E:Env) (sz:Nat) (hole:Option (Nat×AV)) (i:Nat) (c:Option (List (List AV))) (mv:Option MV) (u:Value):Prop :=
  match hole with
  | some (j,a)=>if j=i then mv=none∧VR E.ob a u else ch E sz c mv u
  | none=>ch E sz c mv u
def fI (h:Array Obj) (b o i:Nat):Option Value :=
  match h[b]? with
  | some (.cells us _ _)=>us[o + i]?
  | some (.map ms _)=>(ms[i]?).map (·.val)
  | _=>none
def u7 (h:Array Obj) (ks:Option (List AV)) (b o n:Nat):Prop :=
  match ks with
  | none=>∃ us ty,h[b]?=some (.cells us ty (0,0))∧o + n≤us.size
  | some ks=>∃ ms clock,h[b]?=some (.map ms clock)∧(n=ms.size∧n=ks.length∧rz ms clock)∧∀ (i:Nat) (k:AV) (m:MapEntry),ks[i]?=some k→ms[i]?=some m→uo k=some m.key
theorem u7.congr {h h':Array Obj} {ks:Option (List AV)} {b o n:Nat} (hb:u7 h ks b o n) (e:h'[b]?=h[b]?):u7 h' ks b o n:=by
  cases ks with
  | none =>
    obtain ⟨us,ty,h1,h2⟩:=hb
    exact ⟨us,ty,e.trans h1,h2⟩
  | some ks =>
    obtain ⟨ms,clock,h1,h2⟩:=hb
    exact ⟨ms,clock,e.trans h1,h2⟩
theorem xv {h h':Array Obj} {b:Nat} (e:h'[b]?=h[b]?) (o i:Nat):fI h' b o i=fI h b o i:=by
  unfold fI
  rw [e]
theorem xw {h:Array Obj} {b o n i:Nat} {u:Value} (hb:u7 h none b o n) (hv:fI h b o i=some u):cQ h b (o + i)=some u:=by
  obtain ⟨us,ty,h1,_⟩:=hb
  unfold fI at hv
  unfold cQ
  rw [h1] at hv ⊢
  exact hv
def dv (E:Env) (id:Nat) (x:Option Ob):Prop :=
  match x with
  | some (.own ks sz cells hole)=>0<sz∧(∀ i,cells.length≤i→E.mu (.S id i)=none) ∧
      ∀ b o s n,E.mu (.O id)=some (.blk b o s n)→u7 E.h ks b o cells.length ∧
        ∀ i c,cells[i]?=some c→∃ u,fI E.h b o i=some u∧D_ E sz hole i c (E.mu (.S id i)) u
  | _=>∀ i,E.mu (.S id i)=none
theorem ch.mono {E E':Env} {sz:Nat} {c:Option (List (List AV))} {mv:Option MV} {u:Value} (h:ch E sz c mv u) (hf:LE E.fz E'.fz) (hh:∀ b o s n,mv=some (.blk b o s n)→E'.h[b]?=E.h[b]?):ch E' sz c mv u:=by
  revert h
  cases c with
  | none =>
    cases mv with
    | none=>exact fun h=>h
    | some mv=>cases mv <;> exact fun h=>h.elim
  | some rows =>
    cases mv with
    | none=>exact fun h=>h.elim
    | some mv =>
      cases mv with
      | virt=>exact fun h=>h
      | blk b o s n =>
        rintro ⟨h0,⟨h1,h2,us,ty,h3,h4,h5⟩,cap,h6,h7,h8⟩
        have hb:=hh _ _ _ _ rfl
        refine ⟨h0,⟨h1,h2,us,ty,hb.trans h3,h4,fun m c hc=>?_⟩,cap,h6,?_,h8⟩
        · obtain ⟨u,hu,hv⟩:=h5 m c hc
          exact ⟨u,hu,hv.mono hf⟩
        · have:bf E'.h b=bf E.h b:=by unfold bf; rw [hb]
          rw [this]
          exact h7
theorem dv.mono {E E':Env} {id:Nat} {x:Option Ob} (h:dv E id x) (hO:E'.mu (.O id)=E.mu (.O id)) (hS:∀ i,E'.mu (.S id i)=E.mu (.S id i)) (hf:LE E.fz E'.fz) (hb:LE E.ob E'.ob)
    (hh:∀ k b o s n,(k=.O id∨∃ i,k=.S id i)→E.mu k=some (.blk b o s n)→E'.h[b]?=E.h[b]?):dv E' id x:=by
  revert h
  unfold dv
  split
  · rename_i ks sz cells hole
    rintro ⟨h1,h2,h3⟩
    refine ⟨h1,fun i hi=>(hS i).trans (h2 i hi),fun b o s n hm=>?_⟩
    rw [hO] at hm
    obtain ⟨h4,h6⟩:=h3 b o s n hm
    have hbb:=hh _ _ _ _ _ (.inl rfl) hm
    refine ⟨h4.congr hbb,fun i c hc=>?_⟩
    obtain ⟨u,hu,h7⟩:=h6 i c hc
    refine ⟨u,(xv hbb _ _).trans hu,?_⟩
    rw [hS i]
    have hcell:ch E sz c (E.mu (.S id i)) u→ch E' sz c (E.mu (.S id i)) u:=fun h=>h.mono hf fun b o s n e=>hh _ _ _ _ _ (.inr ⟨i,rfl⟩) e
    unfold D_ at h7 ⊢
    split at h7
    · rename_i j a
      by_cases hj:j=i
      · rw [if_pos hj] at h7 ⊢
        exact ⟨h7.1,h7.2.mono hb⟩
      · rw [if_neg hj] at h7 ⊢
        exact hcell h7
    · exact hcell h7
  · exact fun h i=>(hS i).trans (h i)
theorem dv.arr {E:Env} {id sz:Nat} {fl:Bool} {rows:List (List AV)}:dv E id (some (.arr fl sz rows))↔∀ i,E.mu (.S id i)=none:=Iff.rfl
theorem dv.mapo {E:Env} {id:Nat} {fl:Bool} {es:List (AV×AV)}:dv E id (some (.mapo fl es))↔∀ i,E.mu (.S id i)=none:=Iff.rfl
def gY:Option Ob→Bool
  | some (.own _ _ _ _)=>false
  | _=>true
theorem dv.not {E:Env} {id:Nat} {x:Option Ob} (h:gY x=true):dv E id x↔∀ i,E.mu (.S id i)=none:=by
  unfold dv
  split
  · cases h
  · exact Iff.rfl
structure Gh where
  w0:World
  M:Nat→Prop
  F:Nat→Prop
  mu:Nat→Option MV
structure ai (G:Gh) (pend:Nat→Option (List AV)) (E:Env) (S:St) (w:World):Prop where
  hp:E.h=w.heap
  os:w.os=G.w0.os
  tape:w.tape=G.w0.tape
  output:w.output=G.w0.output
  size:G.w0.heap.size≤w.heap.size
  keep:∀ b,b<G.w0.heap.size→¬ G.M b→w.heap[b]?=G.w0.heap[b]?
  F0:∀ b,G.F b→E.F b
  Flt:∀ b,E.F b→b<w.heap.size
  Fnew:∀ b,E.F b→b<G.w0.heap.size→G.F b∨G.M b
  own:∀ k b o s n,E.mu k=some (.blk b o s n)→¬ E.F b∧b<w.heap.size∧(G.M b∨G.w0.heap.size≤b)
  inj:∀ k k' b o s n o' s' n',E.mu k=some (.blk b o s n)→E.mu k'=some (.blk b o' s' n')→k=k'
  loc:∀ d,fH pend E (aJ S.l d) d
  obj:∀ id,eD E S.o[id]? (E.mu (.O id))
  old:∀ id,id<S.b→S.o[id]?=some .dead∨E.mu (.O id)=G.mu id
  bl:S.b≤S.o.length
  szs:∀ b,b<G.w0.heap.size→bf w.heap b=bf G.w0.heap b
  pk:∀ d row,pend d=some row→E.mu (.L d)=none∧aJ S.l d=some row
  ow:∀ id,dv E id S.o[id]?
def yM (E:Env):Prop:=∀ g row,Dm g=some row→VR E.fz (.fptr row 0) (.pointer (some ⟨g,0,none⟩))∧cQ E.h g row.length=none
theorem wd {E E':Env} {row:List AV} {g:Nat} (h:VR E (.fptr row 0) (.pointer (some ⟨g,0,none⟩))∧cQ E.h g row.length=none) (hl:LE E E'):VR E' (.fptr row 0) (.pointer (some ⟨g,0,none⟩))∧cQ E'.h g row.length=none:=by
  refine ⟨h.1.mono hl,?_⟩
  obtain ⟨h1,h2⟩:=h
  cases h1 with
  | fptr j us _ _ hF _=>exact (l7 (hl.hF _ hF) _).trans h2
theorem yM.mono {E E':Env} (h:yM E) (hl:LE E E'):yM E':=fun g row e=>wd (h g row e) hl.fz
theorem yM.up {E:Env} (h:yM E) {F':Nat→Prop} {mu':Key→Option MV} {h':Array Obj} (hF:∀ b,E.F b→F' b) (hh:E.h=h'):yM ⟨F',mu',h'⟩:=fun g row e=>wd (E:=E.fz) (E':=⟨F',fun _=>none,h'⟩) (h g row e) ⟨hF,fun _ _ _ hx=>(by cases hx),fun _ _=>(by rw [← hh]; rfl),fun _ _ _ _ _ _ hx=>(by cases hx)⟩
structure TR (E:Env) (t:List AV) (a:Act):Prop where
  len:t.length=a.tmps.size
  val:∀ (n:Nat) (c:AV) (u:Value),t[n]?=some c→a.tmps[n]?=some u→VR E c u
  df:a.defers=[]
  gt:yM E
theorem TR.mono {E E':Env} {t:List AV} {a:Act} (h:TR E t a) (hl:LE E E'):TR E' t a:=⟨h.len,fun n c u h1 h2=>(h.val n c u h1 h2).mono hl,h.df,h.gt.mono hl⟩
theorem ad {b:Bool} {X:Prop} (h:bw b X):b=true∧X:=by
  cases b with
  | true=>exact ⟨rfl,h⟩
  | false=>exact False.elim h
theorem ap {b:Bool} {X:Prop} (hb:b=true) (h:X):bw b X:=by subst hb; exact h
theorem kz {b:Bool} {X Y:Prop} (h:xn b X Y):(b=true∧X)∨(b=false∧Y):=by
  cases b with
  | true=>exact .inl ⟨rfl,h⟩
  | false=>exact .inr ⟨rfl,h⟩
theorem yT {b:Bool} {X Y:Prop} (hX:b=true→X) (hY:b=false→Y):xn b X Y:=by
  cases b with
  | true=>exact hX rfl
  | false=>exact hY rfl
theorem ci {a:AV} {k:AV→Prop}:i7 a k↔k a:=by cases a <;> exact Iff.rfl
theorem da:∀ {xs:List AV} {k:List AV→Prop},gp xs k↔k xs
  | [],_=>Iff.rfl
  | _::xs,_=>da (xs:=xs)
theorem fZ:∀ {xs:List AV} {k:List AV→Prop},rK xs k↔k xs
  | [],_=>Iff.rfl
  | x::xs,k=>by
    show i7 x _↔_
    rw [ci]
    exact fZ (xs:=xs)
theorem az:∀ {xs:List Ob} {k:List Ob→Prop},bc xs k↔k xs
  | [],_=>Iff.rfl
  | _::xs,_=>az (xs:=xs)
theorem gA:∀ {xs:List (Nat×List AV)} {k:List (Nat×List AV)→Prop},lW xs k↔k xs
  | [],_=>Iff.rfl
  | (_,_)::xs,_=>gA (xs:=xs)
theorem h_:∀ {xs:List (List AV)} {k:List (List AV)→Prop},eC xs k↔k xs
  | [],_=>Iff.rfl
  | x::xs,k=>by
    show gp x _↔_
    rw [da]
    exact h_ (xs:=xs)
theorem bW:∀ {xs:List AV} {n:Nat} {k:AV→Prop},nE xs n k↔∃ a,xs[n]?=some a∧k a
  | [],_,_=>⟨fun h=>False.elim h,fun ⟨a,h,_⟩=>by simp at h⟩
  | x::xs,0,k=>⟨fun h=>⟨x,rfl,h⟩,fun ⟨a,h,hk⟩=>by simp at h; subst h; exact hk⟩
  | x::xs,n + 1,k=>by
    show nE xs n k↔_
    rw [bW]
    simp
theorem dI:∀ {xs:List AV} {n:Nat} {v:AV} {k:List AV→Prop},qc xs n v k↔k (xs.set n v)
  | [],_,_,_=>Iff.rfl
  | _::xs,0,_,_=>Iff.rfl
  | x::xs,n + 1,v,k=>by
    show qc xs n v _↔_
    rw [dI]
    rfl
def jc (S:St) (dst:Option Tmp) (a:AV):St :=
  match dst with
  | none=>S
  | some d=>{ t:=S.t.set d a,l:=S.l,o:=S.o,b:=S.b }
theorem aE {dst:Option Tmp} {a:AV} {S:St} {K:St→Prop}:br dst a S K↔K (jc S dst a):=by
  cases dst with
  | none=>exact Iff.rfl
  | some d=>exact dI
theorem qk {c:Value} {E:Env}:VR E (r8 c) c:=by
  unfold r8
  split <;> first
    | exact .v _ _ rfl
    | exact .nilp _
    | exact .nilsl _
    | exact .nilmap _
    | exact .nilfn _
    | exact .bad _ _
theorem wh (E:Env) (c:Value):VR E (AO c) c:=by
  unfold AO
  split
  · rename_i cs
    refine .agg cs (by simp) (fun m x u h1 h2=>?_)
    simp only [List.getElem?_map,Array.getElem?_toList,Option.map_eq_some_iff] at h1
    obtain ⟨y,hy,rfl⟩:=h1
    rw [hy] at h2
    cases h2
    exact qk
  · exact qk
theorem cF {S:St} {x:Operand} {k:AV→Prop} {E:Env} {a:Act} (h:cy S x k) (ht:TR E S.t a):∃ c,k c∧VR E c (a.eval x):=by
  unfold cy at h
  split at h
  · rename_i t
    obtain ⟨c,hc,hk⟩:=bW.1 h
    have hlt:t<a.tmps.size:=by rw [← ht.len]; exact (List.getElem?_eq_some_iff.1 hc).1
    refine ⟨c,hk,ht.val t c _ hc ?_⟩
    simp [Act.eval,Array.getD,hlt]
  · rename_i c
    exact ⟨_,ci.1 h,wh E c⟩
  · rename_i f
    exact ⟨_,h,.fn #[] #[] rfl (fun m c u hc=>by simp at hc) rfl (fun m c u hc=>by simp at hc)⟩
  · rename_i g
    split at h
    · rename_i row e
      exact ⟨_,h,(ht.gt g row e).1.of_fz⟩
    · exact False.elim h
theorem cG {S:St} {E:Env} {a:Act} (ht:TR E S.t a):∀ {xs:List Operand} {k:List AV→Prop},cY S xs k→∃ cs,k cs∧bU E cs (xs.map a.eval)
  | [],_,h=>⟨[],h,.nil _⟩
  | x::xs,k,h=>by
    obtain ⟨c,hk,hc⟩:=cF h ht
    obtain ⟨cs,hk',hcs⟩:=cG ht hk
    exact ⟨c::cs,hk',.cons hc hcs⟩
theorem TR.put {E:Env} {S:St} {a:Act} (h:TR E S.t a) {dst:Option Tmp} {c:AV} {u:Value} (hv:VR E c u):TR E (jc S dst c).t (a.put dst u):=by
  cases dst with
  | none=>exact h
  | some d =>
    refine ⟨by simp [jc,Act.put,h.len],fun n c' u' h1 h2=>?_,h.df,h.gt⟩
    simp only [jc,Act.put,List.getElem?_set,Array.getElem?_setIfInBounds] at h1 h2
    by_cases hd:d=n
    · subst hd
      simp only [if_true] at h1 h2
      split at h1
      · rename_i hl
        rw [if_pos (by rw [← h.len]; exact hl)] at h2
        cases h1; cases h2
        exact hv
      · cases h1
    · rw [if_neg hd] at h1 h2
      exact h.val n c' u' h1 h2
theorem eg {α:Type} {P:Program}:∀ (s:Sem α) {x:α} (w:World),aw P s=some x→s.run P w=.ok x w
  | .pure a,x,w,h=>by simp only [aw,Option.some.injEq] at h; subst h; rfl
  | .program k,x,w,h=>by simp only [aw] at h; exact eg (k P) w h
  | .load _ _ _,_,_,h=>by cases h
  | .store _ _ _ _,_,_,h=>by cases h
  | .new _ _,_,_,h=>by cases h
  | .shape _ _,_,_,h=>by cases h
  | .freeze _ _ _,_,_,h=>by cases h
  | .frozen _ _,_,_,h=>by cases h
  | .getObj _ _,_,_,h=>by cases h
  | .setObj _ _ _,_,_,h=>by cases h
  | .choose _ _,_,_,h=>by cases h
  | .sys _ _,_,_,h=>by cases h
  | .mark _ _,_,_,h=>by cases h
  | .halt _,_,_,h=>by cases h
theorem yU {P:Program} {op:BinOp} {a b c:Value} (h:Dn op a b=some c) (t:TypeId) (w:World) :
    (binOp op t a b).run P w=.ok c w∧plain c=true:=by
  unfold Dn at h
  split at h
  · split at h <;> first
      | (split at h
         · rename_i hk
           subst hk
           simp only [Option.some.injEq] at h
           subst h
           refine ⟨?_,rfl⟩
           simp [binOp,Op.intArith,Op.intCmp,Op.intBits]
         · cases h)
      | cases h
  · split at h <;> first
      | (simp only [Option.some.injEq] at h
         subst h
         refine ⟨?_,rfl⟩
         simp [binOp,Op.stringOp])
      | cases h
  · cases h
theorem xx {P:Program} {op:BinOp} {a b:Value} {K:Value→Prop} (h:sd op a b K) (t:TypeId) (w:World) :
    ∃ c,K c∧(binOp op t a b).run P w=.ok c w∧plain c=true:=by
  unfold sd at h
  split at h <;> first
    | exact False.elim h
    | (obtain ⟨hc,hK⟩:=ad h
       refine ⟨_,hK,?_,rfl⟩
       simp only [Bool.and_eq_true,decide_eq_true_eq,Bool.not_eq_true',beq_eq_false_iff_ne,ne_eq] at hc
       first
         | (obtain ⟨rfl,hb⟩:=hc; simp [binOp,Op.intDiv,hb])
         | (have hb:¬ _<(0:Int):=Int.not_lt.2 hc
            simp [binOp,Op.shift,hb])
         | (simp only [binOp,Op.stringOp]
            rw [if_neg (by rw [show IntKind.i64.max=9223372036854775807 from rfl]; omega)]
            rfl))
theorem AU {P:Program} {op:UnOp} {x:AV} {K:AV→Prop} {E:Env} {u:Value} (h:FL op x K) (hx:VR E x u) (w:World) :
    ∃ r z,K r∧VR E r z∧(Op.unary op u).run P w=.ok z w:=by
  unfold FL at h
  split at h <;> first
    | exact False.elim h
    | (obtain ⟨rfl,_⟩:=hx.vI
       exact ⟨_,_,h,.v _ _ rfl,by simp [Op.unary,Op.intArith,Op.intBits]⟩)
theorem kU {E:Env}:∀ {as:List AV} {xs:List Value} {us:List Value},rx as=some xs→bU E as us→us=xs
  | [],xs,us,h,hv=>by simp only [rx,Option.some.injEq] at h; subst h; exact hv.unnil
  | a::as,xs,us,h,hv=>by
    obtain ⟨u,us',rfl,ha,hs⟩:=hv.uncons
    unfold rx at h
    split at h
    · rename_i x xs' h1 h2
      simp only [Option.some.injEq] at h
      subst h
      unfold FK at h1
      split at h1
      · simp only [Option.some.injEq] at h1
        subst h1
        rw [ha.vI.1,kU h2 hs]
      · cases h1
    · cases h
def BZ:Value→Bool
  | .nilIface | .agg _=>false
  | _=>true
theorem gZ {op:BinOp} {t:TypeId} {X Y:Operand} {a b:Value} (h:BZ a=true):eqGuard op t X Y a b=pure ():=by
  unfold eqGuard
  cases a <;> first | (cases op <;> rfl) | (cases h; done)
theorem ql {P:Program} {t:TypeId} {u v:Value} {b:Bool} {w:World} (h:∀ d:Nat,(Op.equalIn (d + 1) t u v).run P w=.ok b w):(Op.equal t u v).run P w=.ok b w:=h 9999
theorem u9 {P:Program} {t:TypeId} (hu:P.underlying t=some .bool) (a b:Bool) (w:World) (d:Nat):(Op.equalIn (d + 1) t (.bool a) (.bool b)).run P w=.ok (a==b) w:=by
  unfold Op.equalIn
  rw [Sem.run_bind,run_underlying hu]
  rfl
theorem qV {P:Program} {t:TypeId} {x y:AV} {E:Env} {u v:Value} {b:Bool} (hk:kindOk P t x y=true) (h:zV x y=some b) (hx:VR E x u) (hy:VR E y v) (w:World) :
    (Op.equal t u v).run P w=.ok b w∧BZ u=true∧(binOp .eql t u v).run P w=((Op.equal t u v).run P w).andThen (fun r w=>.ok (.bool r) w)∧(binOp .neq t u v).run P w=((Op.equal t u v).run P w).andThen (fun r w=>.ok (.bool (!r)) w):=by
  have key:(∀ d:Nat,(Op.equalIn (d + 1) t u v).run P w=.ok b w)→BZ u=true∧binOp .eql t u v=(do pure (.bool (← Op.equal t u v)))∧binOp .neq t u v=(do pure (.bool (!(← Op.equal t u v)))) →
      (Op.equal t u v).run P w=.ok b w∧BZ u=true∧(binOp .eql t u v).run P w=((Op.equal t u v).run P w).andThen (fun r w=>.ok (.bool r) w)∧(binOp .neq t u v).run P w=((Op.equal t u v).run P w).andThen (fun r w=>.ok (.bool (!r)) w) :=
    fun h1 h2=>⟨ql h1,h2.1,by rw [h2.2.1,Sem.run_bind]; rfl,by rw [h2.2.2,Sem.run_bind]; rfl⟩
  unfold zV at h
  split at h
  all_goals first
    | (cases h; done)
    | (simp only [Option.some.injEq] at h
       subst h
       unfold kindOk at hk
       split at hk
       all_goals first
         | (cases hk; done)
         | (cases hx <;> cases hy <;> have hu:=‹P.underlying t=some _› <;> first
              | (refine key (fun d=>?_) ⟨rfl,rfl,rfl⟩; unfold Op.equalIn; rw [Sem.run_bind,run_underlying hu]; rfl)
              | (exfalso; simp_all; done)))
theorem yV {P:Program} {op:BinOp} {t:TypeId} {x y:AV} {K:AV→Prop} {E:Env} {u v:Value} (hk:kindOk P t x y=true) (h:BQ op x y K) (hx:VR E x u) (hy:VR E y v) (w:World) (X Y:Operand) :
    ∃ r z,K r∧VR E r z∧(do eqGuard op t X Y u v; binOp op t u v:Sem Value).run P w=.ok z w:=by
  unfold BQ at h
  split at h
  · split at h
    · rename_i b hb
      obtain ⟨h1,h2,h3⟩:=qV hk hb hx hy w
      exact ⟨_,_,h,.v _ _ rfl,by rw [gZ h2]; simp [h3.1,h1]⟩
    · exact False.elim h
  · split at h
    · rename_i b hb
      obtain ⟨h1,h2,h3⟩:=qV hk hb hx hy w
      exact ⟨_,_,h,.v _ _ rfl,by rw [gZ h2]; simp [h3.2,h1]⟩
    · exact False.elim h
  · exact False.elim h
theorem sr {P:Program} {op:BinOp} {t:TypeId} {x y:AV} {K:AV→Prop} {E:Env} {u v:Value} (h:yO P op t x y K) (hx:VR E x u) (hy:VR E y v) (w:World) (X Y:Operand) :
    ∃ r z,K r∧VR E r z∧(do eqGuard op t X Y u v; binOp op t u v:Sem Value).run P w=.ok z w:=by
  unfold yO at h
  split at h
  · rename_i a b
    obtain ⟨rfl,pa⟩:=hx.vI
    obtain ⟨rfl,pb⟩:=hy.vI
    have hg:(eqGuard op t X Y u v).run P w=.ok () w:=by
      rw [gZ (by cases u <;> first | rfl | (cases pa; done))]
      rfl
    unfold uX at h
    split at h
    · rename_i c hc
      obtain ⟨h1,h2⟩:=yU (P:=P) hc t w
      exact ⟨_,_,h,.v _ _ h2,by simp [hg,h1]⟩
    · split at h
      · unfold xo at h
        split at h
        · rename_i hu
          split at h <;> first
            | exact False.elim h
            | (refine ⟨_,_,h,.v _ _ rfl,?_⟩
               rw [Sem.run_bind,hg,Result.andThen_ok]
               first
                 | (show (Op.equal t (.bool _) (.bool _) >>= fun r=>(pure (Value.bool r):Sem Value)).run P w=_
                    rw [Sem.run_bind,ql (u9 hu _ _ w)]
                    rfl)
                 | (show (Op.equal t (.bool _) (.bool _) >>= fun r=>(pure (Value.bool (!r)):Sem Value)).run P w=_
                    rw [Sem.run_bind,ql (u9 hu _ _ w)]
                    rfl))
        · exact False.elim h
      · obtain ⟨c,hK,h1,h2⟩:=xx (P:=P) h t w
        exact ⟨_,_,hK,.v _ _ h2,by simp [hg,h1]⟩
  · rename_i as bs
    obtain ⟨us,rfl,hus⟩:=hx.aggI
    obtain ⟨ws,rfl,hws⟩:=hy.aggI
    split at h
    · rename_i xs ys h1 h2
      have e1:=kU h1 hus
      have e2:=kU h2 hws
      split at h
      · rename_i b hb
        have hr:=eg _ w hb
        refine ⟨_,_,h,.v _ _ rfl,?_⟩
        have e3:us=xs.toArray:=by rw [← e1]
        have e4:ws=ys.toArray:=by rw [← e2]
        subst e3 e4
        rw [← hr]
        rfl
      · exact False.elim h
    · exact False.elim h
  · obtain ⟨hk,h⟩:=ad h
    exact yV hk h hx hy w X Y
theorem run_sizeOf {P:Program} {t:TypeId} {i:TypeInfo} (h:P.info? t=some i) (w:World):(sizeOf t).run P w=.ok i.size w:=by
  unfold sizeOf
  rw [Sem.run_bind,run_typeInfo w h]
  rfl
theorem iZ {P:Program} {t:TypeId} {d:TypeDesc} (h:P.underlying t=some d) (w:World):(isAgg t).run P w=.ok (match d with | .struct _ | .array _ _=>true | _=>false) w:=by
  unfold isAgg
  rw [Sem.run_bind,run_underlying h,Result.andThen_ok]
  cases d <;> rfl
theorem ss {P:Program} {t:TypeId} {row:List AV} {j:Nat} {k:AV→Prop} {E:Env} {us:Array Value} (h:gu P t row j k) (hr:bU E row us.toList) (w:World) :
    ∃ r u,k r∧VR E r u∧(part t us j).run P w=.ok u w:=by
  have agg:∀ i,P.info? t=some i→bw (Nat.ble (j + i.size) row.length) (gp ((row.drop j).take i.size) fun cs=>k (.agg cs))→(isAgg t).run P w=.ok true w →
      ∃ r u,k r∧VR E r u∧(part t us j).run P w=.ok u w:=by
    intro i hi h ha
    obtain ⟨hl,hk⟩:=ad h
    rw [da] at hk
    refine ⟨_,.agg (us.extract j (j + i.size)),hk,bU.aggV ?_,?_⟩
    · have:=(hr.drop j).take i.size
      rw [Array.toList_extract]
      simpa [List.extract] using this
    · unfold part
      rw [Sem.run_bind,ha,Result.andThen_ok,if_pos rfl,Sem.run_bind,run_sizeOf hi]
      rfl
  unfold gu at h
  split at h
  · rename_i hu
    split at h
    · rename_i i hi
      exact agg i hi h (by rw [iZ hu])
    · exact False.elim h
  · rename_i hu
    split at h
    · rename_i i hi
      exact agg i hi h (by rw [iZ hu])
    · exact False.elim h
  · rename_i d h1 h2 hu
    split at h
    · rename_i c hc
      obtain ⟨u,hu',hv⟩:=hr.get hc
      refine ⟨_,_,h,hv,?_⟩
      unfold part
      have ha:(isAgg t).run P w=.ok false w:=by
        rw [iZ hu]
        cases d <;> first | rfl | (exact absurd rfl (h1 _)) | (exact absurd rfl (h2 _ _))
      rw [Sem.run_bind,ha,Result.andThen_ok,if_neg (by simp)]
      rw [Array.getElem?_toList] at hu'
      rw [hu']
      rfl
    · exact False.elim h
  · exact False.elim h
theorem eA (b o m:Nat):(⟨b,o,none⟩:Addr).add m=⟨b,o + m,none⟩:=by
  unfold Addr.add
  split
  · rename_i h; subst h; rfl
  · rfl
theorem i1 (w:World) (b i:Nat):w.cell? ⟨b,i,none⟩=cQ w.heap b i:=by
  unfold World.cell? cQ
  split <;> simp_all
theorem nJ {P:Program} {t:TypeId} {row:List AV} {j:Nat} {k:AV→Prop} {E:Env} {us:List Value} {b o:Nat} (h:gu P t row j k) (hr:bU E row us) (w:World)
    (hc:∀ (m:Nat) (u:Value),us[m]?=some u→cQ w.heap b (o + m)=some u) :
    ∃ r u,k r∧VR E r u∧(Instr.loadAt t (.pointer (some ⟨b,o + j,none⟩))).run P w=.ok u w:=by
  have agg:∀ i,P.info? t=some i→bw (Nat.ble (j + i.size) row.length) (gp ((row.drop j).take i.size) fun cs=>k (.agg cs))→(isAgg t).run P w=.ok true w →
      ∃ r u,k r∧VR E r u∧(Instr.loadAt t (.pointer (some ⟨b,o + j,none⟩))).run P w=.ok u w:=by
    intro i hi h ha
    obtain ⟨hl,hk⟩:=ad h
    rw [da] at hk
    have hle:j + i.size≤us.length:=by rw [← hr.1]; exact Nat.le_of_ble_eq_true hl
    have hlen:((us.drop j).take i.size).length=i.size:=by simp; omega
    refine ⟨_,.agg ((us.drop j).take i.size).toArray,hk,bU.aggV (by simpa using (hr.drop j).take i.size),?_⟩
    have hrun:=run_loadCells_list (P:=P) (w:=w) ⟨b,o + j,none⟩ ((us.drop j).take i.size) (fun m v hv=>by
      rw [eA,i1,Nat.add_assoc]
      refine hc _ _ ?_
      rw [List.getElem?_take] at hv
      split at hv
      · rw [List.getElem?_drop] at hv
        exact hv
      · cases hv)
    rw [hlen] at hrun
    unfold Instr.loadAt Instr.sureAddr loadVar
    simp only [Sem.run_bind,Sem.run_pure,Result.andThen_ok,ha,if_true,run_sizeOf hi,hrun]
  unfold gu at h
  split at h
  · rename_i hu
    split at h
    · rename_i i hi
      exact agg i hi h (by rw [iZ hu])
    · exact False.elim h
  · rename_i hu
    split at h
    · rename_i i hi
      exact agg i hi h (by rw [iZ hu])
    · exact False.elim h
  · rename_i d h1 h2 hu
    split at h
    · rename_i c hcc
      obtain ⟨u,hu',hv⟩:=hr.get hcc
      refine ⟨_,_,h,hv,?_⟩
      have ha:(isAgg t).run P w=.ok false w:=by
        rw [iZ hu]
        cases d <;> first | rfl | (exact absurd rfl (h1 _)) | (exact absurd rfl (h2 _ _))
      unfold Instr.loadAt Instr.sureAddr loadVar
      have hcell:w.cell? ⟨b,o + j,none⟩=some u:=by rw [i1]; exact hc _ _ hu'
      simp [ha,hcell]
    · exact False.elim h
  · exact False.elim h
theorem xy:∀ (xs cs:List AV) (m:Nat),(over xs cs)[m]?=if m<cs.length∧m<xs.length then cs[m]? else xs[m]?
  | xs,[],m=>by simp [over]
  | [],c::cs,m=>by simp [over]
  | x::xs,c::cs,0=>by simp [over]
  | x::xs,c::cs,m + 1=>by
    have:=xy xs cs m
    simp only [over,List.getElem?_cons_succ,List.length_cons,this]
    by_cases h:m<cs.length∧m<xs.length
    · rw [if_pos h,if_pos (by omega)]
    · rw [if_neg h,if_neg (by omega)]
theorem qW:∀ (xs cs:List AV),(over xs cs).length=xs.length
  | xs,[]=>by simp [over]
  | [],c::cs=>by simp [over]
  | x::xs,c::cs=>by simp [over,qW xs cs]
theorem nK:∀ (row:List AV) (n:Nat) (cs:List AV) (m:Nat),(splice row n cs)[m]?=if n≤m∧m<n + cs.length∧m<row.length then cs[m - n]? else row[m]?
  | row,0,cs,m=>by
    have:=xy row cs m
    have e:splice row 0 cs=over row cs:=by cases row <;> rfl
    rw [e,this]
    simp
  | [],n + 1,cs,m=>by simp [splice]
  | x::xs,n + 1,cs,0=>by simp [splice]
  | x::xs,n + 1,cs,m + 1=>by
    have:=nK xs n cs m
    simp only [splice,List.getElem?_cons_succ,List.length_cons,this,Nat.add_sub_add_right]
    by_cases h:n≤m∧m<n + cs.length∧m<xs.length
    · rw [if_pos h,if_pos (by omega)]
    · rw [if_neg h,if_neg (by omega)]
theorem fJ:∀ (row:List AV) (n:Nat) (cs:List AV),(splice row n cs).length=row.length
  | row,0,cs=>by
    have e:splice row 0 cs=over row cs:=by cases row <;> rfl
    rw [e,qW]
  | [],n + 1,cs=>rfl
  | x::xs,n + 1,cs=>by simp [splice,fJ xs n cs]
def bZ (us:Array Value) (off:Nat):List Value→Nat→Array Value
  | [],_=>us
  | v::vs,i=>bZ (us.setIfInBounds (off + i) v) off vs (i + 1)
theorem cp:∀ (vs:List Value) (us:Array Value) (off i:Nat),(bZ us off vs i).size=us.size
  | [],_,_,_=>rfl
  | v::vs,us,off,i=>by rw [bZ,cp vs]; simp
theorem g0:∀ (vs:List Value) (us:Array Value) (off i m:Nat),(bZ us off vs i)[m]?=if off + i≤m∧m<off + i + vs.length∧m<us.size then vs[m - (off + i)]? else us[m]?
  | [],us,off,i,m=>by
    rw [if_neg (by simp; omega)]
    rfl
  | v::vs,us,off,i,m=>by
    rw [bZ,g0 vs]
    simp only [Array.size_setIfInBounds,List.length_cons,Array.getElem?_setIfInBounds]
    by_cases h1:off + (i + 1)≤m∧m<off + (i + 1) + vs.length∧m<us.size
    · rw [if_pos h1,if_pos (by omega),show m - (off + i)=(m - (off + (i + 1))) + 1 by omega]
      rfl
    · rw [if_neg h1]
      by_cases h2:off + i=m
      · subst h2
        rw [if_pos rfl]
        by_cases h3:off + i<us.size
        · rw [if_pos h3,if_pos (by omega)]; simp
        · rw [if_neg h3,if_neg (by omega)]
          simp [Array.getElem?_eq_none (Nat.le_of_not_lt h3)]
      · rw [if_neg h2,if_neg (by omega)]
theorem pi:∀ (vs:List Value) (us:Array Value) (off i:Nat),(vs.zipIdx i).foldl (fun cs (x:Value×Nat)=>cs.setIfInBounds (off + x.2) x.1) us=bZ us off vs i
  | [],_,_,_=>rfl
  | v::vs,us,off,i=>by
    rw [List.zipIdx_cons,List.foldl_cons,pi vs]
    rfl
theorem bU.splice {E:Env} {row cs:List AV} {us:Array Value} {vs:List Value} (h:bU E row us.toList) (k:bU E cs vs) (n:Nat):bU E (splice row n cs) (bZ us n vs 0).toList:=by
  have hl:row.length=us.size:=by simpa using h.1
  refine ⟨by have:=cp vs us n 0; simp [fJ,this,hl],fun m c u h1 h2=>?_⟩
  rw [nK] at h1
  rw [Array.getElem?_toList,g0] at h2
  simp only [Nat.add_zero] at h2
  by_cases hc:n≤m∧m<n + cs.length∧m<row.length
  · rw [if_pos hc] at h1
    rw [if_pos (by rw [← k.1,← hl]; exact hc)] at h2
    exact k.2 _ c u h1 h2
  · rw [if_neg hc] at h1
    rw [if_neg (by rw [← k.1,← hl]; exact hc)] at h2
    exact h.2 m c u h1 (by rw [Array.getElem?_toList]; exact h2)
def l8:Value→Bool
  | .agg _ | .tuple _=>false
  | _=>true
theorem nL {E:Env} {c:AV} {u:Value} (h:jV c=true) (hv:VR E c u):l8 u=true:=by
  cases hv <;> first | rfl | (cases h; done) | (rename_i hp; revert hp; cases u <;> intro hp <;> first | rfl | (cases hp; done))
theorem wi {u:Value} (h:l8 u=true):u.cells=#[u]:=by
  cases u <;> first | rfl | (cases h; done)
theorem kV {E:Env} {a:AV} {u:Value} {k:List AV→Prop} (h:kQ a k) (hv:VR E a u):∃ cs,k cs∧bU E cs u.cells.toList∧∀ c∈cs,jV c=true:=by
  unfold kQ at h
  split at h
  · obtain ⟨us,rfl,hs⟩:=hv.aggI
    obtain ⟨h1,h2⟩:=ad h
    exact ⟨_,h2,hs,fun c hc=>List.all_eq_true.1 h1 c hc⟩
  · exact False.elim h
  · exact False.elim h
  · rename_i h1 h2 h3
    have ho:jV a=true:=by
      cases a <;> first | rfl | (exact (h1 _ rfl).elim) | (exact (h2 rfl).elim) | (exact (h3 _ rfl).elim)
    refine ⟨_,h,?_,fun c hc=>by simp at hc; subst hc; exact ho⟩
    rw [wi (nL ho hv)]
    exact .cons hv (.nil E)
theorem cL {P:Program} {e:TypeId} {k:List AV→Prop} (h:cr P e k):∃ i z cs,P.info? e=some i∧i.zero=some z∧z.cells.size=i.size∧k cs∧∀ E,bU E cs z.cells.toList:=by
  unfold cr at h
  split at h
  · rename_i i hi
    split at h
    · rename_i z hz
      obtain ⟨h1,h2⟩:=ad h
      rw [fZ] at h2
      refine ⟨i,z,_,hi,hz,by simpa using h1,h2,fun E=>⟨by simp,fun m c u h3 h4=>?_⟩⟩
      rw [List.getElem?_map,Option.map_eq_some_iff] at h3
      obtain ⟨y,hy,rfl⟩:=h3
      rw [hy] at h4
      cases h4
      exact qk
    · exact False.elim h
  · exact False.elim h
def Gm (E:Env) (ps:List (Nat×AV)) (qs:List (Nat×Value)):Prop :=
  ps.map (·.1)=qs.map (·.1)∧bU E (ps.map (·.2)) (qs.map (·.2))
theorem jd {E:Env} {place:Nat→Option (Nat×Nat)} {k:List AV→Prop}:∀ {ps:List (Nat×AV)} {qs:List (Nat×Value)} {cells:List AV} {us:Array Value},Gm E ps qs→bU E cells us.toList →
    ly place cells ps k→∃ cs us',k cs∧bU E cs us'.toList∧us'.size=us.size∧Instr.fill place us qs=some us'
  | [],qs,cells,us,hp,hc,h=>by
    have:qs=[]:=by have:=hp.1; simpa using this.symm
    subst this
    exact ⟨_,us,da.1 h,hc,rfl,rfl⟩
  | (i,x)::ps,qs,cells,us,hp,hc,h=>by
    cases qs with
    | nil=>have:=hp.1; simp at this
    | cons q qs =>
      obtain ⟨i',v⟩:=q
      have h1:=hp.1
      simp only [List.map_cons,List.cons.injEq] at h1
      obtain ⟨rfl,h1⟩:=h1
      have h2:=hp.2
      simp only [List.map_cons] at h2
      obtain ⟨u,us',e,hx,hs⟩:=h2.uncons
      simp only [List.cons.injEq] at e
      obtain ⟨rfl,rfl⟩:=e
      unfold ly at h
      split at h
      · rename_i off size hpl
        obtain ⟨cs,h,hcs,_⟩:=kV h hx
        obtain ⟨hb,h⟩:=ad h
        simp only [Bool.and_eq_true] at hb
        have e1:cs.length=size:=Nat.eq_of_beq_eq_true hb.1
        have e2:off + cs.length≤cells.length:=Nat.le_of_ble_eq_true hb.2
        have e3:cs.length=v.cells.size:=by simpa using hcs.1
        have e4:cells.length=us.size:=by simpa using hc.1
        have hc':=hc.splice hcs off
        obtain ⟨cs',us',hk,hv,hsz,hf⟩:=jd (ps:=ps) (qs:=qs) ⟨h1,hs⟩ hc' h
        refine ⟨cs',us',hk,hv,by rw [hsz,cp],?_⟩
        unfold Instr.fill
        rw [hpl]
        simp only
        rw [if_neg (by simp; omega)]
        have:=pi v.cells.toList us off 0
        rw [← hf]
        congr 1
        rw [← this,← Array.foldl_toList,Array.toList_zipIdx]
      · exact False.elim h
end A
end Go.Proofs.YteafbimadlcljaaDoor
