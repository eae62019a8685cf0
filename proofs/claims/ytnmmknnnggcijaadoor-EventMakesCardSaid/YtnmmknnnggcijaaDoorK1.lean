/- The evaluator and what its values stand for. Nothing is claimed here of the program. -/
import Derived.Calls
import Derived.Still
import Derived.Below
import Derived.Laws.Cells
import Derived.Laws.Entries
import Derived.ChangeKeysEq
namespace Go.Proofs.YtnmmknnnggcijaaDoor
namespace A
open Go
inductive Key where
  | L (d:Nat)
  | O (i:Nat)
  | S (id i:Nat)
  deriving DecidableEq
def Key.isS:Key→Bool
  | .S _ _=>true
  | _=>false
inductive AV where
  | bad
  | v (x:Value)
  | nilp
  | ptr (k:Key) (i j:Nat)
  | fptr (row:List AV) (j:Nat)
  | nilsl
  | esl
  | sl (rows:List (List AV))
  | mf (id:Nat)
  | msl (id off len ext:Nat)
  | bsl (k:Key) (off len:Nat)
  | nilmap
  | mp (id:Nat)
  | nilfn
  | fn (f:Nat) (first cap:List AV)
  | agg (cs:List AV)
  | tup (vs:List AV)
inductive Ob where
  | arr (fl:Bool) (sz:Nat) (rows:List (List AV))
  | mapo (fl:Bool) (es:List (AV×AV))
  | own (ks:Option (List AV)) (sz:Nat) (cells:List (Option (List (List AV)))) (hole:Option (Nat×AV))
  | dead
structure St where
  t:List AV
  l:List (Nat×List AV)
  o:List Ob
  b:Nat
inductive Ex where
  | nrm
  | ex (id:Nat)
  | ret
structure bi where
  esc:List Nat
  ms:List Nat
  bx:List Nat
  st:List Nat
  fz:List Nat:=[]
  dc:List Nat:=[]
  ow:List Nat:=[]
  oh:List Nat:=[]
  cl:List Nat:=[]
  fr:List Nat:=[]
  ix:List (Nat×Nat):=[]
structure Ctx where
  P:Program
  pure:Nat→Bool
  pol:Nat→bi
  pcall:Nat→List AV→(AV→Prop)→Prop
  scall:Nat→List AV→List Ob→(AV→List Ob→Prop)→Prop
  loop:bi→Code→St→(Ex→St→Prop)→Prop
def af (_n:Nat):Prop:=False
def xv (b:Bool) (X Y:Prop):Prop:=match b with | true=>X | false=>Y
def bf (b:Bool) (X:Prop):Prop:=match b with | true=>X | false=>af 1
def jH (a:AV) (k:AV→Prop):Prop :=
  match a with
  | .bad=>k .bad
  | .v x=>k (.v x)
  | .nilp=>k .nilp
  | .ptr x i j=>k (.ptr x i j)
  | .fptr r j=>k (.fptr r j)
  | .nilsl=>k .nilsl
  | .esl=>k .esl
  | .sl r=>k (.sl r)
  | .mf i=>k (.mf i)
  | .msl i a b c=>k (.msl i a b c)
  | .bsl x a b=>k (.bsl x a b)
  | .nilmap=>k .nilmap
  | .mp i=>k (.mp i)
  | .nilfn=>k .nilfn
  | .fn f a b=>k (.fn f a b)
  | .agg c=>k (.agg c)
  | .tup c=>k (.tup c)
def gK:List AV→(List AV→Prop)→Prop
  | [],k=>k []
  | x::xs,k=>gK xs fun ys=>k (x::ys)
def rI:List AV→(List AV→Prop)→Prop
  | [],k=>k []
  | x::xs,k=>jH x fun y=>rI xs fun ys=>k (y::ys)
def nP:List AV→Nat→(AV→Prop)→Prop
  | [],_,_=>af 2
  | x::_,0,k=>k x
  | _::xs,n + 1,k=>nP xs n k
def qc:List AV→Nat→AV→(List AV→Prop)→Prop
  | [],_,_,k=>k []
  | _::xs,0,v,k=>k (v::xs)
  | x::xs,n + 1,v,k=>qc xs n v fun ys=>k (x::ys)
def rZ:Value→AV
  | .bool b=>.v (.bool b)
  | .int k n=>.v (.int k n)
  | .float k n=>.v (.float k n)
  | .string s=>.v (.string s)
  | .pointer none=>.nilp
  | .slice none 0 0=>.nilsl
  | .map none=>.nilmap
  | .nilFunc=>.nilfn
  | _=>.bad
def AO:Value→AV
  | .agg cs=>.agg (cs.toList.map rZ)
  | x=>rZ x
def mc (k:IntKind) (ns:List Int):List AV:=ns.map fun n=>.v (.int k n)
def CY (g:Nat):Option (List AV) :=
  match g with
  | 0=>some (mc .u64 [1,10,100,1000,10000,100000,1000000,10000000,100000000,1000000000,10000000000,100000000000,1000000000000,10000000000000,100000000000000,1000000000000000,10000000000000000,100000000000000000,1000000000000000000,10000000000000000000])
  | 1=>some (mc .u8 [0,1,28,2,29,14,24,3,30,22,20,15,25,17,4,8,31,27,13,23,21,19,16,7,26,12,18,6,11,5,10,9])
  | 2=>some (mc .u8 [0,1,56,2,57,49,28,3,61,58,42,50,38,29,17,4,62,47,59,36,45,43,51,22,53,39,33,30,24,18,12,5,63,55,48,27,60,41,37,16,46,35,44,21,52,32,23,11,54,26,40,15,34,20,31,10,25,14,19,9,13,8,7,6])
  | _=>none
def cj (S:St) (x:Operand) (k:AV→Prop):Prop :=
  match x with
  | .tmp t=>nP S.t t k
  | .const c=>jH (AO c) k
  | .func f=>k (.fn f [] [])
  | .global g=>match CY g with | some row=>k (.fptr row 0) | none=>af 3
def cX (S:St):List Operand→(List AV→Prop)→Prop
  | [],k=>k []
  | x::xs,k=>cj S x fun a=>cX S xs fun as=>k (a::as)
def bc (dst:Option Tmp) (a:AV) (S:St) (K:St→Prop):Prop :=
  match dst with
  | none=>K S
  | some d=>qc S.t d a fun t=>K { t:=t,l:=S.l,o:=S.o,b:=S.b }
def r4 (d:Nat) (S:St) (k:Bool→St→Prop):Prop :=
  nP S.t d fun a =>
    match a with
    | .v (.bool b)=>xv b (qc S.t d (.v (.bool true)) fun t=>k true { t:=t,l:=S.l,o:=S.o,b:=S.b }) (qc S.t d (.v (.bool false)) fun t=>k false { t:=t,l:=S.l,o:=S.o,b:=S.b })
    | _=>af 4
def md (c:Operand) (S:St) (k:Bool→St→Prop):Prop :=
  match c with
  | .tmp d=>r4 d S k
  | .const (.bool b)=>xv b (k true S) (k false S)
  | _=>af 5
def cm:Nat→Key→AV→AV
  | 0,_,_=>.bad
  | n + 1,k,a =>
    match a with
    | .ptr k' i j=>if k'=k then .bad else .ptr k' i j
    | .mf id=>if Key.O id=k then .bad else .mf id
    | .msl id a b c=>if Key.O id=k then .bad else .msl id a b c
    | .bsl k' a b=>if k'=k then .bad else .bsl k' a b
    | .mp id=>if Key.O id=k then .bad else .mp id
    | .fn f x y=>.fn f (x.map (cm n k)) (y.map (cm n k))
    | .agg cs=>.agg (cs.map (cm n k))
    | .tup cs=>.tup (cs.map (cm n k))
    | a=>a
def kN (k:Key):List AV→(List AV→Prop)→Prop
  | [],K=>K []
  | x::xs,K=>jH (cm 4 k x) fun y=>kN k xs fun ys=>K (y::ys)
def k_ (k:Key):List (Nat×List AV)→(List (Nat×List AV)→Prop)→Prop
  | [],K=>K []
  | (d,c)::xs,K=>kN k c fun c'=>k_ k xs fun ys=>K ((d,c')::ys)
def dl (k:Key):Ob→Ob
  | .arr false sz rows=>.arr false sz (rows.map (List.map (cm 4 k)))
  | .mapo false es=>.mapo false (es.map fun e=>(e.1,cm 4 k e.2))
  | .own ks sz cells (some h)=>.own ks sz cells (some (h.1,cm 4 k h.2))
  | o=>o
def gL (k:Key):List Ob→(List Ob→Prop)→Prop
  | [],K=>K []
  | .arr true sz rows::xs,K=>gL k xs fun ys=>K (.arr true sz rows::ys)
  | .dead::xs,K=>gL k xs fun ys=>K (.dead::ys)
  | .mapo true es::xs,K=>gL k xs fun ys=>K (.mapo true es::ys)
  | .arr false sz rows::xs,K=>gL k xs fun ys=>K (.arr false sz (rows.map (List.map (cm 4 k)))::ys)
  | .mapo false es::xs,K=>gL k xs fun ys=>K (.mapo false (es.map fun e=>(e.1,cm 4 k e.2))::ys)
  | .own ks sz cells none::xs,K=>gL k xs fun ys=>K (.own ks sz cells none::ys)
  | .own ks sz cells (some h)::xs,K=>gL k xs fun ys=>K (.own ks sz cells (some (h.1,cm 4 k h.2))::ys)
def cM:Nat→AV→Bool
  | 0,_=>false
  | n + 1,a =>
    match a with
    | .v _ | .nilp | .fptr .. | .nilsl | .esl | .sl _ | .nilmap | .nilfn=>true
    | .fn _ x y=>x.all (cM n)&&y.all (cM n)
    | .agg cs | .tup cs=>cs.all (cM n)
    | _=>false
def ru:Nat→AV→Bool
  | 0,_=>false
  | n + 1,a =>
    match a with
    | .ptr (.L _) _ _ | .bsl (.L _) _ _ | .bad=>false
    | .fn _ x y=>x.all (ru n)&&y.all (ru n)
    | .agg cs | .tup cs=>cs.all (ru n)
    | _=>true
def kr:AV→Bool
  | .bad | .agg _ | .tup _=>false
  | _=>true
def r5:Nat→AV→Bool
  | 0,_=>false
  | n + 1,a =>
    match a with
    | .v _ | .nilp | .nilsl | .esl | .nilmap | .nilfn=>true
    | .agg cs | .tup cs=>cs.all (r5 n)
    | _=>false
def mg (size:Nat):List (List AV)→Bool
  | []=>true
  | r::_=>Nat.beq r.length size
def lb (a:AV) (k:List AV→Prop):Prop :=
  match a with
  | .agg cs=>bf (cs.all kr) (k cs)
  | .bad | .tup _=>af 6
  | a=>k [a]
def over:List AV→List AV→List AV
  | xs,[]=>xs
  | [],_=>[]
  | _::xs,c::cs=>c::over xs cs
def splice:List AV→Nat→List AV→List AV
  | row,0,cs=>over row cs
  | [],_ + 1,_=>[]
  | x::xs,n + 1,cs=>x::splice xs n cs
def aF:List (Nat×List AV)→Nat→Option (List AV)
  | [],_=>none
  | (d,c)::xs,e=>if d=e then some c else aF xs e
def nq:List (Nat×List AV)→Nat→List (Nat×List AV)
  | [],_=>[]
  | (d,c)::xs,e=>if d=e then nq xs e else (d,c)::nq xs e
def pf:List (Nat×List AV)→Nat→List AV→List (Nat×List AV)
  | [],_,_=>[]
  | (d,c)::xs,e,c'=>if d=e then (d,c')::xs else (d,c)::pf xs e c'
def mh:List (Nat×List AV)→(List (Nat×List AV)→Prop)→Prop
  | [],k=>k []
  | (d,c)::xs,k=>mh xs fun ys=>k ((d,c)::ys)
def aQ:List Ob→(List Ob→Prop)→Prop
  | [],k=>k []
  | x::xs,k=>aQ xs fun ys=>k (x::ys)
def uv (S:St) (key:Key) (i:Nat) (k:List AV→Prop):Prop :=
  match key with
  | .L d =>
    match aF S.l d with
    | some row=>match i with | 0=>k row | _ + 1=>af 7
    | none=>af 8
  | .O id =>
    match S.o[id]? with
    | some (.arr _ _ rows)=>match rows[i]? with | some row=>k row | none=>af 9
    | _=>af 10
  | .S _ _=>af 11
def BF (S:St) (a:AV) (k:List AV→Nat→Prop):Prop :=
  match a with
  | .ptr key i j=>uv S key i fun row=>k row j
  | .fptr row j=>k row j
  | _=>af 11
def gM (P:Program) (t:TypeId) (row:List AV) (j:Nat) (k:AV→Prop):Prop :=
  match P.underlying t with
  | some (.struct _) | some (.array _ _) =>
    match P.info? t with
    | some i=>bf (Nat.ble (j + i.size) row.length) (gK ((row.drop j).take i.size) fun cs=>k (.agg cs))
    | none=>af 12
  | some _=>match row[j]? with | some c=>k c | none=>af 13
  | none=>af 14
def ku (S:St) (a:AV) (cs:List AV) (K:St→Prop):Prop :=
  match a with
  | .ptr (.L d) i j =>
    match aF S.l d with
    | some row =>
      match i with
      | 0=>bf (Nat.ble (j + cs.length) row.length) (gK (splice row j cs) fun row'=>mh (pf S.l d row') fun l=>K { t:=S.t,l:=l,o:=S.o,b:=S.b })
      | _ + 1=>af 15
    | none=>af 16
  | .ptr (.O id) i j =>
    match S.o[id]? with
    | some (.arr fl sz rows) =>
      match rows[i]? with
      | some row=>bf (Nat.ble (j + cs.length) row.length&&cs.all (ru 4)) (gK (splice row j cs) fun row'=>aQ (S.o.set id (.arr (fl&&cs.all (cM 4)) sz (rows.set i row'))) fun o=>K { t:=S.t,l:=S.l,o:=o,b:=S.b })
      | none=>af 17
    | _=>af 18
  | _=>af 19
def CZ (op:BinOp) (x y:Value):Option Value :=
  match x,y with
  | .int k a,.int k' b =>
    match op with
    | .add=>if k=k' then some (.int k (k.wrap (a + b))) else none
    | .sub=>if k=k' then some (.int k (k.wrap (a - b))) else none
    | .mul=>if k=k' then some (.int k (k.wrap (a * b))) else none
    | .eql=>if k=k' then some (.bool (a==b)) else none
    | .neq=>if k=k' then some (.bool (a != b)) else none
    | .lss=>if k=k' then some (.bool (a<b)) else none
    | .leq=>if k=k' then some (.bool (a≤b)) else none
    | .gtr=>if k=k' then some (.bool (a>b)) else none
    | .geq=>if k=k' then some (.bool (a≥b)) else none
    | .and=>if k=k' then some (.int k (k.wrap (BitVec.ofInt k.bits a &&& BitVec.ofInt k.bits b).toNat)) else none
    | .or=>if k=k' then some (.int k (k.wrap (BitVec.ofInt k.bits a ||| BitVec.ofInt k.bits b).toNat)) else none
    | .xor=>if k=k' then some (.int k (k.wrap (BitVec.ofInt k.bits a ^^^ BitVec.ofInt k.bits b).toNat)) else none
    | .andNot=>if k=k' then some (.int k (k.wrap (BitVec.ofInt k.bits a &&& ~~~ BitVec.ofInt k.bits b).toNat)) else none
    | _=>none
  | .string a,.string b =>
    match op with
    | .eql=>some (.bool (a.toList==b.toList))
    | .neq=>some (.bool (!(a.toList==b.toList)))
    | .lss=>some (.bool (Op.bytesLess a.toList b.toList))
    | _=>none
  | _,_=>none
def r6 (op:BinOp) (x y:Value) (K:Value→Prop):Prop :=
  match op,x,y with
  | .quo,.int k a,.int k' b=>bf (decide (k=k')&&!(b==0)) (K (.int k (k.wrap (a.tdiv b))))
  | .rem,.int k a,.int k' b=>bf (decide (k=k')&&!(b==0)) (K (.int k (a.tmod b)))
  | .shl,.int k a,.int _ b=>bf (decide (0≤b)) (K (.int k (k.wrap (a * 2 ^ (min b.toNat k.bits)))))
  | .shr,.int k a,.int _ b=>bf (decide (0≤b)) (K (.int k (a.fdiv (2 ^ (min b.toNat k.bits)))))
  | .add,.string a,.string b=>bf (decide (((a.size + b.size:Nat):Int)≤9223372036854775807)) (K (.string (a++b)))
  | _,_,_=>af 20
def EW:AV→Option Value
  | .v x=>some x
  | _=>none
def rv:List AV→Option (List Value)
  | []=>some []
  | a::as=>match EW a,rv as with
    | some x,some xs=>some (x::xs)
    | _,_=>none
def aC {α:Type} (P:Program):Sem α→Option α
  | .pure a=>some a
  | .program k=>aC P (k P)
  | _=>none
def Ae (x y:AV):Option Bool :=
  match x,y with
  | .nilp,.nilp | .nilsl,.nilsl | .nilmap,.nilmap | .nilfn,.nilfn=>some true
  | .ptr ..,.nilp | .nilp,.ptr .. | .fptr ..,.nilp | .nilp,.fptr ..=>some false
  | .sl (_::_),.nilsl | .nilsl,.sl (_::_)=>some false
  | .mp _,.nilmap | .nilmap,.mp _=>some false
  | .fn ..,.nilfn | .nilfn,.fn ..=>some false
  | _,_=>none
def xw (P:Program) (op:BinOp) (t:TypeId) (a b:Bool) (K:AV→Prop):Prop :=
  match P.underlying t with
  | some .bool=>match op with
    | .eql=>K (.v (.bool (a==b)))
    | .neq=>K (.v (.bool (!(a==b))))
    | _=>af 221
  | _=>af 222
def vb (P:Program) (op:BinOp) (t:TypeId) (a b:Value) (K:AV→Prop):Prop :=
  match CZ op a b with
  | some c=>K (.v c)
  | none=>match a,b with
    | .bool x,.bool y=>xw P op t x y K
    | a,b=>r6 op a b fun c=>K (.v c)
def BK (op:BinOp) (x y:AV) (K:AV→Prop):Prop :=
  match op with
  | .eql=>match Ae x y with | some b=>K (.v (.bool b)) | none=>af 223
  | .neq=>match Ae x y with | some b=>K (.v (.bool (!b))) | none=>af 224
  | _=>af 225
def kindOk (P:Program) (t:TypeId) (x y:AV):Bool :=
  match P.underlying t,x,y with
  | some (.pointer _),.nilp,_ | some (.pointer _),_,.nilp=>true
  | some (.slice _),.nilsl,_ | some (.slice _),_,.nilsl=>true
  | some (.map _ _),.nilmap,_ | some (.map _ _),_,.nilmap=>true
  | some (.func _ _ _),.nilfn,_ | some (.func _ _ _),_,.nilfn=>true
  | _,_,_=>false
def qO (P:Program) (op:BinOp) (t:TypeId) (xs ys:List Value):Option Value :=
  aC P (do eqGuard op t (.tmp 0) (.tmp 0) (.agg xs.toArray) (.agg ys.toArray); binOp op t (.agg xs.toArray) (.agg ys.toArray))
def yY (P:Program) (op:BinOp) (t:TypeId) (x y:AV) (K:AV→Prop):Prop :=
  match x,y with
  | .v a,.v b=>vb P op t a b K
  | .agg as,.agg bs =>
    match rv as,rv bs with
    | some xs,some ys =>
      match qO P op t xs ys with
      | some (.bool b)=>K (.v (.bool b))
      | _=>af 226
    | _,_=>af 227
  | x,y=>bf (kindOk P t x y) (BK op x y K)
def EX (op:UnOp) (x:AV) (K:AV→Prop):Prop :=
  match op,x with
  | .not,.v (.bool b)=>K (.v (.bool (!b)))
  | .neg,.v (.int k n)=>K (.v (.int k (k.wrap (0 - n))))
  | .xor,.v (.int k n)=>K (.v (.int k (k.wrap (BitVec.ofInt k.bits (if k.signed then -1 else k.max) ^^^ BitVec.ofInt k.bits n).toNat)))
  | _,_=>af 28
def b_ (P:Program) (e:TypeId) (k:List AV→Prop):Prop :=
  match P.info? e with
  | some i=>match i.zero with
    | some z=>bf (z.cells.size==i.size) (rI (z.cells.toList.map rZ) k)
    | none=>af 29
  | none=>af 30
def dQ:List Nat→Nat→Bool
  | [],_=>false
  | x::xs,d=>Nat.beq x d||dQ xs d
def vc (d:Nat) (S:St) (K:St→Prop):Prop :=
  match aF S.l d with
  | none=>K S
  | some _=>kN (.L d) S.t fun t=>k_ (.L d) (nq S.l d) fun l=>K { t:=t,l:=l,o:=S.o,b:=S.b }
def lc:List Nat→St→(St→Prop)→Prop
  | [],S,K=>K S
  | d::ds,S,K=>vc d S fun S'=>lc ds S' K
def xx (pl:bi) (dst:Option Tmp) (cs:List AV) (S:St) (K:St→Prop):Prop :=
  match dst with
  | none=>af 31
  | some d=>bf (Nat.blt 0 cs.length) (
    match dQ pl.esc d with
    | true=>bf (cs.all (ru 4)) (aQ (S.o++[.arr (cs.all (cM 4)) cs.length [cs]]) fun o=>qc S.t d (.ptr (.O S.o.length) 0 0) fun t=>K { t:=t,l:=S.l,o:=o,b:=S.b })
    | false=>vc d S fun S'=>kN (.L d) cs fun cs'=>qc S'.t d (.ptr (.L d) 0 0) fun t'=>K { t:=t',l:=(d,cs')::S'.l,o:=S'.o,b:=S'.b })
def lQ (place:Nat→Option (Nat×Nat)):List AV→List (Nat×AV)→(List AV→Prop)→Prop
  | cells,[],k=>gK cells k
  | cells,(i,x)::rest,k =>
    match place i with
    | some (off,size)=>lb x fun cs=>bf (Nat.beq cs.length size&&Nat.ble (off + cs.length) cells.length) (lQ place (splice cells off cs) rest k)
    | none=>af 32
def wd (P:Program) (fs:Array Field) (i:Nat):Option (Nat×Nat) :=
  match fs[i]? with
  | some f=>match P.info? f.type with
    | some fi=>some (f.offset,fi.size)
    | none=>none
  | none=>none
def r7 (P:Program) (t:TypeId) (parts:List (Nat×AV)) (k:AV→Prop):Prop :=
  b_ P t fun z =>
  match P.underlying t with
  | some (.struct fs)=>bf (fs.toList.all fun f=>(P.info? f.type).isSome) (lQ (wd P fs) z parts fun cs=>k (.agg cs))
  | some (.array _ e)=>match P.info? e with
    | some i=>lQ (fun n=>some (n * i.size,i.size)) z parts fun cs=>k (.agg cs)
    | none=>af 33
  | _=>af 34
def pg (n:Nat):Nat→List AV→List (List AV)
  | 0,_=>[]
  | m + 1,xs=>xs.take n::pg n m (xs.drop n)
def eA:List (List AV)→(List (List AV)→Prop)→Prop
  | [],k=>k []
  | x::xs,k=>gK x fun y=>eA xs fun ys=>k (y::ys)
def iS (P:Program) (pl:bi) (dst:Option Tmp) (t:TypeId) (len:Nat) (parts:List (Nat×AV)) (S:St) (K:St→Prop):Prop :=
  match len with
  | 0=>match P.underlying t with
    | some (.slice e)=>match P.info? e with
      | some _=>bf (parts.isEmpty) (bc dst .esl S K)
      | none=>af 35
    | _=>af 36
  | len + 1 =>
    match P.underlying t with
    | some (.slice e)=>match P.info? e with
      | some i=>b_ P e fun z=>bf (Nat.blt 0 i.size&&Nat.ble ((len + 1) * i.size) 16777216) (lQ (fun n=>some (n * i.size,i.size)) (List.replicate (len + 1) z).flatten parts fun cs =>
          match dQ pl.ms (dst.getD 0)||!(cs.all (cM 4)) with
          | false=>eA (pg i.size (len + 1) cs) fun rows=>bc dst (.sl rows) S K
          | true=>bf (cs.all (ru 4)) (eA (pg i.size (len + 1) cs) fun rows=>aQ (S.o++[.arr (cs.all (cM 4)) i.size rows]) fun o=>bc dst (.mf S.o.length) { t:=S.t,l:=S.l,o:=o,b:=S.b } K))
      | none=>af 37
    | _=>af 38
def mi (P:Program) (pl:bi) (dst:Option Tmp) (t:TypeId) (len:Nat) (parts:List (Nat×AV)) (k:AV→Prop):Prop :=
  match len with
  | 0=>match P.underlying t with
    | some (.slice e)=>match P.info? e with
      | some _=>bf (parts.isEmpty) (k .esl)
      | none=>af 213
    | _=>af 214
  | len + 1 =>
    match P.underlying t with
    | some (.slice e)=>match P.info? e with
      | some i=>b_ P e fun z=>bf (Nat.blt 0 i.size&&Nat.ble ((len + 1) * i.size) 16777216) (lQ (fun n=>some (n * i.size,i.size)) (List.replicate (len + 1) z).flatten parts fun cs =>
          bf (!(dQ pl.ms (dst.getD 0))&&cs.all (cM 4)) (eA (pg i.size (len + 1) cs) fun rows=>k (.sl rows)))
      | none=>af 215
    | _=>af 216
def BL (P:Program) (t:TypeId) (S:St) (x:AV) (k:AV→Prop):Prop :=
  match P.underlying t with
  | some (.slice _)=>match x with
    | .nilsl | .esl=>k (.v (.int .i64 0))
    | .sl rows=>k (.v (.int .i64 rows.length))
    | .mf id=>match S.o[id]? with | some (.arr _ _ rows)=>k (.v (.int .i64 rows.length)) | some (.own none _ cells _)=>k (.v (.int .i64 cells.length)) | _=>af 39
    | .msl _ _ len _=>k (.v (.int .i64 len))
    | .bsl _ _ len=>k (.v (.int .i64 len))
    | _=>af 40
  | some .string=>match x with
    | .v (.string s)=>k (.v (.int .i64 s.size))
    | _=>af 41
  | some (.array n _)=>k (.v (.int .i64 n))
  | some (.map _ _)=>match x with
    | .nilmap=>k (.v (.int .i64 0))
    | .mp id=>match S.o[id]? with | some (.mapo _ es)=>k (.v (.int .i64 es.length)) | _=>af 42
    | _=>af 43
  | _=>af 44
def iT (size:Nat) (S:St) (x:AV) (k:Bool→List (List AV)→Prop):Prop :=
  match x with
  | .nilsl | .esl=>k true []
  | .sl rows=>bf (mg size rows) (k true rows)
  | .mf id=>match S.o[id]? with | some (.arr fl sz rows)=>bf (Nat.beq sz size) (k fl rows) | _=>af 45
  | .msl id off len _=>match S.o[id]? with | some (.arr fl sz rows)=>bf (Nat.beq sz size) (k fl ((rows.drop off).take len)) | _=>af 46
  | .v (.string s)=>bf (Nat.beq size 1) (k true (s.data.toList.map fun b=>[.v (.int .u8 b.toNat)]))
  | .bsl (.O id) off len=>uv S (.O id) 0 fun row=>bf (Nat.beq size 1&&Nat.ble (off + len) row.length&&((row.drop off).take len).all (r5 2)) (k true (((row.drop off).take len).map fun c=>[c]))
  | _=>af 47
def r8 (S:St) (id:Nat):Bool:=Nat.blt id S.b
def nr (S:St) (id:Nat) (ob:Ob) (k:St→Nat→Prop):Prop :=
  kN (.O id) S.t fun t=>k_ (.O id) S.l fun l=>gL (.O id) S.o fun o =>
    match r8 S id with
    | false=>aQ (o.set id (dl (.O id) ob)) fun o'=>k { t:=t,l:=l,o:=o',b:=S.b } id
    | true=>aQ (o.set id .dead++[dl (.O id) ob]) fun o'=>k { t:=t,l:=l,o:=o',b:=S.b } o.length
def aA (src:List (List AV)):Bool:=src.all fun r=>r.all kr
def Dw (i:TypeInfo):Bool:=match i.zero with | some z=>Nat.beq z.cells.size i.size | none=>false
def j5 (P:Program) (ts:List TypeId) (base x:AV) (S:St) (k:St→AV→Prop):Prop :=
  match ts with
  | [t0,t1] =>
    match P.underlying t0 with
    | some (.slice e) =>
      match P.info? e with
      | some i=>bf (Nat.blt 0 i.size&&Nat.blt 0 i.bytes&&Dw i&&(match P.underlying t1 with | some (.slice _) | some .string=>true | _=>false)) (iT i.size S x fun fl src=>bf (aA src) (
          match base with
          | .nilsl | .esl=>bf (Nat.ble (src.length * i.bytes) 140737488355328) (aQ (S.o++[.arr fl i.size src]) fun o=>k { t:=S.t,l:=S.l,o:=o,b:=S.b } (.mf S.o.length))
          | .mf id=>match S.o[id]? with
            | some (.arr fl' sz rows)=>bf (Nat.beq sz i.size&&Nat.ble ((rows.length + src.length) * i.bytes) 140737488355328&&(fl||!fl')) (nr S id (.arr (fl'&&fl) sz (rows++src)) fun S' id'=>k S' (.mf id'))
            | _=>af 48
          | .msl id off len ext=>match S.o[id]? with
            | some (.arr fl' sz rows)=>bf (Nat.beq sz i.size&&(fl||!fl')) (
              match Nat.ble src.length ext with
              | true=>bf (Nat.ble (off + len + ext) rows.length) (aQ (S.o.set id (.arr (fl'&&fl) sz (rows.take (off + len)++(src++rows.drop (off + len + src.length))))) fun o=>k { t:=S.t,l:=S.l,o:=o,b:=S.b } (.msl id off (len + src.length) (ext - src.length)))
              | false=>bf (Nat.ble ((len + src.length) * i.bytes) 140737488355328) (nr S id (.arr (fl'&&fl) sz ((rows.drop off).take len++src)) fun S' id'=>k S' (.mf id')))
            | _=>af 49
          | _=>af 50))
      | none=>af 51
    | _=>af 52
  | _=>af 53
def Fl:St:={ t:=[],l:=[],o:=[],b:=0 }
def jI (P:Program) (ts:List TypeId) (base x:AV) (k:AV→Prop):Prop :=
  match ts with
  | [t0,t1] =>
    match P.underlying t0 with
    | some (.slice e) =>
      match P.info? e with
      | some i=>bf (Nat.blt 0 i.size&&Nat.blt 0 i.bytes&&Dw i&&(match P.underlying t1 with | some (.slice _) | some .string=>true | _=>false)) (iT i.size Fl x fun fl src=>bf (fl&&aA src&&Nat.ble (src.length * i.bytes) 140737488355328) (
          match base with
          | .nilsl | .esl=>k (.sl src)
          | _=>af 254))
      | none=>af 255
    | _=>af 256
  | _=>af 257
def jJ (P:Program) (ts:List TypeId) (base:AV) (n:Int) (S:St) (k:St→AV→Prop):Prop :=
  match ts with
  | [t0,t1] =>
    match P.underlying t0,P.underlying t1 with
    | some (.slice e),some (.int _) =>
      match P.info? e with
      | some i=>bf (Nat.blt 0 i.size&&Nat.blt 0 i.bytes&&decide (0<n)&&decide (n * i.bytes≤140737488355328)&&decide (n≤140737488355328)) (b_ P e fun z=>bf (z.all (cM 2)) (
          match base with
          | .nilsl | .esl=>aQ (S.o++[.arr true i.size (List.replicate n.toNat z)]) fun o=>k { t:=S.t,l:=S.l,o:=o,b:=S.b } (.mf S.o.length)
          | _=>af 250))
      | none=>af 251
    | _,_=>af 252
  | _=>af 253
def BM (P:Program) (ts:List TypeId) (x:AV) (k:AV→Prop):Prop :=
  match ts with
  | t::_ =>
    match P.underlying t with
    | some (.slice _)=>match x with
      | .nilsl | .esl=>k (.v (.int .i64 0))
      | _=>af 240
    | _=>af 241
  | []=>af 242
def EP:AV→Bool
  | .v _=>true
  | _=>false
def qP (P:Program) (ts:List TypeId) (x y:AV) (M:St) (k:AV→St→Prop):Prop :=
  match ts with
  | t::_ =>
    match P.underlying t with
    | some (.slice e) =>
      match P.info? e with
      | some i=>bf (Nat.blt 0 i.size) (iT i.size M y fun fl src=>bf (aA src&&!(EP y)) (
          match x with
          | .mf id=>match M.o[id]? with
            | some (.arr fl' sz rows)=>bf (Nat.beq sz i.size) (aQ (M.o.set id (.arr (fl'&&fl) sz (src.take rows.length++rows.drop src.length))) fun o=>k (.v (.int .i64 ((min src.length rows.length:Nat):Int))) { t:=M.t,l:=M.l,o:=o,b:=M.b })
            | _=>af 243
          | .msl id off len _=>match M.o[id]? with
            | some (.arr fl' sz rows)=>bf (Nat.beq sz i.size&&Nat.ble (off + len) rows.length) (aQ (M.o.set id (.arr (fl'&&fl) sz (rows.take off++(src.take len++rows.drop (off + min src.length len))))) fun o=>k (.v (.int .i64 ((min src.length len:Nat):Int))) { t:=M.t,l:=M.l,o:=o,b:=M.b })
            | _=>af 244
          | _=>af 245))
      | none=>af 246
    | _=>af 247
  | []=>af 248
def qd (P:Program) (ts:List TypeId) (x:AV) (S:St) (K:St→Prop):Prop :=
  match ts with
  | t::_ =>
    match P.underlying t with
    | some (.slice e) =>
      match P.info? e with
      | some i=>bf (Nat.blt 0 i.size) (
          match x with
          | .nilsl | .esl=>K S
          | .msl id off len _=>match S.o[id]? with
            | some (.arr fl sz rows)=>bf (Nat.beq sz i.size&&Nat.ble (off + len) rows.length) (b_ P e fun z=>bf (z.all (cM 2)&&z.all kr) (aQ (S.o.set id (.arr (fl&&true) sz (rows.take off++(List.replicate len z++rows.drop (off + len))))) fun o=>K { t:=S.t,l:=S.l,o:=o,b:=S.b }))
            | _=>af 267
          | _=>af 268)
      | none=>af 269
    | _=>af 270
  | []=>af 271
def intOf (a:AV) (k:Int→Prop):Prop :=
  match a with
  | .v (.int _ n)=>k n
  | _=>af 60
def bE (P:Program) (t:TypeId) (l c:AV) (S:St) (k:St→AV→Prop):Prop :=
  match P.underlying t with
  | some (.slice e) =>
    match P.info? e with
    | some i=>intOf l fun l=>intOf c fun c=>bf (decide (0≤l)&&decide (l≤c)&&decide (i.bytes * c≤140737488355328)&&decide (c≤140737488355328)&&Nat.blt 0 i.size)
        (b_ P e fun z=>bf (z.all (cM 2)) (aQ (S.o++[.arr true i.size (List.replicate l.toNat z)]) fun o=>k { t:=S.t,l:=S.l,o:=o,b:=S.b } (.mf S.o.length)))
    | none=>af 61
  | _=>af 62
def qe (len cap:Nat) (lo hi mx:Option Int) (k:Nat→Nat→Nat→Prop):Prop :=
  match lo,hi,mx with
  | none,none,none=>k 0 len cap
  | some l,none,none=>bf (decide (0≤l)&&decide (l≤len)) (k l.toNat len cap)
  | none,some h,none=>bf (decide (0≤h)&&decide (h≤cap)) (k 0 h.toNat cap)
  | some l,some h,none=>bf (decide (0≤l)&&decide (l≤h)&&decide (h≤cap)) (k l.toNat h.toNat cap)
  | none,some h,some m=>bf (decide (0≤h)&&decide (h≤m)&&decide (m≤cap)) (k 0 h.toNat m.toNat)
  | some l,some h,some m=>bf (decide (0≤l)&&decide (l≤h)&&decide (h≤m)&&decide (m≤cap)) (k l.toNat h.toNat m.toNat)
  | _,_,_=>af 63
def ig:Option Int→Bool
  | some (.ofNat 0)=>true
  | _=>false
def iz (P:Program) (t:TypeId) (x:AV) (lo hi mx:Option Int) (S:St) (k:AV→Prop):Prop :=
  match P.underlying t with
  | some .string =>
    match x,mx with
    | .v (.string s),none=>qe s.size s.size lo hi none fun l h _=>k (.v (.string (s.extract l h)))
    | _,_=>af 64
  | some (.slice e) =>
    match P.info? e with
    | some i=>bf (Nat.blt 0 i.size) (
      match x with
      | .nilsl=>qe 0 0 lo hi mx fun _ _ _=>k .nilsl
      | .esl=>qe 0 0 lo hi mx fun _ _ _=>k .esl
      | .sl rows=>bf (mg i.size rows) (qe rows.length rows.length lo hi mx fun l h _ =>
        match lo,hi,ig hi&&ig mx with
        | _,_,true=>k .esl
        | none,none,_=>k (.sl rows)
        | _,none,_=>k (.sl (rows.drop l))
        | none,_,_=>k (.sl (rows.take h))
        | _,_,_=>k (.sl ((rows.drop l).take (h - l))))
      | .mf id=>match S.o[id]? with
        | some (.arr _ sz rows)=>bf (Nat.beq sz i.size) (qe rows.length rows.length lo hi mx fun l h m =>
          match lo,hi,ig hi&&ig mx with
          | _,_,true=>k .esl
          | none,none,_=>k (.mf id)
          | _,none,_=>k (.msl id l (rows.length - l) 0)
          | _,_,_=>k (.msl id l (h - l) (m - h)))
        | _=>af 65
      | .msl id off len ext=>match S.o[id]? with
        | some (.arr _ sz _)=>bf (Nat.beq sz i.size) (qe len (len + ext) lo hi mx fun l h m =>
          match ig hi&&ig mx with
          | true=>k .esl
          | false=>k (.msl id (l + off) (h - l) (m - h)))
        | _=>af 66
      | _=>af 67)
    | none=>af 68
  | some (.array n e) =>
    match P.info? e,x with
    | some i,.ptr key 0 j=>bf (Nat.beq i.size 1) (qe n n lo hi mx fun l h m=>bf (Nat.blt l m) (k (.bsl key (j + l) (h - l))))
    | _,_=>af 263
  | _=>af 69
def gf (P:Program) (t:TypeId) (x ix:AV) (S:St) (k:AV→Prop):Prop :=
  intOf ix fun i =>
  match P.underlying t with
  | some (.slice e) =>
    match P.info? e with
    | some inf =>
      match x with
      | .sl rows=>match (if 0≤i then rows[i.toNat]? else none) with
        | some row=>bf (Nat.beq row.length inf.size&&Nat.blt 0 inf.size) (k (.fptr row 0))
        | none=>af 70
      | .mf id=>match S.o[id]? with
        | some (.arr _ _ rows)=>match (if 0≤i then rows[i.toNat]? else none) with
          | some row=>bf (Nat.beq row.length inf.size&&Nat.blt 0 inf.size) (k (.ptr (.O id) i.toNat 0))
          | none=>af 71
        | some (.own none _ cells _)=>bf (decide (0≤i)&&Nat.blt i.toNat cells.length&&Nat.beq inf.size 1) (k (.ptr (.O id) i.toNat 0))
        | _=>af 72
      | .msl id off len _=>match S.o[id]? with
        | some (.arr _ _ rows)=>bf (decide (0≤i)&&decide (i<len)) (match rows[i.toNat + off]? with
          | some row=>bf (Nat.beq row.length inf.size&&Nat.blt 0 inf.size) (k (.ptr (.O id) (i.toNat + off) 0))
          | none=>af 73)
        | _=>af 74
      | .bsl key off len=>bf (decide (0≤i)&&decide (i<len)&&Nat.beq inf.size 1) (k (.ptr key 0 (off + i.toNat)))
      | _=>af 75
    | none=>af 76
  | some (.array len e) =>
    match P.info? e with
    | some inf=>bf (decide (0≤i)&&decide (i<len)) (
      match x with
      | .ptr key a j=>k (.ptr key a (i.toNat * inf.size + j))
      | .fptr row j=>k (.fptr row (i.toNat * inf.size + j))
      | _=>af 77)
    | none=>af 78
  | _=>af 79
def nQ (P:Program) (t:TypeId) (x ix:AV) (k:AV→Prop):Prop :=
  intOf ix fun i =>
  match P.underlying t,x with
  | some (.array len e),.agg cs=>match P.info? e with
    | some inf=>bf (decide (0≤i)&&decide (i<len)) (gM P e cs (i.toNat * inf.size) k)
    | none=>af 80
  | some .string,.v (.string s)=>match (if 0≤i then s[i.toNat]? else none) with
    | some b=>k (.v (.int .u8 b.toNat))
    | none=>af 81
  | _,_=>af 82
def jK (P:Program) (t:TypeId) (x:AV) (f:Nat) (k:AV→Prop):Prop :=
  match P.underlying t with
  | some (.struct fs)=>match fs[f]? with
    | some fl=>match P.info? fl.type with
      | some inf=>bf (Nat.blt 0 inf.size) (match x with
        | .ptr key i j=>k (.ptr key i (j + fl.offset))
        | .fptr row j=>k (.fptr row (j + fl.offset))
        | _=>af 83)
      | none=>af 84
    | none=>af 85
  | _=>af 86
def r9 (P:Program) (t:TypeId) (x:AV) (f:Nat) (k:AV→Prop):Prop :=
  match P.underlying t,x with
  | some (.struct fs),.agg cs=>match fs[f]? with
    | some fl=>gM P fl.type cs fl.offset k
    | none=>af 87
  | _,_=>af 88
def bytesOf:List (List AV)→Option (List UInt8)
  | []=>some []
  | [.v (.int .u8 n)]::rs=>match bytesOf rs with | some bs=>some (UInt8.ofNat n.toNat::bs) | none=>none
  | _=>none
def mj (P:Program) (src dst:TypeId) (x:AV) (k:AV→Prop):Prop :=
  match P.underlying src,P.underlying dst with
  | some _,some (.int kd)=>match x with | .v (.int _ n)=>k (.v (.int kd (kd.wrap n))) | _=>af 89
  | some .string,some .string=>match x with | .v (.string s)=>k (.v (.string s)) | _=>af 90
  | _,_=>af 92
def eB (P:Program) (src dst:TypeId) (x:AV) (S:St) (k:AV→Prop):Prop :=
  match P.underlying src,P.underlying dst with
  | some (.slice e),some .string =>
    match P.underlying e with
    | some (.int .u8)=>bf (!(EP x)) (iT 1 S x fun _ rows=>match bytesOf rows with | some bs=>k (.v (.string ⟨bs.toArray⟩)) | none=>af 261)
    | _=>af 262
  | _,_=>mj P src dst x k
def sc (S:St) (x:AV):Bool :=
  match x with
  | .mf id=>match S.o[id]? with
    | some (.arr _ _ (_::_))=>true
    | _=>false
  | .msl _ _ len ext=>Nat.blt 0 (len + ext)
  | _=>false
def sk (P:Program) (op:BinOp) (t:TypeId) (x y:AV) (S:St) (k:AV→Prop):Prop :=
  match sc S x,y with
  | true,.nilsl=>match P.underlying t,op with
    | some (.slice _),.eql=>k (.v (.bool false))
    | some (.slice _),.neq=>k (.v (.bool true))
    | _,_=>af 265
  | _,_=>yY P op t x y k
def iU {α β:Type} (f:α→Option β):List α→Option (List β)
  | []=>some []
  | x::xs=>match f x,iU f xs with
    | some y,some ys=>some (y::ys)
    | _,_=>none
def qf (f:AV→Option AV) (fl:Bool) (rows:List (List AV)):Option (List (List AV)) :=
  match fl with
  | true=>some rows
  | false=>iU (iU f) rows
def Dx (f:AV→Option AV) (fl:Bool) (row:List AV):Option (List AV) :=
  match fl with
  | true=>some row
  | false=>iU f row
def yV (o:List Ob):Nat→AV→Option AV
  | 0,_=>none
  | n + 1,a =>
    match a with
    | .v x=>some (.v x)
    | .nilp=>some .nilp
    | .fptr r j=>some (.fptr r j)
    | .nilsl=>some .nilsl
    | .esl=>some (.sl [])
    | .sl r=>some (.sl r)
    | .nilmap=>some .nilmap
    | .nilfn=>some .nilfn
    | .mf id=>match o[id]? with
      | some (.arr fl _ rows)=>match qf (yV o n) fl rows with | some r=>some (.sl r) | none=>none
      | _=>none
    | .msl id off len _=>match o[id]? with
      | some (.arr fl _ rows)=>match qf (yV o n) fl ((rows.drop off).take len) with | some r=>some (.sl r) | none=>none
      | _=>none
    | .ptr (.O id) i j=>match o[id]? with
      | some (.arr fl _ rows)=>match rows[i]? with
        | some row=>match Dx (yV o n) fl row with | some r=>some (.fptr r j) | none=>none
        | none=>none
      | _=>none
    | .fn f x y=>match iU (yV o n) x,iU (yV o n) y with | some x',some y'=>some (.fn f x' y') | _,_=>none
    | .agg cs=>match iU (yV o n) cs with | some r=>some (.agg r) | none=>none
    | .tup cs=>match iU (yV o n) cs with | some r=>some (.tup r) | none=>none
    | _=>none
def cN (o:List Ob):Nat→AV→List Nat
  | 0,_=>[]
  | n + 1,a =>
    match a with
    | .mf id=>id::(match o[id]? with | some (.arr false _ rows)=>rows.flatten.flatMap (cN o n) | _=>[])
    | .msl id off len _=>id::(match o[id]? with | some (.arr false _ rows)=>((rows.drop off).take len).flatten.flatMap (cN o n) | _=>[])
    | .ptr (.O id) i _=>id::(match o[id]? with | some (.arr false _ rows)=>(match rows[i]? with | some row=>row.flatMap (cN o n) | none=>[]) | _=>[])
    | .fn _ x y=>x.flatMap (cN o n)++y.flatMap (cN o n)
    | .agg cs | .tup cs=>cs.flatMap (cN o n)
    | _=>[]
def wh (o:List Ob) (a:AV) (k:AV→Prop):Prop :=
  match yV o 6 a with
  | some b=>jH b k
  | none=>af 96
def ij (o:List Ob):List AV→(List AV→Prop)→Prop
  | [],k=>k []
  | a::as,k=>wh o a fun b=>ij o as fun bs=>k (b::bs)
def fh:List Nat→St→(St→Prop)→Prop
  | [],S,K=>K S
  | id::ids,S,K=>kN (.O id) S.t fun t=>k_ (.O id) S.l fun l=>gL (.O id) S.o fun o=>aQ (o.set id .dead) fun o'=>fh ids { t:=t,l:=l,o:=o',b:=S.b } K
def bz:List Ob→List Ob→Nat→List Nat
  | .dead::xs,_::ys,n=>bz xs ys (n + 1)
  | _::xs,.dead::ys,n=>n::bz xs ys (n + 1)
  | _::xs,_::ys,n=>bz xs ys (n + 1)
  | _,_,_=>[]
def i6:List Nat→List AV→List (Nat×List AV)→(List AV→List (Nat×List AV)→Prop)→Prop
  | [],t,l,K=>K t l
  | id::ids,t,l,K=>kN (.O id) t fun t'=>k_ (.O id) l fun l'=>i6 ids t' l' K
def vd (C:Ctx) (f:AV) (args:List AV) (S:St) (k:St→AV→Prop):Prop :=
  match f with
  | .fn fid first cap =>
    match C.pure fid with
    | true=>ij S.o (first++args++cap) fun as=>C.pcall fid as fun r =>
        match r5 4 r with
        | true=>k S r
        | false=>fh ((first++args++cap).flatMap (cN S.o 6)) S fun S'=>k S' r
    | false=>bf ((first++args++cap).all (ru 4)) (C.scall fid (first++args++cap) S.o fun r o'=>i6 (bz S.o o' 0) S.t S.l fun t l=>k { t:=t,l:=l,o:=o',b:=S.b } r)
  | _=>af 97
def yW:AV→Option Value
  | .v x=>some x
  | .agg cs=>match rv cs with | some xs=>some (.agg xs.toArray) | none=>none
  | _=>none
def keysOf:List (AV×AV)→Option (List MapEntry)
  | []=>some []
  | (k,_)::es=>match yW k,keysOf es with
    | some x,some xs=>some ({ key:=x,val:=.bool false,born:=0 }::xs)
    | _,_=>none
def j6 (P:Program) (kt:TypeId) (key:AV) (es:List (AV×AV)) (k:Value→Option Nat→Prop):Prop :=
  match yW key,keysOf es with
  | some x,some xs =>
    match aC P (Instr.checkKey xs.isEmpty 10000 kt x),aC P (Instr.findKey kt x xs) with
    | some _,some r=>k x (r.map (·.1))
    | _,_=>af 98
  | _,_=>af 99
def ml (ok:Bool) (x:AV) (b:Bool) (k:AV→Prop):Prop :=
  match ok with
  | true=>k (.tup [x,.v (.bool b)])
  | false=>k x
def i7 (P:Program) (e:TypeId) (ok:Bool) (k:AV→Prop):Prop :=
  match P.info? e with
  | some i=>match i.zero with
    | some z=>jH (AO z) fun z=>ml ok z false k
    | none=>af 230
  | none=>af 231
def m5 (P:Program) (e:TypeId) (ok:Bool) (es:List (AV×AV)) (r:Option Nat) (k:AV→Prop):Prop :=
  match r with
  | some i=>match es[i]? with
    | some en=>ml ok en.2 true k
    | none=>af 232
  | none=>i7 P e ok k
def m6 (P:Program) (t:TypeId) (m key:AV) (ok:Bool) (S:St) (k:AV→Prop):Prop :=
  match P.underlying t with
  | some (.map kt e) =>
    match m with
    | .nilmap=>j6 P kt key [] fun _ _=>i7 P e ok k
    | .mp id=>match S.o[id]? with
      | some (.mapo _ es)=>j6 P kt key es fun _ r=>m5 P e ok es r k
      | _=>af 233
    | _=>af 234
  | _=>af 235
def AP (P:Program) (kt:TypeId) (x:Value):Bool:=match aC P (Instr.checkKey false 10000 kt x) with | some _=>true | none=>false
def dV (P:Program) (t:TypeId) (m key x:AV) (S:St) (K:St→Prop):Prop :=
  match P.underlying t with
  | some (.map kt _) =>
    match m with
    | .mp id=>match S.o[id]? with
      | some (.mapo fl es)=>bf (ru 4 x) (j6 P kt key es fun kv r=>bf (AP P kt kv) (
          match r with
          | some i=>bf (Instr.sameBits 10000 ((es[i]?.bind fun e=>yW e.1).getD (.bool false)) kv) (aQ (S.o.set id (.mapo (fl&&cM 4 x) (es.set i (key,x)))) fun o=>K { t:=S.t,l:=S.l,o:=o,b:=S.b })
          | none=>aQ (S.o.set id (.mapo (fl&&cM 4 x) (es++[(key,x)]))) fun o=>K { t:=S.t,l:=S.l,o:=o,b:=S.b }))
      | _=>af 106
    | _=>af 107
  | _=>af 108
def pop (C:Ctx) (pl:bi) (o:Oper) (vs:List AV) (k:AV→Prop):Prop :=
  match o.op,vs with
  | .move _,[a]=>k a
  | .assign _,[a]=>k a
  | .pick _ _ _,[.v (.bool c),a,b]=>xv c (k a) (k b)
  | .build t parts,vs=>bf (Nat.beq parts.size vs.length) (r7 C.P t ((parts.toList.map (·.1)).zip vs) k)
  | .buildSlice t len parts,vs=>bf (Nat.beq parts.size vs.length) (mi C.P pl o.dst t len ((parts.toList.map (·.1)).zip vs) k)
  | .nilCheck _,[.ptr x i j]=>k (.ptr x i j)
  | .nilCheck _,[.fptr r j]=>k (.fptr r j)
  | .nilCheck _,[.fn f x y]=>k (.fn f x y)
  | .binOp op t _ _ _,[a,b]=>yY C.P op t a b k
  | .unOp op _ _,[a]=>EX op a k
  | .makeFunc f first cap,vs=>match f with
    | .func fid=>bf (Nat.beq (first.size + cap.size) vs.length) (gK (vs.take first.size) fun xs=>gK (vs.drop first.size) fun ys=>k (.fn fid xs ys))
    | _=>af 201
  | .fieldAddr t _ f,[a]=>jK C.P t a f k
  | .field t _ f,[a]=>r9 C.P t a f k
  | .index t _ _,[a,i]=>nQ C.P t a i k
  | .extract _ ix,[.tup xs]=>nP xs ix k
  | .call c,vs=>match c.callee,vs with
    | .builtin .min,[.v (.int a m),.v (.int b n)]=>bf (decide (a=b)) (k (.v (.int a (if n<m then n else m))))
    | .builtin .max,[.v (.int a m),.v (.int b n)]=>bf (decide (a=b)) (k (.v (.int a (if n>m then n else m))))
    | .builtin .cap,[x]=>BM C.P c.argTypes.toList x k
    | _,_=>af 204
  | _,_=>af 207
def nn (C:Ctx) (o:Oper) (vs:List AV) (M:St) (k:AV→Prop):Prop :=
  match o.op,vs with
  | .load t _,[p]=>BF M p fun row j=>gM C.P t row j k
  | .convert src dst _,[a]=>eB C.P src dst a M k
  | .slice t _ lo hi mx,a::rest =>
    match lo,hi,mx,rest with
    | none,none,none,[]=>iz C.P t a none none none M k
    | some _,none,none,[x]=>intOf x fun x=>iz C.P t a (some x) none none M k
    | none,some _,none,[y]=>intOf y fun y=>iz C.P t a none (some y) none M k
    | some _,some _,none,[x,y]=>intOf x fun x=>intOf y fun y=>iz C.P t a (some x) (some y) none M k
    | none,some _,some _,[y,z]=>intOf y fun y=>intOf z fun z=>iz C.P t a none (some y) (some z) M k
    | some _,some _,some _,[x,y,z]=>intOf x fun x=>intOf y fun y=>intOf z fun z=>iz C.P t a (some x) (some y) (some z) M k
    | _,_,_,_=>af 202
  | .binOp op t _ _ _,[a,b]=>sk C.P op t a b M k
  | .indexAddr t _ _,[a,i]=>gf C.P t a i M k
  | .lookup t _ _ ok,[m,key]=>m6 C.P t m key ok M k
  | .call c,vs=>match c.callee with
    | .builtin b=>match b,vs with
      | .len,[x]=>match c.argTypes.toList with | t::_=>BL C.P t M x k | []=>af 203
      | _,_=>af 204
    | .value _=>match vs with
      | .fn fid first cap::as=>bf (C.pure fid) (ij M.o (first++as++cap) fun bs=>C.pcall fid bs fun r=>bf (r5 4 r||((first++as++cap).flatMap (cN M.o 6)).isEmpty) (k r))
      | _=>af 205
    | .invoke _ _=>af 206
  | _,_=>af 207
def D4 (C:Ctx) (o:Oper) (vs:List AV) (k:AV→Prop):Prop :=
  match o.op,vs with
  | .call c,[x,y]=>match c.callee with
    | .builtin .append=>jI C.P c.argTypes.toList x y k
    | _=>af 258
  | _,_=>af 259
def ve (C:Ctx) (o:Oper) (vs:List AV) (M:St) (k:AV→St→Prop):Prop :=
  match o.op,vs with
  | .store t _ _,[p,y]=>lb y fun cs=>match C.P.info? t with
    | some i=>bf (Nat.beq cs.length i.size) (ku M p cs fun M'=>k .bad M')
    | none=>af 208
  | _,_=>af 209
def cn (S:St):St:={ t:=[],l:=S.l,o:=S.o,b:=S.b }
def ev (S M:St):St:={ t:=S.t,l:=M.l,o:=M.o,b:=M.b }
def addrOf (o:Oper):Option Nat :=
  match o.op with
  | .load _ (.tmp t)=>some t
  | .store _ (.tmp t) _=>some t
  | _=>none
def eQ (pl:bi) (o:Oper):Bool :=
  match o.op with
  | .load _ (.tmp t)=>dQ pl.ow t
  | .store _ (.tmp t) _=>dQ pl.ow t
  | .makeSlice _ _ _=>dQ pl.ow (o.dst.getD 0)
  | .makeMap _ _=>dQ pl.ow (o.dst.getD 0)
  | .lookup _ _ _ _=>dQ pl.ow (o.dst.getD 0)
  | .mapUpdate _ (.tmp t) _ _=>dQ pl.ow t
  | .insert _ (.tmp t) _ _=>dQ pl.ow t
  | _=>false
def Af (pl:bi) (o:Oper):Bool :=
  match addrOf o with
  | some t=>dQ pl.oh t
  | none=>false
def gN (S:St) (id:Nat) (K:St→Prop):Prop :=
  match S.o[id]? with
  | some (.own ks sz cells (some (j,.nilsl)))=>bf (Nat.blt j cells.length) (aQ (S.o.set id (.own ks sz (cells.set j none) none)) fun o=>K { t:=S.t,l:=S.l,o:=o,b:=S.b })
  | some (.own ks sz cells (some (j,.mf k)))=>match S.o[k]? with
    | some (.arr true sz' rows)=>bf (Nat.beq sz' sz&&Nat.blt j cells.length) (fh [k] S fun S1=>aQ (S1.o.set id (.own ks sz (cells.set j (some rows)) none)) fun o=>K { t:=S1.t,l:=S1.l,o:=o,b:=S1.b })
    | _=>af 320
  | some (.own _ _ _ (some _))=>af 321
  | _=>K S
def lf:List Nat→St→(St→Prop)→Prop
  | [],S,K=>K S
  | id::ids,S,K=>gN S id fun S'=>lf ids S' K
def kw:Option (List (List AV))→AV
  | none=>.nilsl
  | some rows=>.sl rows
def mm:List AV→List (Option (List (List AV)))→List (AV×AV)
  | k::ks,c::cs=>(k,kw c)::mm ks cs
  | _,_=>[]
def jj (S:St) (id:Nat) (K:St→Prop):Prop :=
  match S.o[id]? with
  | some (.own (some ks) _ cells none)=>aQ (S.o.set id (.mapo true (mm ks cells))) fun o=>K { t:=S.t,l:=S.l,o:=o,b:=S.b }
  | some (.own none _ cells none)=>aQ (S.o.set id (.arr true 1 (cells.map fun c=>[kw c]))) fun o=>K { t:=S.t,l:=S.l,o:=o,b:=S.b }
  | _=>K S
def jL:List Nat→St→(St→Prop)→Prop
  | [],S,K=>K S
  | id::ids,S,K=>jj S id fun S'=>jL ids S' K
def yZ:Nat→List Nat
  | 0=>[]
  | n + 1=>n::yZ n
def jc (pl:bi) (id:Nat) (S:St) (K:St→Prop):Prop :=
  match dQ pl.cl id with
  | false=>K S
  | true=>lf (yZ S.o.length) S fun S1=>match dQ pl.fr id with
    | false=>K S1
    | true=>jL (yZ S1.o.length) S1 K
def ew (M:St) (id i:Nat) (k:AV→St→Prop):Prop :=
  match M.o[id]? with
  | some (.own ks sz cells none)=>match cells[i]? with
    | some none=>k .nilsl M
    | some (some rows)=>aQ (M.o.set id (.own ks sz cells (some (i,.mf M.o.length)))++[.arr true sz rows]) fun o=>k (.mf M.o.length) { t:=M.t,l:=M.l,o:=o,b:=M.b }
    | none=>af 322
  | _=>af 323
def gO (P:Program) (t:TypeId) (same:Bool) (M:St) (id i:Nat) (k:AV→St→Prop):Prop :=
  match same with
  | true=>match M.o[id]? with
    | some (.own none _ cells (some (j,a)))=>bf (Nat.beq i j&&Nat.blt j cells.length) (gM P t [a] 0 fun r=>k r M)
    | _=>af 324
  | false=>ew M id i fun a M'=>gM P t [a] 0 fun r=>k r M'
def qg (v:AV):Bool:=match v with | .nilsl=>true | .mf _=>true | _=>false
def mn (hole:Option (Nat×AV)) (i:Nat):Bool :=
  match hole with
  | none=>true
  | some (j,_)=>Nat.beq i j
def fj (P:Program) (t:TypeId) (M:St) (id i:Nat) (v:AV) (K:St→Prop):Prop :=
  match P.info? t,M.o[id]? with
  | some inf,some (.own none sz cells hole)=>bf (qg v&&Nat.blt i cells.length&&Nat.beq inf.size 1&&mn hole i) (aQ (M.o.set id (.own none sz cells (some (i,v)))) fun o=>K { t:=M.t,l:=M.l,o:=o,b:=M.b })
  | _,_=>af 325
def Ag:List (Nat×Nat)→Option Nat→Nat→Nat
  | [],_,n=>n
  | (s,j)::ix,d,n=>match d with
    | some e=>match Nat.beq s e with | true=>j | false=>Ag ix d n
    | none=>n
def nR (j:Nat) (o:List Ob) (b:Nat) (ob:Ob) (k:List Ob→Prop):Prop :=
  match (o++List.replicate (j + 1 - o.length) Ob.dead)[j]? with
  | some .dead=>bf (Nat.ble b j) (aQ ((o++List.replicate (j + 1 - o.length) Ob.dead).set j ob) k)
  | _=>af 331
def fP (P:Program) (j:Nat) (t:TypeId) (l c:AV) (M:St) (k:AV→St→Prop):Prop :=
  match P.underlying t with
  | some (.slice e) =>
    match P.info? e,P.underlying e with
    | some i,some (.slice e2)=>match P.info? e2 with
      | some i2=>intOf l fun l=>intOf c fun c=>bf (decide (0≤l)&&decide (l≤c)&&decide (i.bytes * c≤140737488355328)&&decide (c≤140737488355328)&&Nat.blt 0 i.size&&Nat.beq i.size 1&&Nat.blt 0 i2.size)
          (b_ P e fun z=>match z with
            | [.nilsl]=>nR j M.o M.b (.own none i2.size (List.replicate l.toNat none) none) fun o=>k (.mf j) { t:=M.t,l:=M.l,o:=o,b:=M.b }
            | _=>af 325)
      | none=>af 326
    | _,_=>af 61
  | _=>af 62
def eR (P:Program) (t:TypeId) (M:St) (k:AV→St→Prop):Prop :=
  match P.underlying t with
  | some (.map _ e)=>match P.underlying e with
    | some (.slice e2)=>match P.info? e2 with
      | some i2=>bf (Nat.blt 0 i2.size) (aQ (M.o++[.own (some []) i2.size [] none]) fun o=>k (.mp M.o.length) { t:=M.t,l:=M.l,o:=o,b:=M.b })
      | none=>af 336
    | _=>af 337
  | _=>af 338
def j7:List AV→List (AV×AV)
  | []=>[]
  | k::ks=>(k,.bad)::j7 ks
def gP (P:Program) (t:TypeId) (m key:AV) (ok:Bool) (M:St) (k:AV→St→Prop):Prop :=
  match P.underlying t with
  | some (.map kt e)=>match m with
    | .mp id=>match M.o[id]? with
      | some (.own (some ks) _ _ none)=>j6 P kt key (j7 ks) fun _ r=>match r with
        | some i=>ew M id i fun a M'=>ml ok a true fun r=>k r M'
        | none=>i7 P e ok fun r=>k r M
      | _=>af 333
    | _=>af 334
  | _=>af 335
def iN (P:Program) (t:TypeId) (m key x:AV) (M:St) (K:St→Prop):Prop :=
  match P.underlying t with
  | some (.map kt _)=>match m with
    | .mp id=>match M.o[id]? with
      | some (.own (some ks) sz cells hole)=>bf (qg x) (j6 P kt key (j7 ks) fun kv r=>bf (AP P kt kv) (match r with
          | some i=>bf (Instr.sameBits 10000 ((ks[i]?.bind yW).getD (.bool false)) kv&&mn hole i) (aQ (M.o.set id (.own (some (ks.set i key)) sz cells (some (i,x)))) fun o=>K { t:=M.t,l:=M.l,o:=o,b:=M.b })
          | none=>match hole with
            | none=>aQ (M.o.set id (.own (some (ks++[key])) sz (cells++[none]) (some (cells.length,x)))) fun o=>K { t:=M.t,l:=M.l,o:=o,b:=M.b }
            | some _=>af 339))
      | _=>af 340
    | _=>af 341
  | _=>af 342
def iA (M:St) (p:AV) (k:Nat→Nat→Prop):Prop :=
  match p with
  | .ptr (.O id) i 0=>match M.o[id]? with
    | some (.own none _ _ _)=>k id i
    | _=>af 331
  | _=>af 332
def j3 (P:Program) (pl:bi) (o:Oper) (vs:List AV) (M:St) (k:AV→St→Prop):Prop :=
  match o.op,vs with
  | .load t _,[p]=>iA M p fun id i=>gO P t (Af pl o) M id i k
  | .store t _ _,[p,v]=>iA M p fun id i=>fj P t M id i v fun M'=>k .bad M'
  | .makeSlice t _ _,[l,c]=>fP P (Ag pl.ix o.dst M.o.length) t l c M k
  | .makeMap t none,[]=>eR P t M k
  | .lookup t _ _ ok,[m,key]=>gP P t m key ok M k
  | .mapUpdate t _ _ _,[m,key,x]=>iN P t m key x M fun M'=>k .bad M'
  | .insert t _ _ _,[m,key,x]=>iN P t m key x M fun M'=>k .bad M'
  | _,_=>af 330
def wi (C:Ctx) (pl:bi) (o:Oper) (S:St) (K:St→Prop):Prop :=
  cX S o.op.operands.toList fun vs=>j3 C.P pl o vs (cn S) fun r M=>bc o.dst r (ev S M) K
def BN (x:Operand):Bool :=
  match x with
  | .const (.slice none 0 0)=>true
  | _=>false
def BO (o:Oper):Nat :=
  match o.op with
  | .binOp _ _ _ y _=>match BN y with | true=>1 | false=>0
  | .move _ | .assign _ | .pick _ _ _ | .build _ _ | .nilCheck _ | .unOp _ _ _ | .makeFunc _ _ _ | .fieldAddr _ _ _ | .field _ _ _ | .index _ _ _ | .extract _ _=>0
  | .load _ _ | .convert _ _ _ | .slice _ _ _ _ _ | .indexAddr _ _ _ | .lookup _ _ _ _=>1
  | .store _ _ _=>2
  | .call c=>match c.callee with
    | .builtin .min | .builtin .max | .builtin .cap=>0
    | .builtin .len=>1
    | _=>3
  | _=>3
def vf (pl:bi) (o:Oper):Nat :=
  match o.op with
  | .buildSlice _ _ _=>match dQ pl.ms (o.dst.getD 0) with | true=>3 | false=>0
  | .alloc _=>4
  | .makeSlice _ _ _=>2
  | .call c=>match c.callee with
    | .value (.func f)=>match dQ pl.dc f with | true=>2 | false=>match dQ pl.st f with | true=>3 | false=>1
    | .value _=>1
    | .builtin .append=>match dQ pl.fz (o.dst.getD 0) with | true=>5 | false=>3
    | _=>BO o
  | _=>BO o
def eD (pl:bi) (o:Oper):Nat :=
  match eQ pl o with
  | true=>2
  | false=>vf pl o
def xy (pl:bi) (o:Oper):Bool :=
  match o.op with
  | .alloc _=>true
  | .box _ _=>!(dQ pl.esc (o.dst.getD 0))
  | _=>false
def AQ (C:Ctx) (pl:bi) (o:Oper) (S:St) (K:St→Prop):Prop :=
  cX S o.op.operands.toList fun vs=>pop C pl o vs fun r=>bc o.dst r S K
def AR (C:Ctx) (o:Oper) (S:St) (K:St→Prop):Prop :=
  cX S o.op.operands.toList fun vs=>nn C o vs (cn S) fun r=>bc o.dst r S K
def AS (C:Ctx) (o:Oper) (S:St) (K:St→Prop):Prop :=
  cX S o.op.operands.toList fun vs=>ve C o vs (cn S) fun r M=>bc o.dst r (ev S M) K
def AT (C:Ctx) (o:Oper) (S:St) (K:St→Prop):Prop :=
  cX S o.op.operands.toList fun vs=>D4 C o vs fun r=>bc o.dst r S K
def j8 (C:Ctx) (o:Oper) (vs:List AV) (M:St) (k:AV→St→Prop):Prop :=
  match o.op,vs with
  | .makeSlice t _ _,[l,c]=>bE C.P t l c M fun M' r=>k r M'
  | .call c,.fn fid first cap::as=>match c.callee with
    | .value _=>bf (!(C.pure fid)&&(first++as++cap).all (ru 4)) (C.scall fid (first++as++cap) M.o fun r o'=>bf (bz M.o o' 0).isEmpty (k r { t:=M.t,l:=M.l,o:=o',b:=M.b }))
    | _=>af 310
  | _,_=>ve C o vs M k
def lg (C:Ctx) (pl:bi) (o:Oper) (vs:List AV) (M:St) (k:AV→St→Prop):Prop :=
  match eQ pl o with
  | true=>j3 C.P pl o vs M k
  | false=>j8 C o vs M k
def nt (C:Ctx) (pl:bi) (o:Oper) (S:St) (K:St→Prop):Prop :=
  cX S o.op.operands.toList fun vs=>lg C pl o vs (cn S) fun r M=>bc o.dst r (ev S M) K
def uw (C:Ctx) (pl:bi) (o:Oper) (S:St) (K:St→Prop):Prop :=
  match o.op with
  | .alloc e=>b_ C.P e fun cs=>xx pl o.dst cs S K
  | .box _ x=>cj S x fun a=>lb a fun cs=>xx pl o.dst cs S K
  | .buildSlice t len parts=>cX S (parts.toList.map (·.2)) fun vs=>bf (Nat.beq parts.size vs.length) (iS C.P pl o.dst t len ((parts.toList.map (·.1)).zip vs) S K)
  | .makeMap _ r=>match r with
    | none=>aQ (S.o++[.mapo true []]) fun o'=>bc o.dst (.mp S.o.length) { t:=S.t,l:=S.l,o:=o',b:=S.b } K
    | some _=>af 209
  | .makeSlice t l c=>cj S l fun l=>cj S c fun c=>bE C.P t l c S fun S' a=>bc o.dst a S' K
  | .mapUpdate t m key x=>cj S m fun m=>cj S key fun key=>cj S x fun x=>dV C.P t m key x S fun S'=>bc o.dst .bad S' K
  | .insert t m key x=>cj S m fun m=>cj S key fun key=>cj S x fun x=>dV C.P t m key x S fun S'=>bc o.dst .bad S' K
  | .call c=>match c.callee with
    | .builtin b=>match b with
      | .append=>cX S c.args.toList fun as=>match as with
        | [x,.v (.int _ n)]=>jJ C.P c.argTypes.toList x n S fun S' r=>bc o.dst r S' K
        | [x,y]=>j5 C.P c.argTypes.toList x y S fun S' r=>bc o.dst r S' K
        | _=>af 210
      | .copy=>cX S c.args.toList fun as=>match as with
        | [x,y]=>qP C.P c.argTypes.toList x y S fun r S'=>bc o.dst r S' K
        | _=>af 211
      | .clear=>cX S c.args.toList fun as=>match as with
        | [x]=>qd C.P c.argTypes.toList x S fun S'=>bc o.dst (.tup []) S' K
        | _=>af 272
      | _=>af 212
    | .value f=>cj S f fun fv=>cX S c.args.toList fun as=>vd C fv as S fun S' r=>bc o.dst r S' K
    | .invoke _ _=>af 213
  | _=>af 214
def uu (C:Ctx) (pl:bi) (o:Oper) (S:St) (K:St→Prop):Prop :=
  match eD pl o with
  | 0=>AQ C pl o S K
  | 1=>AR C o S K
  | 2=>nt C pl o S K
  | 4=>match o.dst with
    | some d=>bc o.dst (.ptr (.L d) 0 0) S K
    | none=>af 217
  | 5=>AT C o S K
  | _=>match xy pl o with
    | true=>af 219
    | false=>uw C pl o S K
def wj (C:Ctx) (pl:bi) (o:Oper) (S:St) (K:St→Prop):Prop :=
  match BO o with
  | 0=>AQ C pl o S K
  | 1=>AR C o S K
  | 2=>AS C o S K
  | _=>uw C pl o S K
def BP (C:Ctx) (pl:bi) (o:Oper) (S:St) (K:St→Prop):Prop :=
  match eQ pl o with
  | true=>wi C pl o S K
  | false=>wj C pl o S K
def wl:List Oper→Nat→Option Nat
  | [],_=>none
  | o::os,t =>
    match o.dst,o.op with
    | some d,.fieldAddr _ (.tmp t') _=>match Nat.beq d t with | true=>some t' | false=>wl os t
    | some d,.indexAddr _ (.tmp t') _=>match Nat.beq d t with | true=>some t' | false=>wl os t
    | _,_=>wl os t
def BQ (all:List Oper):Nat→Nat→Nat
  | 0,t=>t
  | n + 1,t=>match wl all t with
    | some t'=>BQ all n t'
    | none=>t
def eE (pl:bi) (all:Array Oper) (o:Oper):Option Nat :=
  match addrOf o with
  | some t=>match dQ pl.bx (BQ all.toList 6 t) with
    | true=>some (BQ all.toList 6 t)
    | false=>none
  | none=>none
def mo (a:AV) (site:Option Nat):Bool :=
  match a,site with
  | .ptr (.L d) _ _,some r=>Nat.beq d r
  | .ptr (.O _) _ _,none=>true
  | .fptr _ _,none=>true
  | _,_=>false
def iB (pl:bi) (all:Array Oper) (o:Oper) (S:St):Bool :=
  match addrOf o with
  | some t=>match S.t[t]? with
    | some a=>mo a (eE pl all o)
    | none=>false
  | none=>true
def pi (all:Array Oper) (j:Nat):Option Nat:=(all[j]?).bind (·.dst)
def fk (d:Nat) (S:St) (k:Option Bool→St→Prop):Prop :=
  nP S.t d fun a =>
    match a with
    | .v (.bool b)=>xv b (qc S.t d (.v (.bool true)) fun t=>k (some true) { t:=t,l:=S.l,o:=S.o,b:=S.b }) (qc S.t d (.v (.bool false)) fun t=>k (some false) { t:=t,l:=S.l,o:=S.o,b:=S.b })
    | .tup []=>k none S
    | _=>af 4
def gsel (b:Option Bool) (want:Bool) (X Y:Prop):Prop :=
  match b,want with
  | some true,true=>X
  | some false,false=>X
  | _,_=>Y
def qh (C:Ctx) (pl:bi) (all:Array Oper):List Oper→St→(St→Prop)→Prop
  | [],S,K=>K S
  | o::rest,S,K =>
    match o.guard with
    | none=>BP C pl o S fun S'=>qh C pl all rest S' K
    | some (j,want) =>
      match pi all j with
      | none=>af 218
      | some d=>fk d S fun b S1=>gsel b want (BP C pl o S1 fun S'=>qh C pl all rest S' K) (bc o.dst (.tup []) S1 fun S'=>qh C pl all rest S' K)
def nS (C:Ctx) (pl:bi) (all:Array Oper) (o:Oper) (S:St) (K:St→Prop):Prop:=bf (iB pl all o S) (uu C pl o S K)
def ag (C:Ctx) (pl:bi) (all:Array Oper) (o:Oper) (S:St) (K:St→Prop):Prop :=
  match o.guard with
  | none=>nS C pl all o S K
  | some (j,want) =>
    match pi all j with
    | none=>af 218
    | some d=>fk d S fun b S1=>gsel b want (nS C pl all o S1 K) (bc o.dst (.tup []) S1 K)
def iC (pl:bi) (ops:Array Oper) (x y:Oper):Bool :=
  match eE pl ops x,eE pl ops y with
  | some a,some b=>!(Nat.beq a b)
  | some _,none=>true
  | none,some _=>true
  | none,none=>false
def sn (pl:bi) (ops:Array Oper) (x y:Oper):Bool :=
  Oper.apart ops x y&&(match eD pl x,eD pl y with
    | 2,0 | 0,2 | 0,0 | 0,1 | 1,0 | 1,1 | 4,0 | 4,1 | 4,2 | 4,4 | 0,4 | 1,4 | 2,4 | 5,0 | 5,1 | 5,2 | 5,4 | 5,5 | 0,5 | 1,5 | 2,5 | 4,5=>true
    | 1,2 | 2,1=>iC pl ops x y
    | _,_=>false)
def bA:List Oper→List Nat→List Nat
  | [],acc=>acc
  | o::os,acc=>bA os (acc++[o.after.toList.foldl (fun s e=>match Region.binds .any e with | true=>Nat.lor s (Nat.lor (Nat.pow 2 e.on) (acc.getD e.on 0)) | false=>s) 0])
def Ah (pl:bi) (ops:Array Oper) (ws:List Nat) (listed:Array Bool) (i:Nat):Bool :=
  match ops[i]? with
  | none=>false
  | some oi=>(List.range ops.size).all fun j =>
    Nat.beq j i||listed.getD j true ||
      (match ops[j]? with
       | none=>true
       | some oj=>Nat.testBit (ws.getD j 0) i||sn pl ops oi oj)
def y_ (n:Nat):Bool :=
  match n with
  | 0 | 1 | 2 | 4 | 5=>true
  | _=>false
def mq (pl:bi) (ops:Array Oper) (ws:List Nat) (listed:Array Bool):List Nat→Option Nat
  | []=>none
  | i::is=>match (match ops[i]? with | some o=>y_ (eD pl o) | none=>false)&&Ah pl ops ws listed i with
    | true=>some i
    | false=>mq pl ops ws listed is
def Fz:Value→Value→Bool
  | .bool a,.bool b=>a==b
  | .int k a,.int l b=>decide (k=l)&&(a==b)
  | .string a,.string b=>a.data.toList==b.data.toList
  | _,_=>false
def FA:Key→Key→Bool
  | .L a,.L b=>Nat.beq a b
  | .O a,.O b=>Nat.beq a b
  | _,_=>false
def xz {α:Type} (f:α→α→Bool):List α→List α→Bool
  | [],[]=>true
  | x::xs,y::ys=>f x y&&xz f xs ys
  | _,_=>false
def AU:Nat→AV→AV→Bool
  | 0,_,_=>false
  | n + 1,x,y =>
    match x,y with
    | .bad,.bad=>true
    | .v a,.v b=>Fz a b
    | .nilp,.nilp=>true
    | .ptr k i j,.ptr k' i' j'=>FA k k'&&Nat.beq i i'&&Nat.beq j j'
    | .fptr r j,.fptr r' j'=>xz (AU n) r r'&&Nat.beq j j'
    | .nilsl,.nilsl=>true
    | .esl,.esl=>true
    | .sl r,.sl r'=>xz (xz (AU n)) r r'
    | .mf i,.mf j=>Nat.beq i j
    | .msl a b c d,.msl a' b' c' d'=>Nat.beq a a'&&Nat.beq b b'&&Nat.beq c c'&&Nat.beq d d'
    | .nilmap,.nilmap=>true
    | .mp i,.mp j=>Nat.beq i j
    | .nilfn,.nilfn=>true
    | .fn f x y,.fn f' x' y'=>Nat.beq f f'&&xz (AU n) x x'&&xz (AU n) y y'
    | .agg c,.agg d=>xz (AU n) c d
    | .tup c,.tup d=>xz (AU n) c d
    | _,_=>false
def D5:Ob→Ob→Bool
  | .arr a s r,.arr b s' r'=>(a==b)&&Nat.beq s s'&&xz (xz (AU 8)) r r'
  | .mapo a e,.mapo b e'=>(a==b)&&xz (fun x y=>AU 8 x.1 y.1&&AU 8 x.2 y.2) e e'
  | .dead,.dead=>true
  | _,_=>false
def D6 (S S':St):Bool :=
  xz (AU 8) S.t S'.t&&xz (fun x y=>Nat.beq x.1 y.1&&xz (AU 8) x.2 y.2) S.l S'.l&&xz D5 S.o S'.o&&Nat.beq S.b S'.b
def vg (C:Ctx) (pl:bi) (ops:Array Oper) (i:Nat) (S:St) (K:St→Prop):Prop :=
  match ops[i]? with
  | none=>af 303
  | some o=>ag C pl ops o S K
def qQ (S2 S1:St) (X:Prop):Prop :=
  match D6 S2 S1 with
  | true=>X
  | false=>S2=S1∧X
def za (go:Nat→(St→Prop)→Prop):List Nat→St→Prop→Prop
  | [],_,X=>X
  | i::is,S1,X=>go i fun S2=>qQ S2 S1 (za go is S1 X)
def iV (C:Ctx) (pl:bi) (ops:Array Oper) (ws:List Nat):Nat→Array Bool→St→(St→Prop)→Prop
  | 0,listed,S,K=>match Region.ready .any ops listed with
    | []=>K S
    | _::_=>af 304
  | n + 1,listed,S,K =>
    match Region.ready .any ops listed with
    | []=>K S
    | r::rs =>
      match mq pl ops ws listed (r::rs) with
      | some k=>vg C pl ops k S fun S'=>iV C pl ops ws n (listed.setIfInBounds k true) S' K
      | none=>vg C pl ops r S fun S'=>iV C pl ops ws n (listed.setIfInBounds r true) S' fun S1 =>
          za (fun i K'=>vg C pl ops i S fun S'=>iV C pl ops ws n (listed.setIfInBounds i true) S' K') rs S1 (K S1)
def qi (o:Oper):Bool :=
  match o.guard with
  | some _=>false
  | none=>match o.op with
    | .move _ | .assign _ | .nilCheck _ | .fieldAddr _ _ _=>true
    | _=>false
def mr (ops:Array Oper) (listed:Array Bool):List Nat→Option Nat
  | []=>none
  | i::is=>match (match ops[i]? with | some o=>qi o | none=>false)&&Region.free .any ops listed i with
    | true=>some i
    | false=>mr ops listed is
def rx (C:Ctx) (pl:bi) (ops:Array Oper) (ws:List Nat):Nat→Array Bool→St→(St→Prop)→Prop
  | 0,listed,S,K=>iV C pl ops ws 0 listed S K
  | n + 1,listed,S,K=>match mr ops listed (Region.ready .any ops listed) with
    | some i=>vg C pl ops i S fun S'=>rx C pl ops ws n (listed.setIfInBounds i true) S' K
    | none=>iV C pl ops ws (n + 1) listed S K
def Fo (ops:Array Oper):Bool:=Region.noSelect ops&&ops.toList.all fun o=>match o.op with | .defer _=>false | _=>true
def uz (C:Ctx) (pl:bi) (ops:Array Oper) (S:St) (K:St→Prop):Prop :=
  bf (Fo ops) (match pl.cl with
    | []=>iV C pl ops (bA ops.toList []) ops.size (Array.replicate ops.size false) S K
    | _::_=>rx C pl ops (bA ops.toList []) ops.size (Array.replicate ops.size false) S K)
def bR:List Oper→List (Nat×TypeId)
  | []=>[]
  | o::os=>match o.op,o.dst with
    | .alloc e,some d=>(d,e)::bR os
    | _,_=>bR os
def jk (pl:bi):List (Nat×TypeId)→Bool
  | []=>true
  | (d,_)::xs=>!(dQ pl.esc d)&&!(dQ (xs.map (·.1)) d)&&jk pl xs
def rJ:List Oper→Bool
  | []=>true
  | o::os=>(match o.op,o.guard with | .alloc _,some _=>false | _,_=>true)&&rJ os
def qR (pl:bi) (ops:Array Oper):Bool:=jk pl (bR ops.toList)&&rJ ops.toList
def wm (P:Program):List (Nat×TypeId)→St→(St→Prop)→Prop
  | [],S,K=>K S
  | (d,e)::xs,S,K=>b_ P e fun cs=>bf (Nat.blt 0 cs.length) (wm P xs { t:=S.t,l:=(d,cs)::S.l,o:=S.o,b:=S.b } K)
def uA (P:Program) (xs:List (Nat×TypeId)) (S:St) (K:St→Prop):Prop :=
  lc (xs.map (·.1)) S fun S'=>wm P xs S' K
def jM:List (Nat×TypeId)→St→Prop→Prop
  | [],_,X=>X
  | (d,_)::xs,S,X=>nP S.t d fun a=>match a with
    | .ptr (.L d') _ _=>bf (Nat.beq d' d) (jM xs S X)
    | _=>af 302
def fQ (C:Ctx) (pl:bi):Code→St→(Ex→St→Prop)→Prop
  | .skip,S,K=>K .nrm S
  | .region id ops draw,S,K =>
    match draw with
    | false=>qh C pl ops ops.toList S fun S'=>jc pl id S' fun S''=>K .nrm S''
    | true=>bf (qR pl ops) (uA C.P (bR ops.toList) S fun S1=>uz C pl ops S1 fun S'=>jM (bR ops.toList) S' (jc pl id S' fun S''=>K .nrm S''))
  | .seq a b,S,K=>fQ C pl a S fun e S'=>match e with
    | .nrm=>fQ C pl b S' K
    | .ex i=>K (.ex i) S'
    | .ret=>K .ret S'
  | .cond c x y,S,K=>md c S fun b S'=>match b with
    | true=>fQ C pl x S' K
    | false=>fQ C pl y S' K
  | .block id c,S,K=>fQ C pl c S fun e S'=>match e with
    | .ex i=>match Nat.beq i id with | true=>K .nrm S' | false=>K (.ex i) S'
    | .nrm=>K .nrm S'
    | .ret=>K .ret S'
  | .loop c,S,K=>C.loop pl c S K
  | .exit id,S,K=>K (.ex id) S
  | .ret,S,K=>K .ret S
  | _,_,_=>af 119
def uB (P:Program) (S:St):List ResultVar→(List AV→Prop)→Prop
  | [],k=>k []
  | .tmp t::rs,k=>nP S.t t fun a=>uB P S rs fun as=>k (a::as)
  | .cell a t::rs,k=>nP S.t a fun p=>BF S p fun row j=>gM P t row j fun x=>uB P S rs fun as=>k (x::as)
def xA (as:List AV) (k:AV→Prop):Prop :=
  match as with
  | [a]=>k a
  | as=>k (.tup as)
def wn:Nat→List AV
  | 0=>[]
  | n + 1=>.bad::wn n
def sq (C:Ctx) (k:Ctx→Prop):Prop :=
  match C with
  | ⟨a,b,c,d,e,f⟩=>k ⟨a,b,c,d,e,f⟩
def zb (p:bi) (k:bi→Prop):Prop :=
  match p with
  | ⟨a,b,c,d,e,f,g,h,i,j,l⟩=>k ⟨a,b,c,d,e,f,g,h,i,j,l⟩
def sr (C:Ctx) (f:Nat) (args:List AV) (o:List Ob) (K:AV→St→Prop):Prop :=
  match C.P.funcs[f]? with
  | some fn=>match fn.body with
    | some c=>zb (C.pol f) fun pl=>fQ C pl c { t:=args++wn (fn.ntmps - args.length),l:=[],o:=o,b:=o.length } fun e S =>
        match e with
        | .ex _=>af 120
        | _=>uB C.P S fn.results.toList fun rs=>xA rs fun r=>K r S
    | none=>af 121
  | none=>af 122
def qS (C:Ctx) (f:Nat) (args:List AV) (o:List Ob) (K:AV→St→Prop):Prop:=sq C fun C=>sr C f args o K
def pj (C:Ctx) (f:Nat) (args:List AV) (K:AV→Prop):Prop :=
  qS C f args [] fun r S=>wh S.o r K
def qj (C:Ctx) (f:Nat) (args:List AV) (o:List Ob) (K:AV→List Ob→Prop):Prop :=
  qS C f args o fun r S=>bf (ru 4 r&&Nat.beq S.b o.length) (K r S.o)
structure m7 where
  P:Program
  pure:Nat→Bool
  pol:Nat→bi
  xs:Nat→Bool:=fun _=>false
  xc:Nat→List AV→List Ob→(AV→List Ob→Prop)→Prop:=fun _ _ _ _=>False
  xq:Nat→List AV→Option AV:=fun _ _=>none
def fo (G:m7):Nat→Ctx
  | 0=>{ P:=G.P,pure:=G.pure,pol:=G.pol,pcall:=fun _ _ _=>af 123,scall:=fun _ _ _ _=>af 124,loop:=fun _ _ _ _=>af 125 }
  | n + 1=>{ P:=G.P,pure:=G.pure,pol:=G.pol,pcall:=fun f args K=>match G.xq f args with | some r=>K r | none=>pj (fo G n) f args K,scall:=fun f args o K=>match G.xs f with | true=>G.xc f args o K | false=>qj (fo G n) f args o K,loop:=fun pl c S K=>sq (fo G n) fun C=>fQ C pl c S fun e S'=>match e with
                 | .nrm=>C.loop pl c S' K
                 | .ex i=>K (.ex i) S'
                 | .ret=>K .ret S' }
inductive MV where
  | blk (b o sz n:Nat)
  | virt
structure Env where
  F:Nat→Prop
  mu:Key→Option MV
  h:Array Obj
def Env.fz (E:Env):Env:=⟨E.F,fun _=>none,E.h⟩
def vh (mu:Key→Option MV):Key→Option MV
  | .L _=>none
  | .O i=>mu (.O i)
  | .S id i=>mu (.S id i)
def Env.ob (E:Env):Env:=⟨E.F,vh E.mu,E.h⟩
def cO (h:Array Obj) (b i:Nat):Option Value :=
  match h[b]? with
  | some (.cells c _ _)=>c[i]?
  | _=>none
def aU (h:Array Obj) (b:Nat):Nat :=
  match h[b]? with
  | some (.cells c _ _)=>c.size
  | _=>0
def plain:Value→Bool
  | .bool _ | .int _ _ | .float _ _ | .complex _ _ _ | .string _=>true
  | _=>false
inductive VR:Env→AV→Value→Prop where
  | bad (E:Env) (u:Value):VR E .bad u
  | v (E:Env) (x:Value):plain x=true→VR E (.v x) x
  | nilp (E:Env):VR E .nilp (.pointer none)
  | ptr {E:Env} {k:Key} {b o sz n:Nat} (i j:Nat) (hs:k.isS=false):E.mu k=some (.blk b o sz n)→VR E (.ptr k i j) (.pointer (some ⟨b,o + i * sz + j,none⟩))
  | fptr {E:Env} {row:List AV} {b o:Nat} (j:Nat) (us:List Value):us.length=row.length→(∀ (m:Nat) (c:AV) (u:Value),row[m]?=some c→us[m]?=some u→VR E.fz c u) →
      E.F b→(∀ (m:Nat) (u:Value),us[m]?=some u→cO E.h b (o + m)=some u)→VR E (.fptr row j) (.pointer (some ⟨b,o + j,none⟩))
  | nilsl (E:Env):VR E .nilsl (.slice none 0 0)
  | esln (E:Env):VR E .esl (.slice none 0 0)
  | esl (E:Env) (a:Addr):VR E .esl (.slice (some a) 0 0)
  | sln (E:Env):VR E (.sl []) (.slice none 0 0)
  | sle (E:Env) (a:Addr) (cap:Nat):VR E (.sl []) (.slice (some a) 0 cap)
  | sl {E:Env} {rows:List (List AV)} {sz b o cap:Nat} (us:List Value):0<sz→(∀ r∈rows,r.length=sz)→us.length=rows.flatten.length →
      (∀ (m:Nat) (c:AV) (u:Value),rows.flatten[m]?=some c→us[m]?=some u→VR E.fz c u)→E.F b→(∀ (m:Nat) (u:Value),us[m]?=some u→cO E.h b (o + m)=some u) →
      rows.length≤cap→VR E (.sl rows) (.slice (some ⟨b,o,none⟩) rows.length cap)
  | mfn {E:Env} {id:Nat}:E.mu (.O id)=some .virt→VR E (.mf id) (.slice none 0 0)
  | mfe {E:Env} {id:Nat} (a:Addr):E.mu (.O id)=some .virt→VR E (.mf id) (.slice (some a) 0 0)
  | mf {E:Env} {id b o sz n:Nat} (cap:Nat):E.mu (.O id)=some (.blk b o sz n)→n≤cap→o + cap * sz≤aU E.h b→VR E (.mf id) (.slice (some ⟨b,o,none⟩) n cap)
  | msle {E:Env} {id:Nat} {x:MV} (off:Nat) (a:Option Addr):E.mu (.O id)=some x→VR E (.msl id off 0 0) (.slice a 0 0)
  | msl {E:Env} {id b o sz n:Nat} (off len ext cap:Nat):E.mu (.O id)=some (.blk b o sz n)→off + len + ext≤n→len + ext≤cap→o + (off + cap) * sz≤aU E.h b →
      VR E (.msl id off len ext) (.slice (some ⟨b,o + off * sz,none⟩) len cap)
  | bsl {E:Env} {k:Key} {b o sz n:Nat} (off len cap:Nat) (hs:k.isS=false):E.mu k=some (.blk b o sz n)→len≤cap→VR E (.bsl k off len) (.slice (some ⟨b,o + off,none⟩) len cap)
  | nilmap (E:Env):VR E .nilmap (.map none)
  | mp {E:Env} {id b o sz n:Nat}:E.mu (.O id)=some (.blk b o sz n)→VR E (.mp id) (.map (some b))
  | nilfn (E:Env):VR E .nilfn .nilFunc
  | fn {E:Env} {f:Nat} {xs ys:List AV} (us ws:Array Value):xs.length=us.size→(∀ (m:Nat) (c:AV) (u:Value),xs[m]?=some c→us[m]?=some u→VR E c u) →
      ys.length=ws.size→(∀ (m:Nat) (c:AV) (u:Value),ys[m]?=some c→ws[m]?=some u→VR E c u)→VR E (.fn f xs ys) (.func (.func f) us ws)
  | agg {E:Env} {cs:List AV} (us:Array Value):cs.length=us.size→(∀ (m:Nat) (c:AV) (u:Value),cs[m]?=some c→us[m]?=some u→VR E c u)→VR E (.agg cs) (.agg us)
  | tup {E:Env} {cs:List AV} (us:Array Value):cs.length=us.size→(∀ (m:Nat) (c:AV) (u:Value),cs[m]?=some c→us[m]?=some u→VR E c u)→VR E (.tup cs) (.tuple us)
structure LE (E E':Env):Prop where
  F:∀ b,E.F b→E'.F b
  mu:∀ k x,k.isS=false→E.mu k=some x→E'.mu k=some x
  hF:∀ b,E.F b→E'.h[b]?=E.h[b]?
  sz:∀ k b o s n,k.isS=false→E.mu k=some (.blk b o s n)→aU E'.h b=aU E.h b
theorem LE.refl (E:Env):LE E E:=⟨fun _ h=>h,fun _ _ _ h=>h,fun _ _=>rfl,fun _ _ _ _ _ _ _=>rfl⟩
theorem LE.trans {E E' E'':Env} (h:LE E E') (k:LE E' E''):LE E E'' :=
  ⟨fun b hb=>k.F b (h.F b hb),fun x y hs hx=>k.mu x y hs (h.mu x y hs hx),fun b hb=>(k.hF b (h.F b hb)).trans (h.hF b hb),
   fun x b o s n hs hx=>(k.sz x b o s n hs (h.mu _ _ hs hx)).trans (h.sz x b o s n hs hx)⟩
theorem LE.fz {E E':Env} (h:LE E E'):LE E.fz E'.fz:=⟨h.F,fun _ _ _ hx=>(by cases hx),h.hF,fun _ _ _ _ _ _ hx=>(by cases hx)⟩
theorem eT {mu:Key→Option MV} {k:Key} {x:MV} (h:vh mu k=some x):mu k=some x:=by
  cases k with
  | L d=>cases h
  | O i=>exact h
  | S id i=>exact h
theorem LE.ob {E E':Env} (h:LE E E'):LE E.ob E'.ob :=
  ⟨h.F,fun k x hs hx=>(by
    cases k with
    | L d=>cases hx
    | O i=>exact h.mu _ _ hs hx
    | S id i=>cases hs),h.hF,fun k b o s n hs hx=>h.sz k b o s n hs (eT hx)⟩
theorem mt {h h':Array Obj} {b:Nat} (e:h'[b]?=h[b]?) (i:Nat):cO h' b i=cO h b i:=by
  unfold cO; rw [e]
theorem VR.mono {E:Env} {a:AV} {u:Value} (hv:VR E a u):∀ {E':Env},LE E E'→VR E' a u:=by
  induction hv with
  | bad E u=>intro E' _; exact .bad _ _
  | v E x hx=>intro E' _; exact .v _ _ hx
  | nilp E=>intro E' _; exact .nilp _
  | ptr i j hs hm=>intro E' h; exact .ptr i j hs (h.mu _ _ hs hm)
  | fptr j us hl hc hF hcell ih=>intro E' h; exact .fptr j us hl (fun m c u h1 h2=>ih m c u h1 h2 h.fz) (h.F _ hF) (fun m u hu=>(mt (h.hF _ hF) _).trans (hcell m u hu))
  | nilsl E=>intro E' _; exact .nilsl _
  | esln E=>intro E' _; exact .esln _
  | esl E a=>intro E' _; exact .esl _ a
  | sln E=>intro E' _; exact .sln _
  | sle E a cap=>intro E' _; exact .sle _ a cap
  | sl us hsz hr hl hc hF hcell hcap ih=>intro E' h; exact .sl us hsz hr hl (fun m c u h1 h2=>ih m c u h1 h2 h.fz) (h.F _ hF) (fun m u hu=>(mt (h.hF _ hF) _).trans (hcell m u hu)) hcap
  | mfn hm=>intro E' h; exact .mfn (h.mu _ _ rfl hm)
  | mfe a hm=>intro E' h; exact .mfe a (h.mu _ _ rfl hm)
  | mf cap hm hn hc=>intro E' h; exact .mf cap (h.mu _ _ rfl hm) hn (by rw [h.sz _ _ _ _ _ rfl hm]; exact hc)
  | msle off a hm=>intro E' h; exact .msle off a (h.mu _ _ rfl hm)
  | msl off len ext cap hm h1 h2 h3=>intro E' h; exact .msl off len ext cap (h.mu _ _ rfl hm) h1 h2 (by rw [h.sz _ _ _ _ _ rfl hm]; exact h3)
  | bsl off len cap hs hm h1=>intro E' h; exact .bsl off len cap hs (h.mu _ _ hs hm) h1
  | nilmap E=>intro E' _; exact .nilmap _
  | mp hm=>intro E' h; exact .mp (h.mu _ _ rfl hm)
  | nilfn E=>intro E' _; exact .nilfn _
  | fn us ws h1 h2 h3 h4 ih1 ih2=>intro E' h; exact .fn us ws h1 (fun m c u hc hu=>ih1 m c u hc hu h) h3 (fun m c u hc hu=>ih2 m c u hc hu h)
  | agg us h1 h2 ih=>intro E' h; exact .agg us h1 (fun m c u hc hu=>ih m c u hc hu h)
  | tup us h1 h2 ih=>intro E' h; exact .tup us h1 (fun m c u hc hu=>ih m c u hc hu h)
theorem VR.of_fz {E:Env} {a:AV} {u:Value} (hv:VR E.fz a u):VR E a u :=
  hv.mono ⟨fun _ h=>h,fun _ _ _ h=>(by cases h),fun _ _=>rfl,fun _ _ _ _ _ _ h=>(by cases h)⟩
theorem VR.of_ob {E:Env} {a:AV} {u:Value} (hv:VR E.ob a u):VR E a u :=
  hv.mono ⟨fun _ h=>h,fun _ _ _ h=>eT h,fun _ _=>rfl,fun _ _ _ _ _ _ _=>rfl⟩
theorem VR.fz_ob {E:Env} {a:AV} {u:Value} (hv:VR E.fz a u):VR E.ob a u :=
  hv.mono ⟨fun _ h=>h,fun _ _ _ h=>(by cases h),fun _ _=>rfl,fun _ _ _ _ _ _ h=>(by cases h)⟩
def bI (E:Env) (cs:List AV) (us:List Value):Prop :=
  cs.length=us.length∧∀ (m:Nat) (c:AV) (u:Value),cs[m]?=some c→us[m]?=some u→VR E c u
theorem bI.mono {E E':Env} {cs:List AV} {us:List Value} (h:bI E cs us) (hl:LE E E'):bI E' cs us:=⟨h.1,fun m c u h1 h2=>(h.2 m c u h1 h2).mono hl⟩
theorem bI.nil (E:Env):bI E [] []:=⟨rfl,fun m c u h=>(by simp at h)⟩
theorem bI.cons {E:Env} {c:AV} {u:Value} {cs:List AV} {us:List Value} (h:VR E c u) (hs:bI E cs us):bI E (c::cs) (u::us) :=
  ⟨by simp [hs.1],fun m c' u' h1 h2=>by
    cases m with
    | zero=>simp at h1 h2; subst h1 h2; exact h
    | succ m=>exact hs.2 m c' u' (by simpa using h1) (by simpa using h2)⟩
theorem bI.uncons {E:Env} {c:AV} {cs:List AV} {vs:List Value} (h:bI E (c::cs) vs):∃ u us,vs=u::us∧VR E c u∧bI E cs us:=by
  cases vs with
  | nil=>exact absurd h.1 (by simp)
  | cons u us=>exact ⟨u,us,rfl,h.2 0 c u rfl rfl,by simpa using h.1,fun m c' u' h1 h2=>h.2 (m + 1) c' u' (by simpa using h1) (by simpa using h2)⟩
theorem bI.unnil {E:Env} {vs:List Value} (h:bI E [] vs):vs=[]:=List.eq_nil_of_length_eq_zero h.1.symm
theorem bI.get {E:Env} {cs:List AV} {us:List Value} (h:bI E cs us) {m:Nat} {c:AV} (hc:cs[m]?=some c):∃ u,us[m]?=some u∧VR E c u:=by
  have hm:m<us.length:=by rw [← h.1]; exact (List.getElem?_eq_some_iff.1 hc).1
  exact ⟨us[m],List.getElem?_eq_getElem hm,h.2 m c _ hc (List.getElem?_eq_getElem hm)⟩
theorem bI.append {E:Env} {cs ds:List AV} {us vs:List Value} (h:bI E cs us) (k:bI E ds vs):bI E (cs++ds) (us++vs):=by
  induction cs generalizing us with
  | nil=>rw [h.unnil]; exact k
  | cons c cs ih =>
    obtain ⟨u,us',rfl,hc,hs⟩:=h.uncons
    exact .cons hc (ih hs)
theorem bI.take {E:Env} {cs:List AV} {us:List Value} (h:bI E cs us) (n:Nat):bI E (cs.take n) (us.take n) :=
  ⟨by simp [h.1],fun m c u h1 h2=>by
    rw [List.getElem?_take] at h1 h2
    split at h1
    · rename_i hm; rw [if_pos hm] at h2; exact h.2 m c u h1 h2
    · cases h1⟩
theorem bI.drop {E:Env} {cs:List AV} {us:List Value} (h:bI E cs us) (n:Nat):bI E (cs.drop n) (us.drop n) :=
  ⟨by simp [h.1],fun m c u h1 h2=>by
    rw [List.getElem?_drop] at h1 h2
    exact h.2 _ c u h1 h2⟩
theorem bI.of_fz {E:Env} {cs:List AV} {us:List Value} (h:bI E.fz cs us):bI E cs us:=⟨h.1,fun m c u h1 h2=>(h.2 m c u h1 h2).of_fz⟩
theorem bI.of_ob {E:Env} {cs:List AV} {us:List Value} (h:bI E.ob cs us):bI E cs us:=⟨h.1,fun m c u h1 h2=>(h.2 m c u h1 h2).of_ob⟩
theorem bI.aggV {E:Env} {cs:List AV} {us:Array Value} (h:bI E cs us.toList):VR E (.agg cs) (.agg us) :=
  .agg us (by simpa using h.1) (fun m c u h1 h2=>h.2 m c u h1 (by simpa using h2))
theorem VR.aggI {E:Env} {cs:List AV} {u:Value} (h:VR E (.agg cs) u):∃ us:Array Value,u=.agg us∧bI E cs us.toList:=by
  cases h with
  | agg us h1 h2=>exact ⟨us,rfl,by simpa using h1,fun m c u hc hu=>h2 m c u hc (by simpa using hu)⟩
theorem VR.tupI {E:Env} {cs:List AV} {u:Value} (h:VR E (.tup cs) u):∃ us:Array Value,u=.tuple us∧bI E cs us.toList:=by
  cases h with
  | tup us h1 h2=>exact ⟨us,rfl,by simpa using h1,fun m c u hc hu=>h2 m c u hc (by simpa using hu)⟩
theorem VR.vI {E:Env} {x u:Value} (h:VR E (.v x) u):u=x∧plain x=true:=by
  cases h with
  | v _ _ hx=>exact ⟨rfl,hx⟩
def bS (E':Env) (h:Array Obj) (rows:List (List AV)) (b o sz:Nat):Prop :=
  0<sz∧(∀ r∈rows,r.length=sz)∧∃ (us:Array Value) (ty:TypeId),h[b]?=some (.cells us ty (0,0))∧o + rows.length * sz≤us.size ∧
    ∀ (m:Nat) (c:AV),rows.flatten[m]?=some c→∃ u,us[o + m]?=some u∧VR E' c u
def bU (E:Env) (fl:Bool):Env:=match fl with | true=>E.fz | false=>E.ob
def ry (ms:Array MapEntry) (clock:Nat):Prop:=(∀ x∈ms.toList,x.born<clock)∧(ms.toList.map (·.born)).Nodup
theorem ry.empty (clock:Nat):ry #[] clock:=⟨by simp,by simp⟩
theorem ry.push {ms:Array MapEntry} {clock:Nat} (h:ry ms clock) (key val:Value):ry (ms.push { key:=key,val:=val,born:=clock }) (clock + 1):=by
  obtain ⟨h1,h2⟩:=h
  refine ⟨fun x hx=>?_,?_⟩
  · simp only [Array.toList_push,List.mem_append,List.mem_singleton] at hx
    rcases hx with hx | rfl
    · exact Nat.lt_succ_of_lt (h1 x hx)
    · exact Nat.lt_succ_self _
  · simp only [Array.toList_push,List.map_append,List.map_cons,List.map_nil]
    refine List.nodup_append.2 ⟨h2,by simp,fun a ha b hb=>?_⟩
    simp only [List.mem_singleton] at hb
    subst hb
    obtain ⟨x,hx,rfl⟩:=List.mem_map.1 ha
    exact Nat.ne_of_lt (h1 x hx)
theorem ry.modify {ms:Array MapEntry} {clock:Nat} (h:ry ms clock) (i:Nat) (key val:Value):ry (ms.modify i fun e=>{ e with key:=key,val:=val }) clock:=by
  have hb:(ms.modify i fun e=>{ e with key:=key,val:=val }).toList.map (·.born)=ms.toList.map (·.born):=by
    apply List.ext_getElem?
    intro j
    simp only [List.getElem?_map,Array.getElem?_toList,Array.getElem?_modify]
    split
    · rename_i e
      subst e
      cases ms[i]? <;> rfl
    · rfl
  refine ⟨fun x hx=>?_,by rw [hb]; exact h.2⟩
  have:x.born∈(ms.modify i fun e=>{ e with key:=key,val:=val }).toList.map (·.born):=List.mem_map.2 ⟨x,hx,rfl⟩
  rw [hb] at this
  obtain ⟨y,hy,e⟩:=List.mem_map.1 this
  rw [← e]
  exact h.1 y hy
def BR (E:Env) (h:Array Obj) (fl:Bool) (es:List (AV×AV)) (b:Nat):Prop :=
  ∃ (ms:Array MapEntry) (clock:Nat),h[b]?=some (.map ms clock)∧(es.length=ms.size∧ry ms clock) ∧
    ∀ (i:Nat) (e:AV×AV) (m:MapEntry),es[i]?=some e→ms[i]?=some m→yW e.1=some m.key∧VR (bU E fl) e.2 m.val
def eu (E:Env) (x:Option Ob) (mv:Option MV):Prop :=
  match x,mv with
  | some (.arr _ _ rows),some .virt=>rows=[]
  | some (.arr fl sz rows),some (.blk b o s n)=>(s=sz∧n=rows.length)∧bS (bU E fl) E.h rows b o s
  | some (.mapo fl es),some (.blk b _ _ _)=>BR E E.h fl es b
  | some (.own ks _ cells _),some .virt=>ks=none∧cells=[]
  | some (.own ks _ cells _),some (.blk _ _ s n)=>ks=none→s=1∧n=cells.length
  | some .dead,none=>True
  | none,none=>True
  | _,_=>False
def fR (pend:Nat→Option (List AV)) (E:Env) (x:Option (List AV)) (d:Nat):Prop :=
  match x with
  | none=>E.mu (.L d)=none
  | some row=>(∃ b,E.mu (.L d)=some (.blk b 0 row.length 1)∧bS E E.h [row] b 0 row.length)∨(E.mu (.L d)=none∧pend d=some row∧∀ k,row.map (cm 4 k)=row)
def bV (E:Env) (sz:Nat) (c:Option (List (List AV))) (mv:Option MV) (u:Value):Prop :=
  match c,mv with
  | none,none=>u=.slice none 0 0
  | some rows,some .virt=>rows=[]∧∃ a,u=.slice a 0 0
  | some rows,some (.blk b o s n)=>(s=sz∧n=rows.length)∧bS E.fz E.h rows b o s∧∃ cap,n≤cap∧o + cap * s≤aU E.h b∧u=.slice (some ⟨b,o,none⟩) n cap
  | _,_=>False
def Dy (E:Env) (sz:Nat) (hole:Option (Nat×AV)) (i:Nat) (c:Option (List (List AV))) (mv:Option MV) (u:Value):Prop :=
  match hole with
  | some (j,a)=>if j=i then mv=none∧VR E.ob a u else bV E sz c mv u
  | none=>bV E sz c mv u
def fS (h:Array Obj) (b o i:Nat):Option Value :=
  match h[b]? with
  | some (.cells us _ _)=>us[o + i]?
  | some (.map ms _)=>(ms[i]?).map (·.val)
  | _=>none
def vi (h:Array Obj) (ks:Option (List AV)) (b o n:Nat):Prop :=
  match ks with
  | none=>∃ us ty,h[b]?=some (.cells us ty (0,0))∧o + n≤us.size
  | some ks=>∃ ms clock,h[b]?=some (.map ms clock)∧(n=ms.size∧n=ks.length∧ry ms clock)∧∀ (i:Nat) (k:AV) (m:MapEntry),ks[i]?=some k→ms[i]?=some m→yW k=some m.key
theorem vi.congr {h h':Array Obj} {ks:Option (List AV)} {b o n:Nat} (hb:vi h ks b o n) (e:h'[b]?=h[b]?):vi h' ks b o n:=by
  cases ks with
  | none =>
    obtain ⟨us,ty,h1,h2⟩:=hb
    exact ⟨us,ty,e.trans h1,h2⟩
  | some ks =>
    obtain ⟨ms,clock,h1,h2⟩:=hb
    exact ⟨ms,clock,e.trans h1,h2⟩
theorem xB {h h':Array Obj} {b:Nat} (e:h'[b]?=h[b]?) (o i:Nat):fS h' b o i=fS h b o i:=by
  unfold fS
  rw [e]
theorem xC {h:Array Obj} {b o n i:Nat} {u:Value} (hb:vi h none b o n) (hv:fS h b o i=some u):cO h b (o + i)=some u:=by
  obtain ⟨us,ty,h1,_⟩:=hb
  unfold fS at hv
  unfold cO
  rw [h1] at hv ⊢
  exact hv
def c_ (E:Env) (id:Nat) (x:Option Ob):Prop :=
  match x with
  | some (.own ks sz cells hole)=>0<sz∧(∀ i,cells.length≤i→E.mu (.S id i)=none) ∧
      ∀ b o s n,E.mu (.O id)=some (.blk b o s n)→vi E.h ks b o cells.length ∧
        ∀ i c,cells[i]?=some c→∃ u,fS E.h b o i=some u∧Dy E sz hole i c (E.mu (.S id i)) u
  | _=>∀ i,E.mu (.S id i)=none
theorem bV.mono {E E':Env} {sz:Nat} {c:Option (List (List AV))} {mv:Option MV} {u:Value} (h:bV E sz c mv u) (hf:LE E.fz E'.fz) (hh:∀ b o s n,mv=some (.blk b o s n)→E'.h[b]?=E.h[b]?):bV E' sz c mv u:=by
  revert h
  cases c with
  | none =>
    cases mv with
    | none=>exact fun h=>h
    | some mv=>cases mv <;> exact fun h=>h.elim
  | some rows =>
    cases mv with
    | none=>exact fun h=>h.elim
    | some mv =>
      cases mv with
      | virt=>exact fun h=>h
      | blk b o s n =>
        rintro ⟨h0,⟨h1,h2,us,ty,h3,h4,h5⟩,cap,h6,h7,h8⟩
        have hb:=hh _ _ _ _ rfl
        refine ⟨h0,⟨h1,h2,us,ty,hb.trans h3,h4,fun m c hc=>?_⟩,cap,h6,?_,h8⟩
        · obtain ⟨u,hu,hv⟩:=h5 m c hc
          exact ⟨u,hu,hv.mono hf⟩
        · have:aU E'.h b=aU E.h b:=by unfold aU; rw [hb]
          rw [this]
          exact h7
theorem c_.mono {E E':Env} {id:Nat} {x:Option Ob} (h:c_ E id x) (hO:E'.mu (.O id)=E.mu (.O id)) (hS:∀ i,E'.mu (.S id i)=E.mu (.S id i)) (hf:LE E.fz E'.fz) (hb:LE E.ob E'.ob)
    (hh:∀ k b o s n,(k=.O id∨∃ i,k=.S id i)→E.mu k=some (.blk b o s n)→E'.h[b]?=E.h[b]?):c_ E' id x:=by
  revert h
  unfold c_
  split
  · rename_i ks sz cells hole
    rintro ⟨h1,h2,h3⟩
    refine ⟨h1,fun i hi=>(hS i).trans (h2 i hi),fun b o s n hm=>?_⟩
    rw [hO] at hm
    obtain ⟨h4,h6⟩:=h3 b o s n hm
    have hbb:=hh _ _ _ _ _ (.inl rfl) hm
    refine ⟨h4.congr hbb,fun i c hc=>?_⟩
    obtain ⟨u,hu,h7⟩:=h6 i c hc
    refine ⟨u,(xB hbb _ _).trans hu,?_⟩
    rw [hS i]
    have hcell:bV E sz c (E.mu (.S id i)) u→bV E' sz c (E.mu (.S id i)) u:=fun h=>h.mono hf fun b o s n e=>hh _ _ _ _ _ (.inr ⟨i,rfl⟩) e
    unfold Dy at h7 ⊢
    split at h7
    · rename_i j a
      by_cases hj:j=i
      · rw [if_pos hj] at h7 ⊢
        exact ⟨h7.1,h7.2.mono hb⟩
      · rw [if_neg hj] at h7 ⊢
        exact hcell h7
    · exact hcell h7
  · exact fun h i=>(hS i).trans (h i)
theorem c_.arr {E:Env} {id sz:Nat} {fl:Bool} {rows:List (List AV)}:c_ E id (some (.arr fl sz rows))↔∀ i,E.mu (.S id i)=none:=Iff.rfl
theorem c_.mapo {E:Env} {id:Nat} {fl:Bool} {es:List (AV×AV)}:c_ E id (some (.mapo fl es))↔∀ i,E.mu (.S id i)=none:=Iff.rfl
def iD:Option Ob→Bool
  | some (.own _ _ _ _)=>false
  | _=>true
theorem c_.not {E:Env} {id:Nat} {x:Option Ob} (h:iD x=true):c_ E id x↔∀ i,E.mu (.S id i)=none:=by
  unfold c_
  split
  · cases h
  · exact Iff.rfl
structure Gh where
  w0:World
  M:Nat→Prop
  F:Nat→Prop
  mu:Nat→Option MV
structure ai (G:Gh) (pend:Nat→Option (List AV)) (E:Env) (S:St) (w:World):Prop where
  hp:E.h=w.heap
  os:w.os=G.w0.os
  tape:w.tape=G.w0.tape
  output:w.output=G.w0.output
  size:G.w0.heap.size≤w.heap.size
  keep:∀ b,b<G.w0.heap.size→¬ G.M b→w.heap[b]?=G.w0.heap[b]?
  F0:∀ b,G.F b→E.F b
  Flt:∀ b,E.F b→b<w.heap.size
  Fnew:∀ b,E.F b→b<G.w0.heap.size→G.F b∨G.M b
  own:∀ k b o s n,E.mu k=some (.blk b o s n)→¬ E.F b∧b<w.heap.size∧(G.M b∨G.w0.heap.size≤b)
  inj:∀ k k' b o s n o' s' n',E.mu k=some (.blk b o s n)→E.mu k'=some (.blk b o' s' n')→k=k'
  loc:∀ d,fR pend E (aF S.l d) d
  obj:∀ id,eu E S.o[id]? (E.mu (.O id))
  old:∀ id,id<S.b→S.o[id]?=some .dead∨E.mu (.O id)=G.mu id
  bl:S.b≤S.o.length
  szs:∀ b,b<G.w0.heap.size→aU w.heap b=aU G.w0.heap b
  pk:∀ d row,pend d=some row→E.mu (.L d)=none∧aF S.l d=some row
  ow:∀ id,c_ E id S.o[id]?
def yX (E:Env):Prop:=∀ g row,CY g=some row→VR E.fz (.fptr row 0) (.pointer (some ⟨g,0,none⟩))∧cO E.h g row.length=none
theorem wo {E E':Env} {row:List AV} {g:Nat} (h:VR E (.fptr row 0) (.pointer (some ⟨g,0,none⟩))∧cO E.h g row.length=none) (hl:LE E E'):VR E' (.fptr row 0) (.pointer (some ⟨g,0,none⟩))∧cO E'.h g row.length=none:=by
  refine ⟨h.1.mono hl,?_⟩
  obtain ⟨h1,h2⟩:=h
  cases h1 with
  | fptr j us _ _ hF _=>exact (mt (hl.hF _ hF) _).trans h2
theorem yX.mono {E E':Env} (h:yX E) (hl:LE E E'):yX E':=fun g row e=>wo (h g row e) hl.fz
theorem yX.up {E:Env} (h:yX E) {F':Nat→Prop} {mu':Key→Option MV} {h':Array Obj} (hF:∀ b,E.F b→F' b) (hh:E.h=h'):yX ⟨F',mu',h'⟩:=fun g row e=>wo (E:=E.fz) (E':=⟨F',fun _=>none,h'⟩) (h g row e) ⟨hF,fun _ _ _ hx=>(by cases hx),fun _ _=>(by rw [← hh]; rfl),fun _ _ _ _ _ _ hx=>(by cases hx)⟩
structure TR (E:Env) (t:List AV) (a:Act):Prop where
  len:t.length=a.tmps.size
  val:∀ (n:Nat) (c:AV) (u:Value),t[n]?=some c→a.tmps[n]?=some u→VR E c u
  df:a.defers=[]
  gt:yX E
theorem TR.mono {E E':Env} {t:List AV} {a:Act} (h:TR E t a) (hl:LE E E'):TR E' t a:=⟨h.len,fun n c u h1 h2=>(h.val n c u h1 h2).mono hl,h.df,h.gt.mono hl⟩
theorem ac {b:Bool} {X:Prop} (h:bf b X):b=true∧X:=by
  cases b with
  | true=>exact ⟨rfl,h⟩
  | false=>exact False.elim h
theorem au {b:Bool} {X:Prop} (hb:b=true) (h:X):bf b X:=by subst hb; exact h
theorem kO {b:Bool} {X Y:Prop} (h:xv b X Y):(b=true∧X)∨(b=false∧Y):=by
  cases b with
  | true=>exact .inl ⟨rfl,h⟩
  | false=>exact .inr ⟨rfl,h⟩
theorem zd {b:Bool} {X Y:Prop} (hX:b=true→X) (hY:b=false→Y):xv b X Y:=by
  cases b with
  | true=>exact hX rfl
  | false=>exact hY rfl
theorem bW {a:AV} {k:AV→Prop}:jH a k↔k a:=by cases a <;> exact Iff.rfl
theorem de:∀ {xs:List AV} {k:List AV→Prop},gK xs k↔k xs
  | [],_=>Iff.rfl
  | _::xs,_=>de (xs:=xs)
theorem gx:∀ {xs:List AV} {k:List AV→Prop},rI xs k↔k xs
  | [],_=>Iff.rfl
  | x::xs,k=>by
    show jH x _↔_
    rw [bW]
    exact gx (xs:=xs)
theorem az:∀ {xs:List Ob} {k:List Ob→Prop},aQ xs k↔k xs
  | [],_=>Iff.rfl
  | _::xs,_=>az (xs:=xs)
theorem gQ:∀ {xs:List (Nat×List AV)} {k:List (Nat×List AV)→Prop},mh xs k↔k xs
  | [],_=>Iff.rfl
  | (_,_)::xs,_=>gQ (xs:=xs)
theorem iO:∀ {xs:List (List AV)} {k:List (List AV)→Prop},eA xs k↔k xs
  | [],_=>Iff.rfl
  | x::xs,k=>by
    show gK x _↔_
    rw [de]
    exact iO (xs:=xs)
theorem bK:∀ {xs:List AV} {n:Nat} {k:AV→Prop},nP xs n k↔∃ a,xs[n]?=some a∧k a
  | [],_,_=>⟨fun h=>False.elim h,fun ⟨a,h,_⟩=>by simp at h⟩
  | x::xs,0,k=>⟨fun h=>⟨x,rfl,h⟩,fun ⟨a,h,hk⟩=>by simp at h; subst h; exact hk⟩
  | x::xs,n + 1,k=>by
    show nP xs n k↔_
    rw [bK]
    simp
theorem du:∀ {xs:List AV} {n:Nat} {v:AV} {k:List AV→Prop},qc xs n v k↔k (xs.set n v)
  | [],_,_,_=>Iff.rfl
  | _::xs,0,_,_=>Iff.rfl
  | x::xs,n + 1,v,k=>by
    show qc xs n v _↔_
    rw [du]
    rfl
def jN (S:St) (dst:Option Tmp) (a:AV):St :=
  match dst with
  | none=>S
  | some d=>{ t:=S.t.set d a,l:=S.l,o:=S.o,b:=S.b }
theorem aD {dst:Option Tmp} {a:AV} {S:St} {K:St→Prop}:bc dst a S K↔K (jN S dst a):=by
  cases dst with
  | none=>exact Iff.rfl
  | some d=>exact du
theorem qk {c:Value} {E:Env}:VR E (rZ c) c:=by
  unfold rZ
  split <;> first
    | exact .v _ _ rfl
    | exact .nilp _
    | exact .nilsl _
    | exact .nilmap _
    | exact .nilfn _
    | exact .bad _ _
theorem wq (E:Env) (c:Value):VR E (AO c) c:=by
  unfold AO
  split
  · rename_i cs
    refine .agg cs (by simp) (fun m x u h1 h2=>?_)
    simp only [List.getElem?_map,Array.getElem?_toList,Option.map_eq_some_iff] at h1
    obtain ⟨y,hy,rfl⟩:=h1
    rw [hy] at h2
    cases h2
    exact qk
  · exact qk
theorem cw {S:St} {x:Operand} {k:AV→Prop} {E:Env} {a:Act} (h:cj S x k) (ht:TR E S.t a):∃ c,k c∧VR E c (a.eval x):=by
  unfold cj at h
  split at h
  · rename_i t
    obtain ⟨c,hc,hk⟩:=bK.1 h
    have hlt:t<a.tmps.size:=by rw [← ht.len]; exact (List.getElem?_eq_some_iff.1 hc).1
    refine ⟨c,hk,ht.val t c _ hc ?_⟩
    simp [Act.eval,Array.getD,hlt]
  · rename_i c
    exact ⟨_,bW.1 h,wq E c⟩
  · rename_i f
    exact ⟨_,h,.fn #[] #[] rfl (fun m c u hc=>by simp at hc) rfl (fun m c u hc=>by simp at hc)⟩
  · rename_i g
    split at h
    · rename_i row e
      exact ⟨_,h,(ht.gt g row e).1.of_fz⟩
    · exact False.elim h
theorem cx {S:St} {E:Env} {a:Act} (ht:TR E S.t a):∀ {xs:List Operand} {k:List AV→Prop},cX S xs k→∃ cs,k cs∧bI E cs (xs.map a.eval)
  | [],_,h=>⟨[],h,.nil _⟩
  | x::xs,k,h=>by
    obtain ⟨c,hk,hc⟩:=cw h ht
    obtain ⟨cs,hk',hcs⟩:=cx ht hk
    exact ⟨c::cs,hk',.cons hc hcs⟩
theorem TR.put {E:Env} {S:St} {a:Act} (h:TR E S.t a) {dst:Option Tmp} {c:AV} {u:Value} (hv:VR E c u):TR E (jN S dst c).t (a.put dst u):=by
  cases dst with
  | none=>exact h
  | some d =>
    refine ⟨by simp [jN,Act.put,h.len],fun n c' u' h1 h2=>?_,h.df,h.gt⟩
    simp only [jN,Act.put,List.getElem?_set,Array.getElem?_setIfInBounds] at h1 h2
    by_cases hd:d=n
    · subst hd
      simp only [if_true] at h1 h2
      split at h1
      · rename_i hl
        rw [if_pos (by rw [← h.len]; exact hl)] at h2
        cases h1; cases h2
        exact hv
      · cases h1
    · rw [if_neg hd] at h1 h2
      exact h.val n c' u' h1 h2
theorem ei {α:Type} {P:Program}:∀ (s:Sem α) {x:α} (w:World),aC P s=some x→s.run P w=.ok x w
  | .pure a,x,w,h=>by simp only [aC,Option.some.injEq] at h; subst h; rfl
  | .program k,x,w,h=>by simp only [aC] at h; exact ei (k P) w h
  | .load _ _ _,_,_,h=>by cases h
  | .store _ _ _ _,_,_,h=>by cases h
  | .new _ _,_,_,h=>by cases h
  | .shape _ _,_,_,h=>by cases h
  | .freeze _ _ _,_,_,h=>by cases h
  | .frozen _ _,_,_,h=>by cases h
  | .getObj _ _,_,_,h=>by cases h
  | .setObj _ _ _,_,_,h=>by cases h
  | .choose _ _,_,_,h=>by cases h
  | .sys _ _,_,_,h=>by cases h
  | .mark _ _,_,_,h=>by cases h
  | .halt _,_,_,h=>by cases h
theorem ze {P:Program} {op:BinOp} {a b c:Value} (h:CZ op a b=some c) (t:TypeId) (w:World) :
    (binOp op t a b).run P w=.ok c w∧plain c=true:=by
  unfold CZ at h
  split at h
  · split at h <;> first
      | (split at h
         · rename_i hk
           subst hk
           simp only [Option.some.injEq] at h
           subst h
           refine ⟨?_,rfl⟩
           simp [binOp,Op.intArith,Op.intCmp,Op.intBits]
         · cases h)
      | cases h
  · split at h <;> first
      | (simp only [Option.some.injEq] at h
         subst h
         refine ⟨?_,rfl⟩
         simp [binOp,Op.stringOp])
      | cases h
  · cases h
theorem xD {P:Program} {op:BinOp} {a b:Value} {K:Value→Prop} (h:r6 op a b K) (t:TypeId) (w:World) :
    ∃ c,K c∧(binOp op t a b).run P w=.ok c w∧plain c=true:=by
  unfold r6 at h
  split at h <;> first
    | exact False.elim h
    | (obtain ⟨hc,hK⟩:=ac h
       refine ⟨_,hK,?_,rfl⟩
       simp only [Bool.and_eq_true,decide_eq_true_eq,Bool.not_eq_true',beq_eq_false_iff_ne,ne_eq] at hc
       first
         | (obtain ⟨rfl,hb⟩:=hc; simp [binOp,Op.intDiv,hb])
         | (have hb:¬ _<(0:Int):=Int.not_lt.2 hc
            simp [binOp,Op.shift,hb])
         | (simp only [binOp,Op.stringOp]
            rw [if_neg (by rw [show IntKind.i64.max=9223372036854775807 from rfl]; omega)]
            rfl))
theorem AW {P:Program} {op:UnOp} {x:AV} {K:AV→Prop} {E:Env} {u:Value} (h:EX op x K) (hx:VR E x u) (w:World) :
    ∃ r z,K r∧VR E r z∧(Op.unary op u).run P w=.ok z w:=by
  unfold EX at h
  split at h <;> first
    | exact False.elim h
    | (obtain ⟨rfl,_⟩:=hx.vI
       exact ⟨_,_,h,.v _ _ rfl,by simp [Op.unary,Op.intArith,Op.intBits]⟩)
theorem lh {E:Env}:∀ {as:List AV} {xs:List Value} {us:List Value},rv as=some xs→bI E as us→us=xs
  | [],xs,us,h,hv=>by simp only [rv,Option.some.injEq] at h; subst h; exact hv.unnil
  | a::as,xs,us,h,hv=>by
    obtain ⟨u,us',rfl,ha,hs⟩:=hv.uncons
    unfold rv at h
    split at h
    · rename_i x xs' h1 h2
      simp only [Option.some.injEq] at h
      subst h
      unfold EW at h1
      split at h1
      · simp only [Option.some.injEq] at h1
        subst h1
        rw [ha.vI.1,lh h2 hs]
      · cases h1
    · cases h
def BS:Value→Bool
  | .nilIface | .agg _=>false
  | _=>true
theorem iE {op:BinOp} {t:TypeId} {X Y:Operand} {a b:Value} (h:BS a=true):eqGuard op t X Y a b=pure ():=by
  unfold eqGuard
  cases a <;> first | (cases op <;> rfl) | (cases h; done)
theorem ql {P:Program} {t:TypeId} {u v:Value} {b:Bool} {w:World} (h:∀ d:Nat,(Op.equalIn (d + 1) t u v).run P w=.ok b w):(Op.equal t u v).run P w=.ok b w:=h 9999
theorem vj {P:Program} {t:TypeId} (hu:P.underlying t=some .bool) (a b:Bool) (w:World) (d:Nat):(Op.equalIn (d + 1) t (.bool a) (.bool b)).run P w=.ok (a==b) w:=by
  unfold Op.equalIn
  rw [Sem.run_bind,run_underlying hu]
  rfl
theorem qT {P:Program} {t:TypeId} {x y:AV} {E:Env} {u v:Value} {b:Bool} (hk:kindOk P t x y=true) (h:Ae x y=some b) (hx:VR E x u) (hy:VR E y v) (w:World) :
    (Op.equal t u v).run P w=.ok b w∧BS u=true∧(binOp .eql t u v).run P w=((Op.equal t u v).run P w).andThen (fun r w=>.ok (.bool r) w)∧(binOp .neq t u v).run P w=((Op.equal t u v).run P w).andThen (fun r w=>.ok (.bool (!r)) w):=by
  have key:(∀ d:Nat,(Op.equalIn (d + 1) t u v).run P w=.ok b w)→BS u=true∧binOp .eql t u v=(do pure (.bool (← Op.equal t u v)))∧binOp .neq t u v=(do pure (.bool (!(← Op.equal t u v)))) →
      (Op.equal t u v).run P w=.ok b w∧BS u=true∧(binOp .eql t u v).run P w=((Op.equal t u v).run P w).andThen (fun r w=>.ok (.bool r) w)∧(binOp .neq t u v).run P w=((Op.equal t u v).run P w).andThen (fun r w=>.ok (.bool (!r)) w) :=
    fun h1 h2=>⟨ql h1,h2.1,by rw [h2.2.1,Sem.run_bind]; rfl,by rw [h2.2.2,Sem.run_bind]; rfl⟩
  unfold Ae at h
  split at h
  all_goals first
    | (cases h; done)
    | (simp only [Option.some.injEq] at h
       subst h
       unfold kindOk at hk
       split at hk
       all_goals first
         | (cases hk; done)
         | (cases hx <;> cases hy <;> have hu:=‹P.underlying t=some _› <;> first
              | (refine key (fun d=>?_) ⟨rfl,rfl,rfl⟩; unfold Op.equalIn; rw [Sem.run_bind,run_underlying hu]; rfl)
              | (exfalso; simp_all; done)))
theorem zf {P:Program} {op:BinOp} {t:TypeId} {x y:AV} {K:AV→Prop} {E:Env} {u v:Value} (hk:kindOk P t x y=true) (h:BK op x y K) (hx:VR E x u) (hy:VR E y v) (w:World) (X Y:Operand) :
    ∃ r z,K r∧VR E r z∧(do eqGuard op t X Y u v; binOp op t u v:Sem Value).run P w=.ok z w:=by
  unfold BK at h
  split at h
  · split at h
    · rename_i b hb
      obtain ⟨h1,h2,h3⟩:=qT hk hb hx hy w
      exact ⟨_,_,h,.v _ _ rfl,by rw [iE h2]; simp [h3.1,h1]⟩
    · exact False.elim h
  · split at h
    · rename_i b hb
      obtain ⟨h1,h2,h3⟩:=qT hk hb hx hy w
      exact ⟨_,_,h,.v _ _ rfl,by rw [iE h2]; simp [h3.2,h1]⟩
    · exact False.elim h
  · exact False.elim h
theorem ss {P:Program} {op:BinOp} {t:TypeId} {x y:AV} {K:AV→Prop} {E:Env} {u v:Value} (h:yY P op t x y K) (hx:VR E x u) (hy:VR E y v) (w:World) (X Y:Operand) :
    ∃ r z,K r∧VR E r z∧(do eqGuard op t X Y u v; binOp op t u v:Sem Value).run P w=.ok z w:=by
  unfold yY at h
  split at h
  · rename_i a b
    obtain ⟨rfl,pa⟩:=hx.vI
    obtain ⟨rfl,pb⟩:=hy.vI
    have hg:(eqGuard op t X Y u v).run P w=.ok () w:=by
      rw [iE (by cases u <;> first | rfl | (cases pa; done))]
      rfl
    unfold vb at h
    split at h
    · rename_i c hc
      obtain ⟨h1,h2⟩:=ze (P:=P) hc t w
      exact ⟨_,_,h,.v _ _ h2,by simp [hg,h1]⟩
    · split at h
      · unfold xw at h
        split at h
        · rename_i hu
          split at h <;> first
            | exact False.elim h
            | (refine ⟨_,_,h,.v _ _ rfl,?_⟩
               rw [Sem.run_bind,hg,Result.andThen_ok]
               first
                 | (show (Op.equal t (.bool _) (.bool _) >>= fun r=>(pure (Value.bool r):Sem Value)).run P w=_
                    rw [Sem.run_bind,ql (vj hu _ _ w)]
                    rfl)
                 | (show (Op.equal t (.bool _) (.bool _) >>= fun r=>(pure (Value.bool (!r)):Sem Value)).run P w=_
                    rw [Sem.run_bind,ql (vj hu _ _ w)]
                    rfl))
        · exact False.elim h
      · obtain ⟨c,hK,h1,h2⟩:=xD (P:=P) h t w
        exact ⟨_,_,hK,.v _ _ h2,by simp [hg,h1]⟩
  · rename_i as bs
    obtain ⟨us,rfl,hus⟩:=hx.aggI
    obtain ⟨ws,rfl,hws⟩:=hy.aggI
    split at h
    · rename_i xs ys h1 h2
      have e1:=lh h1 hus
      have e2:=lh h2 hws
      split at h
      · rename_i b hb
        have hr:=ei _ w hb
        refine ⟨_,_,h,.v _ _ rfl,?_⟩
        have e3:us=xs.toArray:=by rw [← e1]
        have e4:ws=ys.toArray:=by rw [← e2]
        subst e3 e4
        rw [← hr]
        rfl
      · exact False.elim h
    · exact False.elim h
  · obtain ⟨hk,h⟩:=ac h
    exact zf hk h hx hy w X Y
theorem run_sizeOf {P:Program} {t:TypeId} {i:TypeInfo} (h:P.info? t=some i) (w:World):(sizeOf t).run P w=.ok i.size w:=by
  unfold sizeOf
  rw [Sem.run_bind,run_typeInfo w h]
  rfl
theorem jz {P:Program} {t:TypeId} {d:TypeDesc} (h:P.underlying t=some d) (w:World):(isAgg t).run P w=.ok (match d with | .struct _ | .array _ _=>true | _=>false) w:=by
  unfold isAgg
  rw [Sem.run_bind,run_underlying h,Result.andThen_ok]
  cases d <;> rfl
theorem sv {P:Program} {t:TypeId} {row:List AV} {j:Nat} {k:AV→Prop} {E:Env} {us:Array Value} (h:gM P t row j k) (hr:bI E row us.toList) (w:World) :
    ∃ r u,k r∧VR E r u∧(part t us j).run P w=.ok u w:=by
  have agg:∀ i,P.info? t=some i→bf (Nat.ble (j + i.size) row.length) (gK ((row.drop j).take i.size) fun cs=>k (.agg cs))→(isAgg t).run P w=.ok true w →
      ∃ r u,k r∧VR E r u∧(part t us j).run P w=.ok u w:=by
    intro i hi h ha
    obtain ⟨hl,hk⟩:=ac h
    rw [de] at hk
    refine ⟨_,.agg (us.extract j (j + i.size)),hk,bI.aggV ?_,?_⟩
    · have:=(hr.drop j).take i.size
      rw [Array.toList_extract]
      simpa [List.extract] using this
    · unfold part
      rw [Sem.run_bind,ha,Result.andThen_ok,if_pos rfl,Sem.run_bind,run_sizeOf hi]
      rfl
  unfold gM at h
  split at h
  · rename_i hu
    split at h
    · rename_i i hi
      exact agg i hi h (by rw [jz hu])
    · exact False.elim h
  · rename_i hu
    split at h
    · rename_i i hi
      exact agg i hi h (by rw [jz hu])
    · exact False.elim h
  · rename_i d h1 h2 hu
    split at h
    · rename_i c hc
      obtain ⟨u,hu',hv⟩:=hr.get hc
      refine ⟨_,_,h,hv,?_⟩
      unfold part
      have ha:(isAgg t).run P w=.ok false w:=by
        rw [jz hu]
        cases d <;> first | rfl | (exact absurd rfl (h1 _)) | (exact absurd rfl (h2 _ _))
      rw [Sem.run_bind,ha,Result.andThen_ok,if_neg (by simp)]
      rw [Array.getElem?_toList] at hu'
      rw [hu']
      rfl
    · exact False.elim h
  · exact False.elim h
theorem ey (b o m:Nat):(⟨b,o,none⟩:Addr).add m=⟨b,o + m,none⟩:=by
  unfold Addr.add
  split
  · rename_i h; subst h; rfl
  · rfl
theorem jA (w:World) (b i:Nat):w.cell? ⟨b,i,none⟩=cO w.heap b i:=by
  unfold World.cell? cO
  split <;> simp_all
theorem nT {P:Program} {t:TypeId} {row:List AV} {j:Nat} {k:AV→Prop} {E:Env} {us:List Value} {b o:Nat} (h:gM P t row j k) (hr:bI E row us) (w:World)
    (hc:∀ (m:Nat) (u:Value),us[m]?=some u→cO w.heap b (o + m)=some u) :
    ∃ r u,k r∧VR E r u∧(Instr.loadAt t (.pointer (some ⟨b,o + j,none⟩))).run P w=.ok u w:=by
  have agg:∀ i,P.info? t=some i→bf (Nat.ble (j + i.size) row.length) (gK ((row.drop j).take i.size) fun cs=>k (.agg cs))→(isAgg t).run P w=.ok true w →
      ∃ r u,k r∧VR E r u∧(Instr.loadAt t (.pointer (some ⟨b,o + j,none⟩))).run P w=.ok u w:=by
    intro i hi h ha
    obtain ⟨hl,hk⟩:=ac h
    rw [de] at hk
    have hle:j + i.size≤us.length:=by rw [← hr.1]; exact Nat.le_of_ble_eq_true hl
    have hlen:((us.drop j).take i.size).length=i.size:=by simp; omega
    refine ⟨_,.agg ((us.drop j).take i.size).toArray,hk,bI.aggV (by simpa using (hr.drop j).take i.size),?_⟩
    have hrun:=run_loadCells_list (P:=P) (w:=w) ⟨b,o + j,none⟩ ((us.drop j).take i.size) (fun m v hv=>by
      rw [ey,jA,Nat.add_assoc]
      refine hc _ _ ?_
      rw [List.getElem?_take] at hv
      split at hv
      · rw [List.getElem?_drop] at hv
        exact hv
      · cases hv)
    rw [hlen] at hrun
    unfold Instr.loadAt Instr.sureAddr loadVar
    simp only [Sem.run_bind,Sem.run_pure,Result.andThen_ok,ha,if_true,run_sizeOf hi,hrun]
  unfold gM at h
  split at h
  · rename_i hu
    split at h
    · rename_i i hi
      exact agg i hi h (by rw [jz hu])
    · exact False.elim h
  · rename_i hu
    split at h
    · rename_i i hi
      exact agg i hi h (by rw [jz hu])
    · exact False.elim h
  · rename_i d h1 h2 hu
    split at h
    · rename_i c hcc
      obtain ⟨u,hu',hv⟩:=hr.get hcc
      refine ⟨_,_,h,hv,?_⟩
      have ha:(isAgg t).run P w=.ok false w:=by
        rw [jz hu]
        cases d <;> first | rfl | (exact absurd rfl (h1 _)) | (exact absurd rfl (h2 _ _))
      unfold Instr.loadAt Instr.sureAddr loadVar
      have hcell:w.cell? ⟨b,o + j,none⟩=some u:=by rw [jA]; exact hc _ _ hu'
      simp [ha,hcell]
    · exact False.elim h
  · exact False.elim h
theorem xE:∀ (xs cs:List AV) (m:Nat),(over xs cs)[m]?=if m<cs.length∧m<xs.length then cs[m]? else xs[m]?
  | xs,[],m=>by simp [over]
  | [],c::cs,m=>by simp [over]
  | x::xs,c::cs,0=>by simp [over]
  | x::xs,c::cs,m + 1=>by
    have:=xE xs cs m
    simp only [over,List.getElem?_cons_succ,List.length_cons,this]
    by_cases h:m<cs.length∧m<xs.length
    · rw [if_pos h,if_pos (by omega)]
    · rw [if_neg h,if_neg (by omega)]
theorem qU:∀ (xs cs:List AV),(over xs cs).length=xs.length
  | xs,[]=>by simp [over]
  | [],c::cs=>by simp [over]
  | x::xs,c::cs=>by simp [over,qU xs cs]
theorem nU:∀ (row:List AV) (n:Nat) (cs:List AV) (m:Nat),(splice row n cs)[m]?=if n≤m∧m<n + cs.length∧m<row.length then cs[m - n]? else row[m]?
  | row,0,cs,m=>by
    have:=xE row cs m
    have e:splice row 0 cs=over row cs:=by cases row <;> rfl
    rw [e,this]
    simp
  | [],n + 1,cs,m=>by simp [splice]
  | x::xs,n + 1,cs,0=>by simp [splice]
  | x::xs,n + 1,cs,m + 1=>by
    have:=nU xs n cs m
    simp only [splice,List.getElem?_cons_succ,List.length_cons,this,Nat.add_sub_add_right]
    by_cases h:n≤m∧m<n + cs.length∧m<xs.length
    · rw [if_pos h,if_pos (by omega)]
    · rw [if_neg h,if_neg (by omega)]
theorem fT:∀ (row:List AV) (n:Nat) (cs:List AV),(splice row n cs).length=row.length
  | row,0,cs=>by
    have e:splice row 0 cs=over row cs:=by cases row <;> rfl
    rw [e,qU]
  | [],n + 1,cs=>rfl
  | x::xs,n + 1,cs=>by simp [splice,fT xs n cs]
def bM (us:Array Value) (off:Nat):List Value→Nat→Array Value
  | [],_=>us
  | v::vs,i=>bM (us.setIfInBounds (off + i) v) off vs (i + 1)
theorem b8:∀ (vs:List Value) (us:Array Value) (off i:Nat),(bM us off vs i).size=us.size
  | [],_,_,_=>rfl
  | v::vs,us,off,i=>by rw [bM,b8 vs]; simp
theorem iF:∀ (vs:List Value) (us:Array Value) (off i m:Nat),(bM us off vs i)[m]?=if off + i≤m∧m<off + i + vs.length∧m<us.size then vs[m - (off + i)]? else us[m]?
  | [],us,off,i,m=>by
    rw [if_neg (by simp; omega)]
    rfl
  | v::vs,us,off,i,m=>by
    rw [bM,iF vs]
    simp only [Array.size_setIfInBounds,List.length_cons,Array.getElem?_setIfInBounds]
    by_cases h1:off + (i + 1)≤m∧m<off + (i + 1) + vs.length∧m<us.size
    · rw [if_pos h1,if_pos (by omega),show m - (off + i)=(m - (off + (i + 1))) + 1 by omega]
      rfl
    · rw [if_neg h1]
      by_cases h2:off + i=m
      · subst h2
        rw [if_pos rfl]
        by_cases h3:off + i<us.size
        · rw [if_pos h3,if_pos (by omega)]; simp
        · rw [if_neg h3,if_neg (by omega)]
          simp [Array.getElem?_eq_none (Nat.le_of_not_lt h3)]
      · rw [if_neg h2,if_neg (by omega)]
theorem pm:∀ (vs:List Value) (us:Array Value) (off i:Nat),(vs.zipIdx i).foldl (fun cs (x:Value×Nat)=>cs.setIfInBounds (off + x.2) x.1) us=bM us off vs i
  | [],_,_,_=>rfl
  | v::vs,us,off,i=>by
    rw [List.zipIdx_cons,List.foldl_cons,pm vs]
    rfl
theorem bI.splice {E:Env} {row cs:List AV} {us:Array Value} {vs:List Value} (h:bI E row us.toList) (k:bI E cs vs) (n:Nat):bI E (splice row n cs) (bM us n vs 0).toList:=by
  have hl:row.length=us.size:=by simpa using h.1
  refine ⟨by have:=b8 vs us n 0; simp [fT,this,hl],fun m c u h1 h2=>?_⟩
  rw [nU] at h1
  rw [Array.getElem?_toList,iF] at h2
  simp only [Nat.add_zero] at h2
  by_cases hc:n≤m∧m<n + cs.length∧m<row.length
  · rw [if_pos hc] at h1
    rw [if_pos (by rw [← k.1,← hl]; exact hc)] at h2
    exact k.2 _ c u h1 h2
  · rw [if_neg hc] at h1
    rw [if_neg (by rw [← k.1,← hl]; exact hc)] at h2
    exact h.2 m c u h1 (by rw [Array.getElem?_toList]; exact h2)
def mw:Value→Bool
  | .agg _ | .tuple _=>false
  | _=>true
theorem nV {E:Env} {c:AV} {u:Value} (h:kr c=true) (hv:VR E c u):mw u=true:=by
  cases hv <;> first | rfl | (cases h; done) | (rename_i hp; revert hp; cases u <;> intro hp <;> first | rfl | (cases hp; done))
theorem wt {u:Value} (h:mw u=true):u.cells=#[u]:=by
  cases u <;> first | rfl | (cases h; done)
theorem li {E:Env} {a:AV} {u:Value} {k:List AV→Prop} (h:lb a k) (hv:VR E a u):∃ cs,k cs∧bI E cs u.cells.toList∧∀ c∈cs,kr c=true:=by
  unfold lb at h
  split at h
  · obtain ⟨us,rfl,hs⟩:=hv.aggI
    obtain ⟨h1,h2⟩:=ac h
    exact ⟨_,h2,hs,fun c hc=>List.all_eq_true.1 h1 c hc⟩
  · exact False.elim h
  · exact False.elim h
  · rename_i h1 h2 h3
    have ho:kr a=true:=by
      cases a <;> first | rfl | (exact (h1 _ rfl).elim) | (exact (h2 rfl).elim) | (exact (h3 _ rfl).elim)
    refine ⟨_,h,?_,fun c hc=>by simp at hc; subst hc; exact ho⟩
    rw [wt (nV ho hv)]
    exact .cons hv (.nil E)
theorem cF {P:Program} {e:TypeId} {k:List AV→Prop} (h:b_ P e k):∃ i z cs,P.info? e=some i∧i.zero=some z∧z.cells.size=i.size∧k cs∧∀ E,bI E cs z.cells.toList:=by
  unfold b_ at h
  split at h
  · rename_i i hi
    split at h
    · rename_i z hz
      obtain ⟨h1,h2⟩:=ac h
      rw [gx] at h2
      refine ⟨i,z,_,hi,hz,by simpa using h1,h2,fun E=>⟨by simp,fun m c u h3 h4=>?_⟩⟩
      rw [List.getElem?_map,Option.map_eq_some_iff] at h3
      obtain ⟨y,hy,rfl⟩:=h3
      rw [hy] at h4
      cases h4
      exact qk
    · exact False.elim h
  · exact False.elim h
def Fp (E:Env) (ps:List (Nat×AV)) (qs:List (Nat×Value)):Prop :=
  ps.map (·.1)=qs.map (·.1)∧bI E (ps.map (·.2)) (qs.map (·.2))
theorem jO {E:Env} {place:Nat→Option (Nat×Nat)} {k:List AV→Prop}:∀ {ps:List (Nat×AV)} {qs:List (Nat×Value)} {cells:List AV} {us:Array Value},Fp E ps qs→bI E cells us.toList →
    lQ place cells ps k→∃ cs us',k cs∧bI E cs us'.toList∧us'.size=us.size∧Instr.fill place us qs=some us'
  | [],qs,cells,us,hp,hc,h=>by
    have:qs=[]:=by have:=hp.1; simpa using this.symm
    subst this
    exact ⟨_,us,de.1 h,hc,rfl,rfl⟩
  | (i,x)::ps,qs,cells,us,hp,hc,h=>by
    cases qs with
    | nil=>have:=hp.1; simp at this
    | cons q qs =>
      obtain ⟨i',v⟩:=q
      have h1:=hp.1
      simp only [List.map_cons,List.cons.injEq] at h1
      obtain ⟨rfl,h1⟩:=h1
      have h2:=hp.2
      simp only [List.map_cons] at h2
      obtain ⟨u,us',e,hx,hs⟩:=h2.uncons
      simp only [List.cons.injEq] at e
      obtain ⟨rfl,rfl⟩:=e
      unfold lQ at h
      split at h
      · rename_i off size hpl
        obtain ⟨cs,h,hcs,_⟩:=li h hx
        obtain ⟨hb,h⟩:=ac h
        simp only [Bool.and_eq_true] at hb
        have e1:cs.length=size:=Nat.eq_of_beq_eq_true hb.1
        have e2:off + cs.length≤cells.length:=Nat.le_of_ble_eq_true hb.2
        have e3:cs.length=v.cells.size:=by simpa using hcs.1
        have e4:cells.length=us.size:=by simpa using hc.1
        have hc':=hc.splice hcs off
        obtain ⟨cs',us',hk,hv,hsz,hf⟩:=jO (ps:=ps) (qs:=qs) ⟨h1,hs⟩ hc' h
        refine ⟨cs',us',hk,hv,by rw [hsz,b8],?_⟩
        unfold Instr.fill
        rw [hpl]
        simp only
        rw [if_neg (by simp; omega)]
        have:=pm v.cells.toList us off 0
        rw [← hf]
        congr 1
        rw [← this,← Array.foldl_toList,Array.toList_zipIdx]
      · exact False.elim h
end A
end Go.Proofs.YtnmmknnnggcijaaDoor
