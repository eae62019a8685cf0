/- The evaluator and what its values stand for. Nothing is claimed here of the program. -/
import Derived.Calls
import Derived.Still
import Derived.Below
import Derived.Laws.Cells
import Derived.Laws.Entries
import Derived.ChangeKeysEq
namespace Go.Proofs.YtomahedcdcnnhaaGreatDoor
namespace A
open Go
inductive Key where
 | L (d:Nat)
 | O (i:Nat)
 | S (id i:Nat)
 deriving DecidableEq
def Key.isS:Key→Bool
 | .S _ _=>true
 | _=>false
inductive AV where
 | bad
 | v (x:Value)
 | nilp
 | ptr (k:Key) (i j:Nat)
 | fptr (row:List AV) (j:Nat)
 | nilsl
 | esl
 | sl (rows:List (List AV))
 | mf (id:Nat)
 | msl (id off len ext:Nat)
 | bsl (k:Key) (off len:Nat)
 | nilmap
 | mp (id:Nat)
 | nilfn
 | fn (f:Nat) (first cap:List AV)
 | agg (cs:List AV)
 | tup (vs:List AV)
inductive Ob where
 | arr (fl:Bool) (sz:Nat) (rows:List (List AV))
 | mapo (fl:Bool) (es:List (AV×AV))
 | own (ks:Option (List AV)) (sz:Nat) (cells:List (Option (List (List AV)))) (hole:Option (Nat×AV))
 | dead
structure St where
 t:List AV
 l:List (Nat×List AV)
 o:List Ob
 b:Nat
inductive Ex where
 | nrm
 | ex (id:Nat)
 | ret
structure br where
 esc:List Nat
 ms:List Nat
 bx:List Nat
 st:List Nat
 fz:List Nat:=[]
 dc:List Nat:=[]
 ow:List Nat:=[]
 oh:List Nat:=[]
 cl:List Nat:=[]
 fr:List Nat:=[]
structure Ctx where
 P:Program
 pure:Nat→Bool
 pol:Nat→br
 pcall:Nat→List AV→(AV→Prop)→Prop
 scall:Nat→List AV→List Ob→(AV→List Ob→Prop)→Prop
 loop:br→Code→St→(Ex→St→Prop)→Prop
def aj (_n:Nat):Prop:=False
def B4 (b:Bool) (X Y:Prop):Prop:=match b with | true=>X | false=>Y
def bo (b:Bool) (X:Prop):Prop:=match b with | true=>X | false=>aj 1
def lA (a:AV) (k:AV→Prop):Prop :=
 match a with
 | .bad=>k .bad
 | .v x=>k (.v x)
 | .nilp=>k .nilp
 | .ptr x i j=>k (.ptr x i j)
 | .fptr r j=>k (.fptr r j)
 | .nilsl=>k .nilsl
 | .esl=>k .esl
 | .sl r=>k (.sl r)
 | .mf i=>k (.mf i)
 | .msl i a b c=>k (.msl i a b c)
 | .bsl x a b=>k (.bsl x a b)
 | .nilmap=>k .nilmap
 | .mp i=>k (.mp i)
 | .nilfn=>k .nilfn
 | .fn f a b=>k (.fn f a b)
 | .agg c=>k (.agg c)
 | .tup c=>k (.tup c)
def iY:List AV→(List AV→Prop)→Prop
 | [],k=>k []
 | x::xs,k=>iY xs fun ys=>k (x::ys)
def v_:List AV→(List AV→Prop)→Prop
 | [],k=>k []
 | x::xs,k=>lA x fun y=>v_ xs fun ys=>k (y::ys)
def rF:List AV→Nat→(AV→Prop)→Prop
 | [],_,_=>aj 2
 | x::_,0,k=>k x
 | _::xs,n + 1,k=>rF xs n k
def ud:List AV→Nat→AV→(List AV→Prop)→Prop
 | [],_,_,k=>k []
 | _::xs,0,v,k=>k (v::xs)
 | x::xs,n + 1,v,k=>ud xs n v fun ys=>k (x::ys)
def wG:Value→AV
 | .bool b=>.v (.bool b)
 | .int k n=>.v (.int k n)
 | .float k n=>.v (.float k n)
 | .string s=>.v (.string s)
 | .pointer none=>.nilp
 | .slice none 0 0=>.nilsl
 | .map none=>.nilmap
 | .nilFunc=>.nilfn
 | _=>.bad
def FK:Value→AV
 | .agg cs=>.agg (cs.toList.map wG)
 | x=>wG x
def ky (k : IntKind) (ns : List Int) : List AV := ns.map fun n => .v (.int k n)
/-- What is known of the package-level variables: the cells of tables. -/
def IK (g : Nat) : Option (List AV) :=
  match g with
  | 0 => some (ky .u64 [1, 10, 100, 1000, 10000, 100000, 1000000, 10000000, 100000000, 1000000000, 10000000000, 100000000000, 1000000000000, 10000000000000, 100000000000000, 1000000000000000, 10000000000000000, 100000000000000000, 1000000000000000000, 10000000000000000000])
  | 1 => some (ky .u8 [0, 1, 28, 2, 29, 14, 24, 3, 30, 22, 20, 15, 25, 17, 4, 8, 31, 27, 13, 23, 21, 19, 16, 7, 26, 12, 18, 6, 11, 5, 10, 9])
  | 2 => some (ky .u8 [0, 1, 56, 2, 57, 49, 28, 3, 61, 58, 42, 50, 38, 29, 17, 4, 62, 47, 59, 36, 45, 43, 51, 22, 53, 39, 33, 30, 24, 18, 12, 5, 63, 55, 48, 27, 60, 41, 37, 16, 46, 35, 44, 21, 52, 32, 23, 11, 54, 26, 40, 15, 34, 20, 31, 10, 25, 14, 19, 9, 13, 8, 7, 6])
  | _ => none

def cz (S:St) (x:Operand) (k:AV→Prop):Prop :=
 match x with
 | .tmp t=>rF S.t t k
 | .const c=>lA (FK c) k
 | .func f=>k (.fn f [] [])
 | .global g=>match IK g with | some row=>k (.fptr row 0) | none=>aj 3
def dp (S:St):List Operand→(List AV→Prop)→Prop
 | [],k=>k []
 | x::xs,k=>cz S x fun a=>dp S xs fun as=>k (a::as)
def bd (dst:Option Tmp) (a:AV) (S:St) (K:St→Prop):Prop :=
 match dst with
 | none=>K S
 | some d=>ud S.t d a fun t=>K { t:=t,l:=S.l,o:=S.o,b:=S.b }
def wH (d:Nat) (S:St) (k:Bool→St→Prop):Prop :=
 rF S.t d fun a =>
  match a with
  | .v (.bool b)=>B4 b (ud S.t d (.v (.bool true)) fun t=>k true { t:=t,l:=S.l,o:=S.o,b:=S.b }) (ud S.t d (.v (.bool false)) fun t=>k false { t:=t,l:=S.l,o:=S.o,b:=S.b })
  | _=>aj 4
def pH (c:Operand) (S:St) (k:Bool→St→Prop):Prop :=
 match c with
 | .tmp d=>wH d S k
 | .const (.bool b)=>B4 b (k true S) (k false S)
 | _=>aj 5
def cK:Nat→Key→AV→AV
 | 0,_,_=>.bad
 | n + 1,k,a =>
  match a with
  | .ptr k' i j=>if k'=k then .bad else .ptr k' i j
  | .mf id=>if Key.O id=k then .bad else .mf id
  | .msl id a b c=>if Key.O id=k then .bad else .msl id a b c
  | .bsl k' a b=>if k'=k then .bad else .bsl k' a b
  | .mp id=>if Key.O id=k then .bad else .mp id
  | .fn f x y=>.fn f (x.map (cK n k)) (y.map (cK n k))
  | .agg cs=>.agg (cs.map (cK n k))
  | .tup cs=>.tup (cs.map (cK n k))
  | a=>a
def nf (k:Key):List AV→(List AV→Prop)→Prop
 | [],K=>K []
 | x::xs,K=>lA (cK 4 k x) fun y=>nf k xs fun ys=>K (y::ys)
def nR (k:Key):List (Nat×List AV)→(List (Nat×List AV)→Prop)→Prop
 | [],K=>K []
 | (d,c)::xs,K=>nf k c fun c'=>nR k xs fun ys=>K ((d,c')::ys)
def eB (k:Key):Ob→Ob
 | .arr false sz rows=>.arr false sz (rows.map (List.map (cK 4 k)))
 | .mapo false es=>.mapo false (es.map fun e=>(e.1,cK 4 k e.2))
 | .own ks sz cells (some h)=>.own ks sz cells (some (h.1,cK 4 k h.2))
 | o=>o
def iZ (k:Key):List Ob→(List Ob→Prop)→Prop
 | [],K=>K []
 | .arr true sz rows::xs,K=>iZ k xs fun ys=>K (.arr true sz rows::ys)
 | .dead::xs,K=>iZ k xs fun ys=>K (.dead::ys)
 | .mapo true es::xs,K=>iZ k xs fun ys=>K (.mapo true es::ys)
 | .arr false sz rows::xs,K=>iZ k xs fun ys=>K (.arr false sz (rows.map (List.map (cK 4 k)))::ys)
 | .mapo false es::xs,K=>iZ k xs fun ys=>K (.mapo false (es.map fun e=>(e.1,cK 4 k e.2))::ys)
 | .own ks sz cells none::xs,K=>iZ k xs fun ys=>K (.own ks sz cells none::ys)
 | .own ks sz cells (some h)::xs,K=>iZ k xs fun ys=>K (.own ks sz cells (some (h.1,cK 4 k h.2))::ys)
def de:Nat→AV→Bool
 | 0,_=>false
 | n + 1,a =>
  match a with
  | .v _ | .nilp | .fptr .. | .nilsl | .esl | .sl _ | .nilmap | .nilfn=>true
  | .fn _ x y=>x.all (de n)&&y.all (de n)
  | .agg cs | .tup cs=>cs.all (de n)
  | _=>false
def wa:Nat→AV→Bool
 | 0,_=>false
 | n + 1,a =>
  match a with
  | .ptr (.L _) _ _ | .bsl (.L _) _ _ | .bad=>false
  | .fn _ x y=>x.all (wa n)&&y.all (wa n)
  | .agg cs | .tup cs=>cs.all (wa n)
  | _=>true
def mS:AV→Bool
 | .bad | .agg _ | .tup _=>false
 | _=>true
def wI:Nat→AV→Bool
 | 0,_=>false
 | n + 1,a =>
  match a with
  | .v _ | .nilp | .nilsl | .esl | .nilmap | .nilfn=>true
  | .agg cs | .tup cs=>cs.all (wI n)
  | _=>false
def gx (size:Nat):List (List AV)→Bool
 | []=>true
 | r::_=>Nat.beq r.length size
def nS (a:AV) (k:List AV→Prop):Prop :=
 match a with
 | .agg cs=>bo (cs.all mS) (k cs)
 | .bad | .tup _=>aj 6
 | a=>k [a]
def over:List AV→List AV→List AV
 | xs,[]=>xs
 | [],_=>[]
 | _::xs,c::cs=>c::over xs cs
def splice:List AV→Nat→List AV→List AV
 | row,0,cs=>over row cs
 | [],_ + 1,_=>[]
 | x::xs,n + 1,cs=>x::splice xs n cs
def aG:List (Nat×List AV)→Nat→Option (List AV)
 | [],_=>none
 | (d,c)::xs,e=>if d=e then some c else aG xs e
def qZ:List (Nat×List AV)→Nat→List (Nat×List AV)
 | [],_=>[]
 | (d,c)::xs,e=>if d=e then qZ xs e else (d,c)::qZ xs e
def vG:List (Nat×List AV)→Nat→List AV→List (Nat×List AV)
 | [],_,_=>[]
 | (d,c)::xs,e,c'=>if d=e then (d,c')::xs else (d,c)::vG xs e c'
def pI:List (Nat×List AV)→(List (Nat×List AV)→Prop)→Prop
 | [],k=>k []
 | (d,c)::xs,k=>pI xs fun ys=>k ((d,c)::ys)
def aR:List Ob→(List Ob→Prop)→Prop
 | [],k=>k []
 | x::xs,k=>aR xs fun ys=>k (x::ys)
def yL (S:St) (key:Key) (i:Nat) (k:List AV→Prop):Prop :=
 match key with
 | .L d =>
  match aG S.l d with
  | some row=>match i with | 0=>k row | _ + 1=>aj 7
  | none=>aj 8
 | .O id =>
  match S.o[id]? with
  | some (.arr _ _ rows)=>match rows[i]? with | some row=>k row | none=>aj 9
  | _=>aj 10
 | .S _ _=>aj 11
def GO (S:St) (a:AV) (k:List AV→Nat→Prop):Prop :=
 match a with
 | .ptr key i j=>yL S key i fun row=>k row j
 | .fptr row j=>k row j
 | _=>aj 11
def i6 (P:Program) (t:TypeId) (row:List AV) (j:Nat) (k:AV→Prop):Prop :=
 match P.underlying t with
 | some (.struct _) | some (.array _ _) =>
  match P.info? t with
  | some i=>bo (Nat.ble (j + i.size) row.length) (iY ((row.drop j).take i.size) fun cs=>k (.agg cs))
  | none=>aj 12
 | some _=>match row[j]? with | some c=>k c | none=>aj 13
 | none=>aj 14
def mT (S:St) (a:AV) (cs:List AV) (K:St→Prop):Prop :=
 match a with
 | .ptr (.L d) i j =>
  match aG S.l d with
  | some row =>
   match i with
   | 0=>bo (Nat.ble (j + cs.length) row.length) (iY (splice row j cs) fun row'=>pI (vG S.l d row') fun l=>K { t:=S.t,l:=l,o:=S.o,b:=S.b })
   | _ + 1=>aj 15
  | none=>aj 16
 | .ptr (.O id) i j =>
  match S.o[id]? with
  | some (.arr fl sz rows) =>
   match rows[i]? with
   | some row=>bo (Nat.ble (j + cs.length) row.length&&cs.all (wa 4)) (iY (splice row j cs) fun row'=>aR (S.o.set id (.arr (fl&&cs.all (de 4)) sz (rows.set i row'))) fun o=>K { t:=S.t,l:=S.l,o:=o,b:=S.b })
   | none=>aj 17
  | _=>aj 18
 | _=>aj 19
def IL (op:BinOp) (x y:Value):Option Value :=
 match x,y with
 | .int k a,.int k' b =>
  match op with
  | .add=>if k=k' then some (.int k (k.wrap (a + b))) else none
  | .sub=>if k=k' then some (.int k (k.wrap (a - b))) else none
  | .mul=>if k=k' then some (.int k (k.wrap (a * b))) else none
  | .eql=>if k=k' then some (.bool (a==b)) else none
  | .neq=>if k=k' then some (.bool (a != b)) else none
  | .lss=>if k=k' then some (.bool (a<b)) else none
  | .leq=>if k=k' then some (.bool (a≤b)) else none
  | .gtr=>if k=k' then some (.bool (a>b)) else none
  | .geq=>if k=k' then some (.bool (a≥b)) else none
  | .and=>if k=k' then some (.int k (k.wrap (BitVec.ofInt k.bits a &&& BitVec.ofInt k.bits b).toNat)) else none
  | .or=>if k=k' then some (.int k (k.wrap (BitVec.ofInt k.bits a ||| BitVec.ofInt k.bits b).toNat)) else none
  | .xor=>if k=k' then some (.int k (k.wrap (BitVec.ofInt k.bits a ^^^ BitVec.ofInt k.bits b).toNat)) else none
  | .andNot=>if k=k' then some (.int k (k.wrap (BitVec.ofInt k.bits a &&& ~~~ BitVec.ofInt k.bits b).toNat)) else none
  | _=>none
 | .string a,.string b =>
  match op with
  | .eql=>some (.bool (a.toList==b.toList))
  | .neq=>some (.bool (!(a.toList==b.toList)))
  | .lss=>some (.bool (Op.bytesLess a.toList b.toList))
  | _=>none
 | _,_=>none
def wJ (op:BinOp) (x y:Value) (K:Value→Prop):Prop :=
 match op,x,y with
 | .quo,.int k a,.int k' b=>bo (decide (k=k')&&!(b==0)) (K (.int k (k.wrap (a.tdiv b))))
 | .rem,.int k a,.int k' b=>bo (decide (k=k')&&!(b==0)) (K (.int k (a.tmod b)))
 | .shl,.int k a,.int _ b=>bo (decide (0≤b)) (K (.int k (k.wrap (a * 2 ^ (min b.toNat k.bits)))))
 | .shr,.int k a,.int _ b=>bo (decide (0≤b)) (K (.int k (a.fdiv (2 ^ (min b.toNat k.bits)))))
 | .add,.string a,.string b=>bo (decide (((a.size + b.size:Nat):Int)≤9223372036854775807)) (K (.string (a++b)))
 | _,_,_=>aj 20
def Ly:AV→Option Value
 | .v x=>some x
 | _=>none
def vH:List AV→Option (List Value)
 | []=>some []
 | a::as=>match Ly a,vH as with
  | some x,some xs=>some (x::xs)
  | _,_=>none
def aw {α:Type} (P:Program):Sem α→Option α
 | .pure a=>some a
 | .program k=>aw P (k P)
 | _=>none
def EU (x y:AV):Option Bool :=
 match x,y with
 | .nilp,.nilp | .nilsl,.nilsl | .nilmap,.nilmap | .nilfn,.nilfn=>some true
 | .ptr ..,.nilp | .nilp,.ptr .. | .fptr ..,.nilp | .nilp,.fptr ..=>some false
 | .sl (_::_),.nilsl | .nilsl,.sl (_::_)=>some false
 | .mp _,.nilmap | .nilmap,.mp _=>some false
 | .fn ..,.nilfn | .nilfn,.fn ..=>some false
 | _,_=>none
def B5 (P:Program) (op:BinOp) (t:TypeId) (a b:Bool) (K:AV→Prop):Prop :=
 match P.underlying t with
 | some .bool=>match op with
  | .eql=>K (.v (.bool (a==b)))
  | .neq=>K (.v (.bool (!(a==b))))
  | _=>aj 221
 | _=>aj 222
def zx (P:Program) (op:BinOp) (t:TypeId) (a b:Value) (K:AV→Prop):Prop :=
 match IL op a b with
 | some c=>K (.v c)
 | none=>match a,b with
  | .bool x,.bool y=>B5 P op t x y K
  | a,b=>wJ op a b fun c=>K (.v c)
def GR (op:BinOp) (x y:AV) (K:AV→Prop):Prop :=
 match op with
 | .eql=>match EU x y with | some b=>K (.v (.bool b)) | none=>aj 223
 | .neq=>match EU x y with | some b=>K (.v (.bool (!b))) | none=>aj 224
 | _=>aj 225
def kindOk (P:Program) (t:TypeId) (x y:AV):Bool :=
 match P.underlying t,x,y with
 | some (.pointer _),.nilp,_ | some (.pointer _),_,.nilp=>true
 | some (.slice _),.nilsl,_ | some (.slice _),_,.nilsl=>true
 | some (.map _ _),.nilmap,_ | some (.map _ _),_,.nilmap=>true
 | some (.func _ _ _),.nilfn,_ | some (.func _ _ _),_,.nilfn=>true
 | _,_,_=>false
def jq (P:Program) (op:BinOp) (t:TypeId) (xs ys:List Value):Option Value :=
 aw P (do eqGuard op t (.tmp 0) (.tmp 0) (.agg xs.toArray) (.agg ys.toArray); binOp op t (.agg xs.toArray) (.agg ys.toArray))
def DG (P:Program) (op:BinOp) (t:TypeId) (x y:AV) (K:AV→Prop):Prop :=
 match x,y with
 | .v a,.v b=>zx P op t a b K
 | .agg as,.agg bs =>
  match vH as,vH bs with
  | some xs,some ys =>
   match jq P op t xs ys with
   | some (.bool b)=>K (.v (.bool b))
   | _=>aj 226
  | _,_=>aj 227
 | x,y=>bo (kindOk P t x y) (GR op x y K)
def Lz (op:UnOp) (x:AV) (K:AV→Prop):Prop :=
 match op,x with
 | .not,.v (.bool b)=>K (.v (.bool (!b)))
 | .neg,.v (.int k n)=>K (.v (.int k (k.wrap (0 - n))))
 | .xor,.v (.int k n)=>K (.v (.int k (k.wrap (BitVec.ofInt k.bits (if k.signed then -1 else k.max) ^^^ BitVec.ofInt k.bits n).toNat)))
 | _,_=>aj 28
def cC (P:Program) (e:TypeId) (k:List AV→Prop):Prop :=
 match P.info? e with
 | some i=>match i.zero with
  | some z=>bo (z.cells.size==i.size) (v_ (z.cells.toList.map wG) k)
  | none=>aj 29
 | none=>aj 30
def fq:List Nat→Nat→Bool
 | [],_=>false
 | x::xs,d=>Nat.beq x d||fq xs d
def zy (d:Nat) (S:St) (K:St→Prop):Prop :=
 match aG S.l d with
 | none=>K S
 | some _=>nf (.L d) S.t fun t=>nR (.L d) (qZ S.l d) fun l=>K { t:=t,l:=l,o:=S.o,b:=S.b }
def nT:List Nat→St→(St→Prop)→Prop
 | [],S,K=>K S
 | d::ds,S,K=>zy d S fun S'=>nT ds S' K
def B6 (pl:br) (dst:Option Tmp) (cs:List AV) (S:St) (K:St→Prop):Prop :=
 match dst with
 | none=>aj 31
 | some d=>bo (Nat.blt 0 cs.length) (
  match fq pl.esc d with
  | true=>bo (cs.all (wa 4)) (aR (S.o++[.arr (cs.all (de 4)) cs.length [cs]]) fun o=>ud S.t d (.ptr (.O S.o.length) 0 0) fun t=>K { t:=t,l:=S.l,o:=o,b:=S.b })
  | false=>zy d S fun S'=>nf (.L d) cs fun cs'=>ud S'.t d (.ptr (.L d) 0 0) fun t'=>K { t:=t',l:=(d,cs')::S'.l,o:=S'.o,b:=S'.b })
def oP (place:Nat→Option (Nat×Nat)):List AV→List (Nat×AV)→(List AV→Prop)→Prop
 | cells,[],k=>iY cells k
 | cells,(i,x)::rest,k =>
  match place i with
  | some (off,size)=>nS x fun cs=>bo (Nat.beq cs.length size&&Nat.ble (off + cs.length) cells.length) (oP place (splice cells off cs) rest k)
  | none=>aj 32
def AK (P:Program) (fs:Array Field) (i:Nat):Option (Nat×Nat) :=
 match fs[i]? with
 | some f=>match P.info? f.type with
  | some fi=>some (f.offset,fi.size)
  | none=>none
 | none=>none
def wL (P:Program) (t:TypeId) (parts:List (Nat×AV)) (k:AV→Prop):Prop :=
 cC P t fun z =>
 match P.underlying t with
 | some (.struct fs)=>bo (fs.toList.all fun f=>(P.info? f.type).isSome) (oP (AK P fs) z parts fun cs=>k (.agg cs))
 | some (.array _ e)=>match P.info? e with
  | some i=>oP (fun n=>some (n * i.size,i.size)) z parts fun cs=>k (.agg cs)
  | none=>aj 33
 | _=>aj 34
def sJ (n:Nat):Nat→List AV→List (List AV)
 | 0,_=>[]
 | m + 1,xs=>xs.take n::sJ n m (xs.drop n)
def gh:List (List AV)→(List (List AV)→Prop)→Prop
 | [],k=>k []
 | x::xs,k=>iY x fun y=>gh xs fun ys=>k (y::ys)
def kh (P:Program) (pl:br) (dst:Option Tmp) (t:TypeId) (len:Nat) (parts:List (Nat×AV)) (S:St) (K:St→Prop):Prop :=
 match len with
 | 0=>match P.underlying t with
  | some (.slice e)=>match P.info? e with
   | some _=>bo (parts.isEmpty) (bd dst .esl S K)
   | none=>aj 35
  | _=>aj 36
 | len + 1 =>
  match P.underlying t with
  | some (.slice e)=>match P.info? e with
   | some i=>cC P e fun z=>bo (Nat.blt 0 i.size&&Nat.ble ((len + 1) * i.size) 16777216) (oP (fun n=>some (n * i.size,i.size)) (List.replicate (len + 1) z).flatten parts fun cs =>
     match fq pl.ms (dst.getD 0)||!(cs.all (de 4)) with
     | false=>gh (sJ i.size (len + 1) cs) fun rows=>bd dst (.sl rows) S K
     | true=>bo (cs.all (wa 4)) (gh (sJ i.size (len + 1) cs) fun rows=>aR (S.o++[.arr (cs.all (de 4)) i.size rows]) fun o=>bd dst (.mf S.o.length) { t:=S.t,l:=S.l,o:=o,b:=S.b } K))
   | none=>aj 37
  | _=>aj 38
def pJ (P:Program) (pl:br) (dst:Option Tmp) (t:TypeId) (len:Nat) (parts:List (Nat×AV)) (k:AV→Prop):Prop :=
 match len with
 | 0=>match P.underlying t with
  | some (.slice e)=>match P.info? e with
   | some _=>bo (parts.isEmpty) (k .esl)
   | none=>aj 213
  | _=>aj 214
 | len + 1 =>
  match P.underlying t with
  | some (.slice e)=>match P.info? e with
   | some i=>cC P e fun z=>bo (Nat.blt 0 i.size&&Nat.ble ((len + 1) * i.size) 16777216) (oP (fun n=>some (n * i.size,i.size)) (List.replicate (len + 1) z).flatten parts fun cs =>
     bo (!(fq pl.ms (dst.getD 0))&&cs.all (de 4)) (gh (sJ i.size (len + 1) cs) fun rows=>k (.sl rows)))
   | none=>aj 215
  | _=>aj 216
def GT (P:Program) (t:TypeId) (S:St) (x:AV) (k:AV→Prop):Prop :=
 match P.underlying t with
 | some (.slice _)=>match x with
  | .nilsl | .esl=>k (.v (.int .i64 0))
  | .sl rows=>k (.v (.int .i64 rows.length))
  | .mf id=>match S.o[id]? with | some (.arr _ _ rows)=>k (.v (.int .i64 rows.length)) | some (.own none _ cells _)=>k (.v (.int .i64 cells.length)) | _=>aj 39
  | .msl _ _ len _=>k (.v (.int .i64 len))
  | .bsl _ _ len=>k (.v (.int .i64 len))
  | _=>aj 40
 | some .string=>match x with
  | .v (.string s)=>k (.v (.int .i64 s.size))
  | _=>aj 41
 | some (.array n _)=>k (.v (.int .i64 n))
 | some (.map _ _)=>match x with
  | .nilmap=>k (.v (.int .i64 0))
  | .mp id=>match S.o[id]? with | some (.mapo _ es)=>k (.v (.int .i64 es.length)) | _=>aj 42
  | _=>aj 43
 | _=>aj 44
def kG (size:Nat) (S:St) (x:AV) (k:Bool→List (List AV)→Prop):Prop :=
 match x with
 | .nilsl | .esl=>k true []
 | .sl rows=>bo (gx size rows) (k true rows)
 | .mf id=>match S.o[id]? with | some (.arr fl sz rows)=>bo (Nat.beq sz size) (k fl rows) | _=>aj 45
 | .msl id off len _=>match S.o[id]? with | some (.arr fl sz rows)=>bo (Nat.beq sz size) (k fl ((rows.drop off).take len)) | _=>aj 46
 | .v (.string s)=>bo (Nat.beq size 1) (k true (s.data.toList.map fun b=>[.v (.int .u8 b.toNat)]))
 | .bsl (.O id) off len=>yL S (.O id) 0 fun row=>bo (Nat.beq size 1&&Nat.ble (off + len) row.length&&((row.drop off).take len).all (wI 2)) (k true (((row.drop off).take len).map fun c=>[c]))
 | _=>aj 47
def wM (S:St) (id:Nat):Bool:=Nat.blt id S.b
def q0 (S:St) (id:Nat) (ob:Ob) (k:St→Nat→Prop):Prop :=
 nf (.O id) S.t fun t=>nR (.O id) S.l fun l=>iZ (.O id) S.o fun o =>
  match wM S id with
  | false=>aR (o.set id (eB (.O id) ob)) fun o'=>k { t:=t,l:=l,o:=o',b:=S.b } id
  | true=>aR (o.set id .dead++[eB (.O id) ob]) fun o'=>k { t:=t,l:=l,o:=o',b:=S.b } o.length
def bh (src:List (List AV)):Bool:=src.all fun r=>r.all mS
def Jx (i:TypeInfo):Bool:=match i.zero with | some z=>Nat.beq z.cells.size i.size | none=>false
def mo (P:Program) (ts:List TypeId) (base x:AV) (S:St) (k:St→AV→Prop):Prop :=
 match ts with
 | [t0,t1] =>
  match P.underlying t0 with
  | some (.slice e) =>
   match P.info? e with
   | some i=>bo (Nat.blt 0 i.size&&Nat.blt 0 i.bytes&&Jx i&&(match P.underlying t1 with | some (.slice _) | some .string=>true | _=>false)) (kG i.size S x fun fl src=>bo (bh src) (
     match base with
     | .nilsl | .esl=>bo (Nat.ble (src.length * i.bytes) 140737488355328) (aR (S.o++[.arr fl i.size src]) fun o=>k { t:=S.t,l:=S.l,o:=o,b:=S.b } (.mf S.o.length))
     | .mf id=>match S.o[id]? with
      | some (.arr fl' sz rows)=>bo (Nat.beq sz i.size&&Nat.ble ((rows.length + src.length) * i.bytes) 140737488355328&&(fl||!fl')) (q0 S id (.arr (fl'&&fl) sz (rows++src)) fun S' id'=>k S' (.mf id'))
      | _=>aj 48
     | .msl id off len ext=>match S.o[id]? with
      | some (.arr fl' sz rows)=>bo (Nat.beq sz i.size&&(fl||!fl')) (
       match Nat.ble src.length ext with
       | true=>bo (Nat.ble (off + len + ext) rows.length) (aR (S.o.set id (.arr (fl'&&fl) sz (rows.take (off + len)++(src++rows.drop (off + len + src.length))))) fun o=>k { t:=S.t,l:=S.l,o:=o,b:=S.b } (.msl id off (len + src.length) (ext - src.length)))
       | false=>bo (Nat.ble ((len + src.length) * i.bytes) 140737488355328) (q0 S id (.arr (fl'&&fl) sz ((rows.drop off).take len++src)) fun S' id'=>k S' (.mf id')))
      | _=>aj 49
     | _=>aj 50))
   | none=>aj 51
  | _=>aj 52
 | _=>aj 53
def M7:St:={ t:=[],l:=[],o:=[],b:=0 }
def lB (P:Program) (ts:List TypeId) (base x:AV) (k:AV→Prop):Prop :=
 match ts with
 | [t0,t1] =>
  match P.underlying t0 with
  | some (.slice e) =>
   match P.info? e with
   | some i=>bo (Nat.blt 0 i.size&&Nat.blt 0 i.bytes&&Jx i&&(match P.underlying t1 with | some (.slice _) | some .string=>true | _=>false)) (kG i.size M7 x fun fl src=>bo (fl&&bh src&&Nat.ble (src.length * i.bytes) 140737488355328) (
     match base with
     | .nilsl | .esl=>k (.sl src)
     | _=>aj 254))
   | none=>aj 255
  | _=>aj 256
 | _=>aj 257
def lD (P:Program) (ts:List TypeId) (base:AV) (n:Int) (S:St) (k:St→AV→Prop):Prop :=
 match ts with
 | [t0,t1] =>
  match P.underlying t0,P.underlying t1 with
  | some (.slice e),some (.int _) =>
   match P.info? e with
   | some i=>bo (Nat.blt 0 i.size&&Nat.blt 0 i.bytes&&decide (0<n)&&decide (n * i.bytes≤140737488355328)&&decide (n≤140737488355328)) (cC P e fun z=>bo (z.all (de 2)) (
     match base with
     | .nilsl | .esl=>aR (S.o++[.arr true i.size (List.replicate n.toNat z)]) fun o=>k { t:=S.t,l:=S.l,o:=o,b:=S.b } (.mf S.o.length)
     | _=>aj 250))
   | none=>aj 251
  | _,_=>aj 252
 | _=>aj 253
def GU (P:Program) (ts:List TypeId) (x:AV) (k:AV→Prop):Prop :=
 match ts with
 | t::_ =>
  match P.underlying t with
  | some (.slice _)=>match x with
   | .nilsl | .esl=>k (.v (.int .i64 0))
   | _=>aj 240
  | _=>aj 241
 | []=>aj 242
def LA:AV→Bool
 | .v _=>true
 | _=>false
def u4 (P:Program) (ts:List TypeId) (x y:AV) (M:St) (k:AV→St→Prop):Prop :=
 match ts with
 | t::_ =>
  match P.underlying t with
  | some (.slice e) =>
   match P.info? e with
   | some i=>bo (Nat.blt 0 i.size) (kG i.size M y fun fl src=>bo (bh src&&!(LA y)) (
     match x with
     | .mf id=>match M.o[id]? with
      | some (.arr fl' sz rows)=>bo (Nat.beq sz i.size) (aR (M.o.set id (.arr (fl'&&fl) sz (src.take rows.length++rows.drop src.length))) fun o=>k (.v (.int .i64 ((min src.length rows.length:Nat):Int))) { t:=M.t,l:=M.l,o:=o,b:=M.b })
      | _=>aj 243
     | .msl id off len _=>match M.o[id]? with
      | some (.arr fl' sz rows)=>bo (Nat.beq sz i.size&&Nat.ble (off + len) rows.length) (aR (M.o.set id (.arr (fl'&&fl) sz (rows.take off++(src.take len++rows.drop (off + min src.length len))))) fun o=>k (.v (.int .i64 ((min src.length len:Nat):Int))) { t:=M.t,l:=M.l,o:=o,b:=M.b })
      | _=>aj 244
     | _=>aj 245))
   | none=>aj 246
  | _=>aj 247
 | []=>aj 248
def ue (P:Program) (ts:List TypeId) (x:AV) (S:St) (K:St→Prop):Prop :=
 match ts with
 | t::_ =>
  match P.underlying t with
  | some (.slice e) =>
   match P.info? e with
   | some i=>bo (Nat.blt 0 i.size) (
     match x with
     | .nilsl | .esl=>K S
     | .msl id off len _=>match S.o[id]? with
      | some (.arr fl sz rows)=>bo (Nat.beq sz i.size&&Nat.ble (off + len) rows.length) (cC P e fun z=>bo (z.all (de 2)&&z.all mS) (aR (S.o.set id (.arr (fl&&true) sz (rows.take off++(List.replicate len z++rows.drop (off + len))))) fun o=>K { t:=S.t,l:=S.l,o:=o,b:=S.b }))
      | _=>aj 267
     | _=>aj 268)
   | none=>aj 269
  | _=>aj 270
 | []=>aj 271
def intOf (a:AV) (k:Int→Prop):Prop :=
 match a with
 | .v (.int _ n)=>k n
 | _=>aj 60
def a8 (P:Program) (t:TypeId) (l c:AV) (S:St) (k:St→AV→Prop):Prop :=
 match P.underlying t with
 | some (.slice e) =>
  match P.info? e with
  | some i=>intOf l fun l=>intOf c fun c=>bo (decide (0≤l)&&decide (l≤c)&&decide (i.bytes * c≤140737488355328)&&decide (c≤140737488355328)&&Nat.blt 0 i.size)
    (cC P e fun z=>bo (z.all (de 2)) (aR (S.o++[.arr true i.size (List.replicate l.toNat z)]) fun o=>k { t:=S.t,l:=S.l,o:=o,b:=S.b } (.mf S.o.length)))
  | none=>aj 61
 | _=>aj 62
def uf (len cap:Nat) (lo hi mx:Option Int) (k:Nat→Nat→Nat→Prop):Prop :=
 match lo,hi,mx with
 | none,none,none=>k 0 len cap
 | some l,none,none=>bo (decide (0≤l)&&decide (l≤len)) (k l.toNat len cap)
 | none,some h,none=>bo (decide (0≤h)&&decide (h≤cap)) (k 0 h.toNat cap)
 | some l,some h,none=>bo (decide (0≤l)&&decide (l≤h)&&decide (h≤cap)) (k l.toNat h.toNat cap)
 | none,some h,some m=>bo (decide (0≤h)&&decide (h≤m)&&decide (m≤cap)) (k 0 h.toNat m.toNat)
 | some l,some h,some m=>bo (decide (0≤l)&&decide (l≤h)&&decide (h≤m)&&decide (m≤cap)) (k l.toNat h.toNat m.toNat)
 | _,_,_=>aj 63
def jr:Option Int→Bool
 | some (.ofNat 0)=>true
 | _=>false
def jJ (P:Program) (t:TypeId) (x:AV) (lo hi mx:Option Int) (S:St) (k:AV→Prop):Prop :=
 match P.underlying t with
 | some .string =>
  match x,mx with
  | .v (.string s),none=>uf s.size s.size lo hi none fun l h _=>k (.v (.string (s.extract l h)))
  | _,_=>aj 64
 | some (.slice e) =>
  match P.info? e with
  | some i=>bo (Nat.blt 0 i.size) (
   match x with
   | .nilsl=>uf 0 0 lo hi mx fun _ _ _=>k .nilsl
   | .esl=>uf 0 0 lo hi mx fun _ _ _=>k .esl
   | .sl rows=>bo (gx i.size rows) (uf rows.length rows.length lo hi mx fun l h _ =>
    match lo,hi,jr hi&&jr mx with
    | _,_,true=>k .esl
    | none,none,_=>k (.sl rows)
    | _,none,_=>k (.sl (rows.drop l))
    | none,_,_=>k (.sl (rows.take h))
    | _,_,_=>k (.sl ((rows.drop l).take (h - l))))
   | .mf id=>match S.o[id]? with
    | some (.arr _ sz rows)=>bo (Nat.beq sz i.size) (uf rows.length rows.length lo hi mx fun l h m =>
     match lo,hi,jr hi&&jr mx with
     | _,_,true=>k .esl
     | none,none,_=>k (.mf id)
     | _,none,_=>k (.msl id l (rows.length - l) 0)
     | _,_,_=>k (.msl id l (h - l) (m - h)))
    | _=>aj 65
   | .msl id off len ext=>match S.o[id]? with
    | some (.arr _ sz _)=>bo (Nat.beq sz i.size) (uf len (len + ext) lo hi mx fun l h m =>
     match jr hi&&jr mx with
     | true=>k .esl
     | false=>k (.msl id (l + off) (h - l) (m - h)))
    | _=>aj 66
   | _=>aj 67)
  | none=>aj 68
 | some (.array n e) =>
  match P.info? e,x with
  | some i,.ptr key 0 j=>bo (Nat.beq i.size 1) (uf n n lo hi mx fun l h m=>bo (Nat.blt l m) (k (.bsl key (j + l) (h - l))))
  | _,_=>aj 263
 | _=>aj 69
def iy (P:Program) (t:TypeId) (x ix:AV) (S:St) (k:AV→Prop):Prop :=
 intOf ix fun i =>
 match P.underlying t with
 | some (.slice e) =>
  match P.info? e with
  | some inf =>
   match x with
   | .sl rows=>match (if 0≤i then rows[i.toNat]? else none) with
    | some row=>bo (Nat.beq row.length inf.size&&Nat.blt 0 inf.size) (k (.fptr row 0))
    | none=>aj 70
   | .mf id=>match S.o[id]? with
    | some (.arr _ _ rows)=>match (if 0≤i then rows[i.toNat]? else none) with
     | some row=>bo (Nat.beq row.length inf.size&&Nat.blt 0 inf.size) (k (.ptr (.O id) i.toNat 0))
     | none=>aj 71
    | some (.own none _ cells _)=>bo (decide (0≤i)&&Nat.blt i.toNat cells.length&&Nat.beq inf.size 1) (k (.ptr (.O id) i.toNat 0))
    | _=>aj 72
   | .msl id off len _=>match S.o[id]? with
    | some (.arr _ _ rows)=>bo (decide (0≤i)&&decide (i<len)) (match rows[i.toNat + off]? with
     | some row=>bo (Nat.beq row.length inf.size&&Nat.blt 0 inf.size) (k (.ptr (.O id) (i.toNat + off) 0))
     | none=>aj 73)
    | _=>aj 74
   | _=>aj 75
  | none=>aj 76
 | some (.array len e) =>
  match P.info? e with
  | some inf=>bo (decide (0≤i)&&decide (i<len)) (
   match x with
   | .ptr key a j=>k (.ptr key a (i.toNat * inf.size + j))
   | .fptr row j=>k (.fptr row (i.toNat * inf.size + j))
   | _=>aj 77)
  | none=>aj 78
 | _=>aj 79
def rG (P:Program) (t:TypeId) (x ix:AV) (k:AV→Prop):Prop :=
 intOf ix fun i =>
 match P.underlying t,x with
 | some (.array len e),.agg cs=>match P.info? e with
  | some inf=>bo (decide (0≤i)&&decide (i<len)) (i6 P e cs (i.toNat * inf.size) k)
  | none=>aj 80
 | some .string,.v (.string s)=>match (if 0≤i then s[i.toNat]? else none) with
  | some b=>k (.v (.int .u8 b.toNat))
  | none=>aj 81
 | _,_=>aj 82
def lE (P:Program) (t:TypeId) (x:AV) (f:Nat) (k:AV→Prop):Prop :=
 match P.underlying t with
 | some (.struct fs)=>match fs[f]? with
  | some fl=>match P.info? fl.type with
   | some inf=>bo (Nat.blt 0 inf.size) (match x with
    | .ptr key i j=>k (.ptr key i (j + fl.offset))
    | .fptr row j=>k (.fptr row (j + fl.offset))
    | _=>aj 83)
   | none=>aj 84
  | none=>aj 85
 | _=>aj 86
def wN (P:Program) (t:TypeId) (x:AV) (f:Nat) (k:AV→Prop):Prop :=
 match P.underlying t,x with
 | some (.struct fs),.agg cs=>match fs[f]? with
  | some fl=>i6 P fl.type cs fl.offset k
  | none=>aj 87
 | _,_=>aj 88
def bytesOf:List (List AV)→Option (List UInt8)
 | []=>some []
 | [.v (.int .u8 n)]::rs=>match bytesOf rs with | some bs=>some (UInt8.ofNat n.toNat::bs) | none=>none
 | _=>none
def pK (P:Program) (src dst:TypeId) (x:AV) (k:AV→Prop):Prop :=
 match P.underlying src,P.underlying dst with
 | some _,some (.int kd)=>match x with | .v (.int _ n)=>k (.v (.int kd (kd.wrap n))) | _=>aj 89
 | some .string,some .string=>match x with | .v (.string s)=>k (.v (.string s)) | _=>aj 90
 | _,_=>aj 92
def iF (P:Program) (src dst:TypeId) (x:AV) (S:St) (k:AV→Prop):Prop :=
 match P.underlying src,P.underlying dst with
 | some (.slice e),some .string =>
  match P.underlying e with
  | some (.int .u8)=>bo (!(LA x)) (kG 1 S x fun _ rows=>match bytesOf rows with | some bs=>k (.v (.string ⟨bs.toArray⟩)) | none=>aj 261)
  | _=>aj 262
 | _,_=>pK P src dst x k
def DI (S:St) (x:AV):Bool :=
 match x with
 | .mf id=>match S.o[id]? with
  | some (.arr _ _ (_::_))=>true
  | _=>false
 | .msl _ _ len ext=>Nat.blt 0 (len + ext)
 | _=>false
def B7 (P:Program) (op:BinOp) (t:TypeId) (x y:AV) (S:St) (k:AV→Prop):Prop :=
 match DI S x,y with
 | true,.nilsl=>match P.underlying t,op with
  | some (.slice _),.eql=>k (.v (.bool false))
  | some (.slice _),.neq=>k (.v (.bool true))
  | _,_=>aj 265
 | _,_=>DG P op t x y k
def ki {α β:Type} (f:α→Option β):List α→Option (List β)
 | []=>some []
 | x::xs=>match f x,ki f xs with
  | some y,some ys=>some (y::ys)
  | _,_=>none
def ug (f:AV→Option AV) (fl:Bool) (rows:List (List AV)):Option (List (List AV)) :=
 match fl with
 | true=>some rows
 | false=>ki (ki f) rows
def Jy (f:AV→Option AV) (fl:Bool) (row:List AV):Option (List AV) :=
 match fl with
 | true=>some row
 | false=>ki f row
def EV (o:List Ob):Nat→AV→Option AV
 | 0,_=>none
 | n + 1,a =>
  match a with
  | .v x=>some (.v x)
  | .nilp=>some .nilp
  | .fptr r j=>some (.fptr r j)
  | .nilsl=>some .nilsl
  | .esl=>some (.sl [])
  | .sl r=>some (.sl r)
  | .nilmap=>some .nilmap
  | .nilfn=>some .nilfn
  | .mf id=>match o[id]? with
   | some (.arr fl _ rows)=>match ug (EV o n) fl rows with | some r=>some (.sl r) | none=>none
   | _=>none
  | .msl id off len _=>match o[id]? with
   | some (.arr fl _ rows)=>match ug (EV o n) fl ((rows.drop off).take len) with | some r=>some (.sl r) | none=>none
   | _=>none
  | .ptr (.O id) i j=>match o[id]? with
   | some (.arr fl _ rows)=>match rows[i]? with
    | some row=>match Jy (EV o n) fl row with | some r=>some (.fptr r j) | none=>none
    | none=>none
   | _=>none
  | .fn f x y=>match ki (EV o n) x,ki (EV o n) y with | some x',some y'=>some (.fn f x' y') | _,_=>none
  | .agg cs=>match ki (EV o n) cs with | some r=>some (.agg r) | none=>none
  | .tup cs=>match ki (EV o n) cs with | some r=>some (.tup r) | none=>none
  | _=>none
def dH (o:List Ob):Nat→AV→List Nat
 | 0,_=>[]
 | n + 1,a =>
  match a with
  | .mf id=>id::(match o[id]? with | some (.arr false _ rows)=>rows.flatten.flatMap (dH o n) | _=>[])
  | .msl id off len _=>id::(match o[id]? with | some (.arr false _ rows)=>((rows.drop off).take len).flatten.flatMap (dH o n) | _=>[])
  | .ptr (.O id) i _=>id::(match o[id]? with | some (.arr false _ rows)=>(match rows[i]? with | some row=>row.flatMap (dH o n) | none=>[]) | _=>[])
  | .fn _ x y=>x.flatMap (dH o n)++y.flatMap (dH o n)
  | .agg cs | .tup cs=>cs.flatMap (dH o n)
  | _=>[]
def AL (o:List Ob) (a:AV) (k:AV→Prop):Prop :=
 match EV o 6 a with
 | some b=>lA b k
 | none=>aj 96
def jt (o:List Ob):List AV→(List AV→Prop)→Prop
 | [],k=>k []
 | a::as,k=>AL o a fun b=>jt o as fun bs=>k (b::bs)
def gK:List Nat→St→(St→Prop)→Prop
 | [],S,K=>K S
 | id::ids,S,K=>nf (.O id) S.t fun t=>nR (.O id) S.l fun l=>iZ (.O id) S.o fun o=>aR (o.set id .dead) fun o'=>gK ids { t:=t,l:=l,o:=o',b:=S.b } K
def bH:List Ob→List Ob→Nat→List Nat
 | .dead::xs,_::ys,n=>bH xs ys (n + 1)
 | _::xs,.dead::ys,n=>n::bH xs ys (n + 1)
 | _::xs,_::ys,n=>bH xs ys (n + 1)
 | _,_,_=>[]
def kz:List Nat→List AV→List (Nat×List AV)→(List AV→List (Nat×List AV)→Prop)→Prop
 | [],t,l,K=>K t l
 | id::ids,t,l,K=>nf (.O id) t fun t'=>nR (.O id) l fun l'=>kz ids t' l' K
def zA (C:Ctx) (f:AV) (args:List AV) (S:St) (k:St→AV→Prop):Prop :=
 match f with
 | .fn fid first cap =>
  match C.pure fid with
  | true=>jt S.o (first++args++cap) fun as=>C.pcall fid as fun r =>
    match wI 4 r with
    | true=>k S r
    | false=>gK ((first++args++cap).flatMap (dH S.o 6)) S fun S'=>k S' r
  | false=>bo ((first++args++cap).all (wa 4)) (C.scall fid (first++args++cap) S.o fun r o'=>kz (bH S.o o' 0) S.t S.l fun t l=>k { t:=t,l:=l,o:=o',b:=S.b } r)
 | _=>aj 97
def yE:AV→Option Value
 | .v x=>some x
 | .agg cs=>match vH cs with | some xs=>some (.agg xs.toArray) | none=>none
 | _=>none
def keysOf:List (AV×AV)→Option (List MapEntry)
 | []=>some []
 | (k,_)::es=>match yE k,keysOf es with
  | some x,some xs=>some ({ key:=x,val:=.bool false,born:=0 }::xs)
  | _,_=>none
def gy (P:Program) (kt:TypeId) (key:AV) (es:List (AV×AV)) (k:Value→Option Nat→Prop):Prop :=
 match yE key,keysOf es with
 | some x,some xs =>
  match aw P (Instr.checkKey xs.isEmpty 10000 kt x),aw P (Instr.findKey kt x xs) with
  | some _,some r=>k x (r.map (·.1))
  | _,_=>aj 98
 | _,_=>aj 99
def pL (ok:Bool) (x:AV) (b:Bool) (k:AV→Prop):Prop :=
 match ok with
 | true=>k (.tup [x,.v (.bool b)])
 | false=>k x
def i7 (P:Program) (e:TypeId) (ok:Bool) (k:AV→Prop):Prop :=
 match P.info? e with
 | some i=>match i.zero with
  | some z=>lA (FK z) fun z=>pL ok z false k
  | none=>aj 230
 | none=>aj 231
def kT (P:Program) (e:TypeId) (ok:Bool) (es:List (AV×AV)) (r:Option Nat) (k:AV→Prop):Prop :=
 match r with
 | some i=>match es[i]? with
  | some en=>pL ok en.2 true k
  | none=>aj 232
 | none=>i7 P e ok k
def qE (P:Program) (t:TypeId) (m key:AV) (ok:Bool) (S:St) (k:AV→Prop):Prop :=
 match P.underlying t with
 | some (.map kt e) =>
  match m with
  | .nilmap=>gy P kt key [] fun _ _=>i7 P e ok k
  | .mp id=>match S.o[id]? with
   | some (.mapo _ es)=>gy P kt key es fun _ r=>kT P e ok es r k
   | _=>aj 233
  | _=>aj 234
 | _=>aj 235
def wO (P:Program) (kt:TypeId) (x:Value):Bool:=match aw P (Instr.checkKey false 10000 kt x) with | some _=>true | none=>false
def fe (P:Program) (t:TypeId) (m key x:AV) (S:St) (K:St→Prop):Prop :=
 match P.underlying t with
 | some (.map kt _) =>
  match m with
  | .mp id=>match S.o[id]? with
   | some (.mapo fl es)=>bo (wa 4 x) (gy P kt key es fun kv r=>bo (wO P kt kv) (
     match r with
     | some i=>bo (Instr.sameBits 10000 ((es[i]?.bind fun e=>yE e.1).getD (.bool false)) kv) (aR (S.o.set id (.mapo (fl&&de 4 x) (es.set i (key,x)))) fun o=>K { t:=S.t,l:=S.l,o:=o,b:=S.b })
     | none=>aR (S.o.set id (.mapo (fl&&de 4 x) (es++[(key,x)]))) fun o=>K { t:=S.t,l:=S.l,o:=o,b:=S.b }))
   | _=>aj 106
  | _=>aj 107
 | _=>aj 108
def pop (C:Ctx) (pl:br) (o:Oper) (vs:List AV) (k:AV→Prop):Prop :=
 match o.op,vs with
 | .move _,[a]=>k a
 | .assign _,[a]=>k a
 | .pick _ _ _,[.v (.bool c),a,b]=>B4 c (k a) (k b)
 | .build t parts,vs=>bo (Nat.beq parts.size vs.length) (wL C.P t ((parts.toList.map (·.1)).zip vs) k)
 | .buildSlice t len parts,vs=>bo (Nat.beq parts.size vs.length) (pJ C.P pl o.dst t len ((parts.toList.map (·.1)).zip vs) k)
 | .nilCheck _,[.ptr x i j]=>k (.ptr x i j)
 | .nilCheck _,[.fptr r j]=>k (.fptr r j)
 | .nilCheck _,[.fn f x y]=>k (.fn f x y)
 | .binOp op t _ _ _,[a,b]=>DG C.P op t a b k
 | .unOp op _ _,[a]=>Lz op a k
 | .makeFunc f first cap,vs=>match f with
  | .func fid=>bo (Nat.beq (first.size + cap.size) vs.length) (iY (vs.take first.size) fun xs=>iY (vs.drop first.size) fun ys=>k (.fn fid xs ys))
  | _=>aj 201
 | .fieldAddr t _ f,[a]=>lE C.P t a f k
 | .field t _ f,[a]=>wN C.P t a f k
 | .index t _ _,[a,i]=>rG C.P t a i k
 | .extract _ ix,[.tup xs]=>rF xs ix k
 | .call c,vs=>match c.callee,vs with
  | .builtin .min,[.v (.int a m),.v (.int b n)]=>bo (decide (a=b)) (k (.v (.int a (if n<m then n else m))))
  | .builtin .max,[.v (.int a m),.v (.int b n)]=>bo (decide (a=b)) (k (.v (.int a (if n>m then n else m))))
  | .builtin .cap,[x]=>GU C.P c.argTypes.toList x k
  | _,_=>aj 204
 | _,_=>aj 207
def sK (C:Ctx) (o:Oper) (vs:List AV) (M:St) (k:AV→Prop):Prop :=
 match o.op,vs with
 | .load t _,[p]=>GO M p fun row j=>i6 C.P t row j k
 | .convert src dst _,[a]=>iF C.P src dst a M k
 | .slice t _ lo hi mx,a::rest =>
  match lo,hi,mx,rest with
  | none,none,none,[]=>jJ C.P t a none none none M k
  | some _,none,none,[x]=>intOf x fun x=>jJ C.P t a (some x) none none M k
  | none,some _,none,[y]=>intOf y fun y=>jJ C.P t a none (some y) none M k
  | some _,some _,none,[x,y]=>intOf x fun x=>intOf y fun y=>jJ C.P t a (some x) (some y) none M k
  | none,some _,some _,[y,z]=>intOf y fun y=>intOf z fun z=>jJ C.P t a none (some y) (some z) M k
  | some _,some _,some _,[x,y,z]=>intOf x fun x=>intOf y fun y=>intOf z fun z=>jJ C.P t a (some x) (some y) (some z) M k
  | _,_,_,_=>aj 202
 | .binOp op t _ _ _,[a,b]=>B7 C.P op t a b M k
 | .indexAddr t _ _,[a,i]=>iy C.P t a i M k
 | .lookup t _ _ ok,[m,key]=>qE C.P t m key ok M k
 | .call c,vs=>match c.callee with
  | .builtin b=>match b,vs with
   | .len,[x]=>match c.argTypes.toList with | t::_=>GT C.P t M x k | []=>aj 203
   | _,_=>aj 204
  | .value _=>match vs with
   | .fn fid first cap::as=>bo (C.pure fid) (jt M.o (first++as++cap) fun bs=>C.pcall fid bs fun r=>bo (wI 4 r||((first++as++cap).flatMap (dH M.o 6)).isEmpty) (k r))
   | _=>aj 205
  | .invoke _ _=>aj 206
 | _,_=>aj 207
def Kc (C:Ctx) (o:Oper) (vs:List AV) (k:AV→Prop):Prop :=
 match o.op,vs with
 | .call c,[x,y]=>match c.callee with
  | .builtin .append=>lB C.P c.argTypes.toList x y k
  | _=>aj 258
 | _,_=>aj 259
def zB (C:Ctx) (o:Oper) (vs:List AV) (M:St) (k:AV→St→Prop):Prop :=
 match o.op,vs with
 | .store t _ _,[p,y]=>nS y fun cs=>match C.P.info? t with
  | some i=>bo (Nat.beq cs.length i.size) (mT M p cs fun M'=>k .bad M')
  | none=>aj 208
 | _,_=>aj 209
def cH (S:St):St:={ t:=[],l:=S.l,o:=S.o,b:=S.b }
def f6 (S M:St):St:={ t:=S.t,l:=M.l,o:=M.o,b:=M.b }
def addrOf (o:Oper):Option Nat :=
 match o.op with
 | .load _ (.tmp t)=>some t
 | .store _ (.tmp t) _=>some t
 | _=>none
def gz (pl:br) (o:Oper):Bool :=
 match o.op with
 | .load _ (.tmp t)=>fq pl.ow t
 | .store _ (.tmp t) _=>fq pl.ow t
 | .makeSlice _ _ _=>fq pl.ow (o.dst.getD 0)
 | .makeMap _ _=>fq pl.ow (o.dst.getD 0)
 | .lookup _ _ _ _=>fq pl.ow (o.dst.getD 0)
 | .mapUpdate _ (.tmp t) _ _=>fq pl.ow t
 | .insert _ (.tmp t) _ _=>fq pl.ow t
 | _=>false
def EW (pl:br) (o:Oper):Bool :=
 match addrOf o with
 | some t=>fq pl.oh t
 | none=>false
def i8 (S:St) (id:Nat) (K:St→Prop):Prop :=
 match S.o[id]? with
 | some (.own ks sz cells (some (j,.nilsl)))=>bo (Nat.blt j cells.length) (aR (S.o.set id (.own ks sz (cells.set j none) none)) fun o=>K { t:=S.t,l:=S.l,o:=o,b:=S.b })
 | some (.own ks sz cells (some (j,.mf k)))=>match S.o[k]? with
  | some (.arr true sz' rows)=>bo (Nat.beq sz' sz&&Nat.blt j cells.length) (gK [k] S fun S1=>aR (S1.o.set id (.own ks sz (cells.set j (some rows)) none)) fun o=>K { t:=S1.t,l:=S1.l,o:=o,b:=S1.b })
  | _=>aj 320
 | some (.own _ _ _ (some _))=>aj 321
 | _=>K S
def nU:List Nat→St→(St→Prop)→Prop
 | [],S,K=>K S
 | id::ids,S,K=>i8 S id fun S'=>nU ids S' K
def AM:Option (List (List AV))→AV
 | none=>.nilsl
 | some rows=>.sl rows
def mq:List AV→List (Option (List (List AV)))→List (AV×AV)
 | k::ks,c::cs=>(k,AM c)::mq ks cs
 | _,_=>[]
def kU (S:St) (id:Nat) (K:St→Prop):Prop :=
 match S.o[id]? with
 | some (.own (some ks) _ cells none)=>aR (S.o.set id (.mapo true (mq ks cells))) fun o=>K { t:=S.t,l:=S.l,o:=o,b:=S.b }
 | _=>K S
def lF:List Nat→St→(St→Prop)→Prop
 | [],S,K=>K S
 | id::ids,S,K=>kU S id fun S'=>lF ids S' K
def DJ:Nat→List Nat
 | 0=>[]
 | n + 1=>n::DJ n
def kH (pl:br) (id:Nat) (S:St) (K:St→Prop):Prop :=
 match fq pl.cl id with
 | false=>K S
 | true=>nU (DJ S.o.length) S fun S1=>match fq pl.fr id with
  | false=>K S1
  | true=>lF (DJ S1.o.length) S1 K
def f7 (M:St) (id i:Nat) (k:AV→St→Prop):Prop :=
 match M.o[id]? with
 | some (.own ks sz cells none)=>match cells[i]? with
  | some none=>k .nilsl M
  | some (some rows)=>aR (M.o.set id (.own ks sz cells (some (i,.mf M.o.length)))++[.arr true sz rows]) fun o=>k (.mf M.o.length) { t:=M.t,l:=M.l,o:=o,b:=M.b }
  | none=>aj 322
 | _=>aj 323
def i_ (P:Program) (t:TypeId) (same:Bool) (M:St) (id i:Nat) (k:AV→St→Prop):Prop :=
 match same with
 | true=>match M.o[id]? with
  | some (.own none _ cells (some (j,a)))=>bo (Nat.beq i j&&Nat.blt j cells.length) (i6 P t [a] 0 fun r=>k r M)
  | _=>aj 324
 | false=>f7 M id i fun a M'=>i6 P t [a] 0 fun r=>k r M'
def uh (v:AV):Bool:=match v with | .nilsl=>true | .mf _=>true | _=>false
def mU (hole:Option (Nat×AV)) (i:Nat):Bool :=
 match hole with
 | none=>true
 | some (j,_)=>Nat.beq i j
def gL (P:Program) (t:TypeId) (M:St) (id i:Nat) (v:AV) (K:St→Prop):Prop :=
 match P.info? t,M.o[id]? with
 | some inf,some (.own none sz cells hole)=>bo (uh v&&Nat.blt i cells.length&&Nat.beq inf.size 1&&mU hole i) (aR (M.o.set id (.own none sz cells (some (i,v)))) fun o=>K { t:=M.t,l:=M.l,o:=o,b:=M.b })
 | _,_=>aj 325
def ij (P:Program) (t:TypeId) (l c:AV) (M:St) (k:AV→St→Prop):Prop :=
 match P.underlying t with
 | some (.slice e) =>
  match P.info? e,P.underlying e with
  | some i,some (.slice e2)=>match P.info? e2 with
   | some i2=>intOf l fun l=>intOf c fun c=>bo (decide (0≤l)&&decide (l≤c)&&decide (i.bytes * c≤140737488355328)&&decide (c≤140737488355328)&&Nat.blt 0 i.size&&Nat.beq i.size 1&&Nat.blt 0 i2.size)
     (cC P e fun z=>match z with
      | [.nilsl]=>aR (M.o++[.own none i2.size (List.replicate l.toNat none) none]) fun o=>k (.mf M.o.length) { t:=M.t,l:=M.l,o:=o,b:=M.b }
      | _=>aj 325)
   | none=>aj 326
  | _,_=>aj 61
 | _=>aj 62
def gA (P:Program) (t:TypeId) (M:St) (k:AV→St→Prop):Prop :=
 match P.underlying t with
 | some (.map _ e)=>match P.underlying e with
  | some (.slice e2)=>match P.info? e2 with
   | some i2=>bo (Nat.blt 0 i2.size) (aR (M.o++[.own (some []) i2.size [] none]) fun o=>k (.mp M.o.length) { t:=M.t,l:=M.l,o:=o,b:=M.b })
   | none=>aj 336
  | _=>aj 337
 | _=>aj 338
def gV:List AV→List (AV×AV)
 | []=>[]
 | k::ks=>(k,.bad)::gV ks
def ja (P:Program) (t:TypeId) (m key:AV) (ok:Bool) (M:St) (k:AV→St→Prop):Prop :=
 match P.underlying t with
 | some (.map kt e)=>match m with
  | .mp id=>match M.o[id]? with
   | some (.own (some ks) _ _ none)=>gy P kt key (gV ks) fun _ r=>match r with
    | some i=>f7 M id i fun a M'=>pL ok a true fun r=>k r M'
    | none=>i7 P e ok fun r=>k r M
   | _=>aj 333
  | _=>aj 334
 | _=>aj 335
def j4 (P:Program) (t:TypeId) (m key x:AV) (M:St) (K:St→Prop):Prop :=
 match P.underlying t with
 | some (.map kt _)=>match m with
  | .mp id=>match M.o[id]? with
   | some (.own (some ks) sz cells hole)=>bo (uh x) (gy P kt key (gV ks) fun kv r=>bo (wO P kt kv) (match r with
     | some i=>bo (Instr.sameBits 10000 ((ks[i]?.bind yE).getD (.bool false)) kv&&mU hole i) (aR (M.o.set id (.own (some (ks.set i key)) sz cells (some (i,x)))) fun o=>K { t:=M.t,l:=M.l,o:=o,b:=M.b })
     | none=>match hole with
      | none=>aR (M.o.set id (.own (some (ks++[key])) sz (cells++[none]) (some (cells.length,x)))) fun o=>K { t:=M.t,l:=M.l,o:=o,b:=M.b }
      | some _=>aj 339))
   | _=>aj 340
  | _=>aj 341
 | _=>aj 342
def jK (M:St) (p:AV) (k:Nat→Nat→Prop):Prop :=
 match p with
 | .ptr (.O id) i 0=>match M.o[id]? with
  | some (.own none _ _ _)=>k id i
  | _=>aj 331
 | _=>aj 332
def l_ (P:Program) (pl:br) (o:Oper) (vs:List AV) (M:St) (k:AV→St→Prop):Prop :=
 match o.op,vs with
 | .load t _,[p]=>jK M p fun id i=>i_ P t (EW pl o) M id i k
 | .store t _ _,[p,v]=>jK M p fun id i=>gL P t M id i v fun M'=>k .bad M'
 | .makeSlice t _ _,[l,c]=>ij P t l c M k
 | .makeMap t none,[]=>gA P t M k
 | .lookup t _ _ ok,[m,key]=>ja P t m key ok M k
 | .mapUpdate t _ _ _,[m,key,x]=>j4 P t m key x M fun M'=>k .bad M'
 | .insert t _ _ _,[m,key,x]=>j4 P t m key x M fun M'=>k .bad M'
 | _,_=>aj 330
def AN (C:Ctx) (pl:br) (o:Oper) (S:St) (K:St→Prop):Prop :=
 dp S o.op.operands.toList fun vs=>l_ C.P pl o vs (cH S) fun r M=>bd o.dst r (f6 S M) K
def GV (x:Operand):Bool :=
 match x with
 | .const (.slice none 0 0)=>true
 | _=>false
def GW (o:Oper):Nat :=
 match o.op with
 | .binOp _ _ _ y _=>match GV y with | true=>1 | false=>0
 | .move _ | .assign _ | .pick _ _ _ | .build _ _ | .nilCheck _ | .unOp _ _ _ | .makeFunc _ _ _ | .fieldAddr _ _ _ | .field _ _ _ | .index _ _ _ | .extract _ _=>0
 | .load _ _ | .convert _ _ _ | .slice _ _ _ _ _ | .indexAddr _ _ _ | .lookup _ _ _ _=>1
 | .store _ _ _=>2
 | .call c=>match c.callee with
  | .builtin .min | .builtin .max | .builtin .cap=>0
  | .builtin .len=>1
  | _=>3
 | _=>3
def zC (pl:br) (o:Oper):Nat :=
 match o.op with
 | .buildSlice _ _ _=>match fq pl.ms (o.dst.getD 0) with | true=>3 | false=>0
 | .alloc _=>4
 | .makeSlice _ _ _=>2
 | .call c=>match c.callee with
  | .value (.func f)=>match fq pl.dc f with | true=>2 | false=>match fq pl.st f with | true=>3 | false=>1
  | .value _=>1
  | .builtin .append=>match fq pl.fz (o.dst.getD 0) with | true=>5 | false=>3
  | _=>GW o
 | _=>GW o
def gn (pl:br) (o:Oper):Nat :=
 match gz pl o with
 | true=>2
 | false=>zC pl o
def B8 (pl:br) (o:Oper):Bool :=
 match o.op with
 | .alloc _=>true
 | .box _ _=>!(fq pl.esc (o.dst.getD 0))
 | _=>false
def FM (C:Ctx) (pl:br) (o:Oper) (S:St) (K:St→Prop):Prop :=
 dp S o.op.operands.toList fun vs=>pop C pl o vs fun r=>bd o.dst r S K
def FN (C:Ctx) (o:Oper) (S:St) (K:St→Prop):Prop :=
 dp S o.op.operands.toList fun vs=>sK C o vs (cH S) fun r=>bd o.dst r S K
def FO (C:Ctx) (o:Oper) (S:St) (K:St→Prop):Prop :=
 dp S o.op.operands.toList fun vs=>zB C o vs (cH S) fun r M=>bd o.dst r (f6 S M) K
def FP (C:Ctx) (o:Oper) (S:St) (K:St→Prop):Prop :=
 dp S o.op.operands.toList fun vs=>Kc C o vs fun r=>bd o.dst r S K
def mr (C:Ctx) (o:Oper) (vs:List AV) (M:St) (k:AV→St→Prop):Prop :=
 match o.op,vs with
 | .makeSlice t _ _,[l,c]=>a8 C.P t l c M fun M' r=>k r M'
 | .call c,.fn fid first cap::as=>match c.callee with
  | .value _=>bo (!(C.pure fid)&&(first++as++cap).all (wa 4)) (C.scall fid (first++as++cap) M.o fun r o'=>bo (bH M.o o' 0).isEmpty (k r { t:=M.t,l:=M.l,o:=o',b:=M.b }))
  | _=>aj 310
 | _,_=>zB C o vs M k
def nV (C:Ctx) (pl:br) (o:Oper) (vs:List AV) (M:St) (k:AV→St→Prop):Prop :=
 match gz pl o with
 | true=>l_ C.P pl o vs M k
 | false=>mr C o vs M k
def q6 (C:Ctx) (pl:br) (o:Oper) (S:St) (K:St→Prop):Prop :=
 dp S o.op.operands.toList fun vs=>nV C pl o vs (cH S) fun r M=>bd o.dst r (f6 S M) K
def yM (C:Ctx) (pl:br) (o:Oper) (S:St) (K:St→Prop):Prop :=
 match o.op with
 | .alloc e=>cC C.P e fun cs=>B6 pl o.dst cs S K
 | .box _ x=>cz S x fun a=>nS a fun cs=>B6 pl o.dst cs S K
 | .buildSlice t len parts=>dp S (parts.toList.map (·.2)) fun vs=>bo (Nat.beq parts.size vs.length) (kh C.P pl o.dst t len ((parts.toList.map (·.1)).zip vs) S K)
 | .makeMap _ r=>match r with
  | none=>aR (S.o++[.mapo true []]) fun o'=>bd o.dst (.mp S.o.length) { t:=S.t,l:=S.l,o:=o',b:=S.b } K
  | some _=>aj 209
 | .makeSlice t l c=>cz S l fun l=>cz S c fun c=>a8 C.P t l c S fun S' a=>bd o.dst a S' K
 | .mapUpdate t m key x=>cz S m fun m=>cz S key fun key=>cz S x fun x=>fe C.P t m key x S fun S'=>bd o.dst .bad S' K
 | .insert t m key x=>cz S m fun m=>cz S key fun key=>cz S x fun x=>fe C.P t m key x S fun S'=>bd o.dst .bad S' K
 | .call c=>match c.callee with
  | .builtin b=>match b with
   | .append=>dp S c.args.toList fun as=>match as with
    | [x,.v (.int _ n)]=>lD C.P c.argTypes.toList x n S fun S' r=>bd o.dst r S' K
    | [x,y]=>mo C.P c.argTypes.toList x y S fun S' r=>bd o.dst r S' K
    | _=>aj 210
   | .copy=>dp S c.args.toList fun as=>match as with
    | [x,y]=>u4 C.P c.argTypes.toList x y S fun r S'=>bd o.dst r S' K
    | _=>aj 211
   | .clear=>dp S c.args.toList fun as=>match as with
    | [x]=>ue C.P c.argTypes.toList x S fun S'=>bd o.dst (.tup []) S' K
    | _=>aj 272
   | _=>aj 212
  | .value f=>cz S f fun fv=>dp S c.args.toList fun as=>zA C fv as S fun S' r=>bd o.dst r S' K
  | .invoke _ _=>aj 213
 | _=>aj 214
def yF (C:Ctx) (pl:br) (o:Oper) (S:St) (K:St→Prop):Prop :=
 match gn pl o with
 | 0=>FM C pl o S K
 | 1=>FN C o S K
 | 2=>q6 C pl o S K
 | 4=>match o.dst with
  | some d=>bd o.dst (.ptr (.L d) 0 0) S K
  | none=>aj 217
 | 5=>FP C o S K
 | _=>match B8 pl o with
  | true=>aj 219
  | false=>yM C pl o S K
def AO (C:Ctx) (pl:br) (o:Oper) (S:St) (K:St→Prop):Prop :=
 match GW o with
 | 0=>FM C pl o S K
 | 1=>FN C o S K
 | 2=>FO C o S K
 | _=>yM C pl o S K
def GX (C:Ctx) (pl:br) (o:Oper) (S:St) (K:St→Prop):Prop :=
 match gz pl o with
 | true=>AN C pl o S K
 | false=>AO C pl o S K
def AP:List Oper→Nat→Option Nat
 | [],_=>none
 | o::os,t =>
  match o.dst,o.op with
  | some d,.fieldAddr _ (.tmp t') _=>match Nat.beq d t with | true=>some t' | false=>AP os t
  | some d,.indexAddr _ (.tmp t') _=>match Nat.beq d t with | true=>some t' | false=>AP os t
  | _,_=>AP os t
def GY (all:List Oper):Nat→Nat→Nat
 | 0,t=>t
 | n + 1,t=>match AP all t with
  | some t'=>GY all n t'
  | none=>t
def gp (pl:br) (all:Array Oper) (o:Oper):Option Nat :=
 match addrOf o with
 | some t=>match fq pl.bx (GY all.toList 6 t) with
  | true=>some (GY all.toList 6 t)
  | false=>none
 | none=>none
def pM (a:AV) (site:Option Nat):Bool :=
 match a,site with
 | .ptr (.L d) _ _,some r=>Nat.beq d r
 | .ptr (.O _) _ _,none=>true
 | .fptr _ _,none=>true
 | _,_=>false
def jL (pl:br) (all:Array Oper) (o:Oper) (S:St):Bool :=
 match addrOf o with
 | some t=>match S.t[t]? with
  | some a=>pM a (gp pl all o)
  | none=>false
 | none=>true
def sL (all:Array Oper) (j:Nat):Option Nat:=(all[j]?).bind (·.dst)
def gM (d:Nat) (S:St) (k:Option Bool→St→Prop):Prop :=
 rF S.t d fun a =>
  match a with
  | .v (.bool b)=>B4 b (ud S.t d (.v (.bool true)) fun t=>k (some true) { t:=t,l:=S.l,o:=S.o,b:=S.b }) (ud S.t d (.v (.bool false)) fun t=>k (some false) { t:=t,l:=S.l,o:=S.o,b:=S.b })
  | .tup []=>k none S
  | _=>aj 4
def gsel (b:Option Bool) (want:Bool) (X Y:Prop):Prop :=
 match b,want with
 | some true,true=>X
 | some false,false=>X
 | _,_=>Y
def ui (C:Ctx) (pl:br) (all:Array Oper):List Oper→St→(St→Prop)→Prop
 | [],S,K=>K S
 | o::rest,S,K =>
  match o.guard with
  | none=>GX C pl o S fun S'=>ui C pl all rest S' K
  | some (j,want) =>
   match sL all j with
   | none=>aj 218
   | some d=>gM d S fun b S1=>gsel b want (GX C pl o S1 fun S'=>ui C pl all rest S' K) (bd o.dst (.tup []) S1 fun S'=>ui C pl all rest S' K)
def rH (C:Ctx) (pl:br) (all:Array Oper) (o:Oper) (S:St) (K:St→Prop):Prop:=bo (jL pl all o S) (yF C pl o S K)
def ag (C:Ctx) (pl:br) (all:Array Oper) (o:Oper) (S:St) (K:St→Prop):Prop :=
 match o.guard with
 | none=>rH C pl all o S K
 | some (j,want) =>
  match sL all j with
  | none=>aj 218
  | some d=>gM d S fun b S1=>gsel b want (rH C pl all o S1 K) (bd o.dst (.tup []) S1 K)
def jM (pl:br) (ops:Array Oper) (x y:Oper):Bool :=
 match gp pl ops x,gp pl ops y with
 | some a,some b=>!(Nat.beq a b)
 | some _,none=>true
 | none,some _=>true
 | none,none=>false
def wP (pl:br) (ops:Array Oper) (x y:Oper):Bool :=
 Oper.apart ops x y&&(match gn pl x,gn pl y with
  | 2,0 | 0,2 | 0,0 | 0,1 | 1,0 | 1,1 | 4,0 | 4,1 | 4,2 | 4,4 | 0,4 | 1,4 | 2,4 | 5,0 | 5,1 | 5,2 | 5,4 | 5,5 | 0,5 | 1,5 | 2,5 | 4,5=>true
  | 1,2 | 2,1=>jM pl ops x y
  | _,_=>false)
def bI:List Oper→List Nat→List Nat
 | [],acc=>acc
 | o::os,acc=>bI os (acc++[o.after.toList.foldl (fun s e=>match Region.binds .any e with | true=>Nat.lor s (Nat.lor (Nat.pow 2 e.on) (acc.getD e.on 0)) | false=>s) 0])
def EX (pl:br) (ops:Array Oper) (ws:List Nat) (listed:Array Bool) (i:Nat):Bool :=
 match ops[i]? with
 | none=>false
 | some oi=>(List.range ops.size).all fun j =>
  Nat.beq j i||listed.getD j true ||
   (match ops[j]? with
    | none=>true
    | some oj=>Nat.testBit (ws.getD j 0) i||wP pl ops oi oj)
def DK (n:Nat):Bool :=
 match n with
 | 0 | 1 | 2 | 4 | 5=>true
 | _=>false
def pN (pl:br) (ops:Array Oper) (ws:List Nat) (listed:Array Bool):List Nat→Option Nat
 | []=>none
 | i::is=>match (match ops[i]? with | some o=>DK (gn pl o) | none=>false)&&EX pl ops ws listed i with
  | true=>some i
  | false=>pN pl ops ws listed is
def Ni:Value→Value→Bool
 | .bool a,.bool b=>a==b
 | .int k a,.int l b=>decide (k=l)&&(a==b)
 | .string a,.string b=>a.data.toList==b.data.toList
 | _,_=>false
def Nj:Key→Key→Bool
 | .L a,.L b=>Nat.beq a b
 | .O a,.O b=>Nat.beq a b
 | _,_=>false
def B9 {α:Type} (f:α→α→Bool):List α→List α→Bool
 | [],[]=>true
 | x::xs,y::ys=>f x y&&B9 f xs ys
 | _,_=>false
def FR:Nat→AV→AV→Bool
 | 0,_,_=>false
 | n + 1,x,y =>
  match x,y with
  | .bad,.bad=>true
  | .v a,.v b=>Ni a b
  | .nilp,.nilp=>true
  | .ptr k i j,.ptr k' i' j'=>Nj k k'&&Nat.beq i i'&&Nat.beq j j'
  | .fptr r j,.fptr r' j'=>B9 (FR n) r r'&&Nat.beq j j'
  | .nilsl,.nilsl=>true
  | .esl,.esl=>true
  | .sl r,.sl r'=>B9 (B9 (FR n)) r r'
  | .mf i,.mf j=>Nat.beq i j
  | .msl a b c d,.msl a' b' c' d'=>Nat.beq a a'&&Nat.beq b b'&&Nat.beq c c'&&Nat.beq d d'
  | .nilmap,.nilmap=>true
  | .mp i,.mp j=>Nat.beq i j
  | .nilfn,.nilfn=>true
  | .fn f x y,.fn f' x' y'=>Nat.beq f f'&&B9 (FR n) x x'&&B9 (FR n) y y'
  | .agg c,.agg d=>B9 (FR n) c d
  | .tup c,.tup d=>B9 (FR n) c d
  | _,_=>false
def Kd:Ob→Ob→Bool
 | .arr a s r,.arr b s' r'=>(a==b)&&Nat.beq s s'&&B9 (B9 (FR 8)) r r'
 | .mapo a e,.mapo b e'=>(a==b)&&B9 (fun x y=>FR 8 x.1 y.1&&FR 8 x.2 y.2) e e'
 | .dead,.dead=>true
 | _,_=>false
def Ke (S S':St):Bool :=
 B9 (FR 8) S.t S'.t&&B9 (fun x y=>Nat.beq x.1 y.1&&B9 (FR 8) x.2 y.2) S.l S'.l&&B9 Kd S.o S'.o&&Nat.beq S.b S'.b
def zD (C:Ctx) (pl:br) (ops:Array Oper) (i:Nat) (S:St) (K:St→Prop):Prop :=
 match ops[i]? with
 | none=>aj 303
 | some o=>ag C pl ops o S K
def u5 (S2 S1:St) (X:Prop):Prop :=
 match Ke S2 S1 with
 | true=>X
 | false=>S2=S1∧X
def DL (go:Nat→(St→Prop)→Prop):List Nat→St→Prop→Prop
 | [],_,X=>X
 | i::is,S1,X=>go i fun S2=>u5 S2 S1 (DL go is S1 X)
def kj (C:Ctx) (pl:br) (ops:Array Oper) (ws:List Nat):Nat→Array Bool→St→(St→Prop)→Prop
 | 0,listed,S,K=>match Region.ready .any ops listed with
  | []=>K S
  | _::_=>aj 304
 | n + 1,listed,S,K =>
  match Region.ready .any ops listed with
  | []=>K S
  | r::rs =>
   match pN pl ops ws listed (r::rs) with
   | some k=>zD C pl ops k S fun S'=>kj C pl ops ws n (listed.setIfInBounds k true) S' K
   | none=>zD C pl ops r S fun S'=>kj C pl ops ws n (listed.setIfInBounds r true) S' fun S1 =>
     DL (fun i K'=>zD C pl ops i S fun S'=>kj C pl ops ws n (listed.setIfInBounds i true) S' K') rs S1 (K S1)
def uj (o:Oper):Bool :=
 match o.guard with
 | some _=>false
 | none=>match o.op with
  | .move _ | .assign _ | .nilCheck _ | .fieldAddr _ _ _=>true
  | _=>false
def pO (ops:Array Oper) (listed:Array Bool):List Nat→Option Nat
 | []=>none
 | i::is=>match (match ops[i]? with | some o=>uj o | none=>false)&&Region.free .any ops listed i with
  | true=>some i
  | false=>pO ops listed is
def vJ (C:Ctx) (pl:br) (ops:Array Oper) (ws:List Nat):Nat→Array Bool→St→(St→Prop)→Prop
 | 0,listed,S,K=>kj C pl ops ws 0 listed S K
 | n + 1,listed,S,K=>match pO ops listed (Region.ready .any ops listed) with
  | some i=>zD C pl ops i S fun S'=>vJ C pl ops ws n (listed.setIfInBounds i true) S' K
  | none=>kj C pl ops ws (n + 1) listed S K
def M8 (ops:Array Oper):Bool:=Region.noSelect ops&&ops.toList.all fun o=>match o.op with | .defer _=>false | _=>true
def yN (C:Ctx) (pl:br) (ops:Array Oper) (S:St) (K:St→Prop):Prop :=
 bo (M8 ops) (match pl.cl with
  | []=>kj C pl ops (bI ops.toList []) ops.size (Array.replicate ops.size false) S K
  | _::_=>vJ C pl ops (bI ops.toList []) ops.size (Array.replicate ops.size false) S K)
def bZ:List Oper→List (Nat×TypeId)
 | []=>[]
 | o::os=>match o.op,o.dst with
  | .alloc e,some d=>(d,e)::bZ os
  | _,_=>bZ os
def kV (pl:br):List (Nat×TypeId)→Bool
 | []=>true
 | (d,_)::xs=>!(fq pl.esc d)&&!(fq (xs.map (·.1)) d)&&kV pl xs
def wb:List Oper→Bool
 | []=>true
 | o::os=>(match o.op,o.guard with | .alloc _,some _=>false | _,_=>true)&&wb os
def u6 (pl:br) (ops:Array Oper):Bool:=kV pl (bZ ops.toList)&&wb ops.toList
def AQ (P:Program):List (Nat×TypeId)→St→(St→Prop)→Prop
 | [],S,K=>K S
 | (d,e)::xs,S,K=>cC P e fun cs=>bo (Nat.blt 0 cs.length) (AQ P xs { t:=S.t,l:=(d,cs)::S.l,o:=S.o,b:=S.b } K)
def yO (P:Program) (xs:List (Nat×TypeId)) (S:St) (K:St→Prop):Prop :=
 nT (xs.map (·.1)) S fun S'=>AQ P xs S' K
def lG:List (Nat×TypeId)→St→Prop→Prop
 | [],_,X=>X
 | (d,_)::xs,S,X=>rF S.t d fun a=>match a with
  | .ptr (.L d') _ _=>bo (Nat.beq d' d) (lG xs S X)
  | _=>aj 302
def ju (C:Ctx) (pl:br):Code→St→(Ex→St→Prop)→Prop
 | .skip,S,K=>K .nrm S
 | .region id ops draw,S,K =>
  match draw with
  | false=>ui C pl ops ops.toList S fun S'=>kH pl id S' fun S''=>K .nrm S''
  | true=>bo (u6 pl ops) (yO C.P (bZ ops.toList) S fun S1=>yN C pl ops S1 fun S'=>lG (bZ ops.toList) S' (kH pl id S' fun S''=>K .nrm S''))
 | .seq a b,S,K=>ju C pl a S fun e S'=>match e with
  | .nrm=>ju C pl b S' K
  | .ex i=>K (.ex i) S'
  | .ret=>K .ret S'
 | .cond c x y,S,K=>pH c S fun b S'=>match b with
  | true=>ju C pl x S' K
  | false=>ju C pl y S' K
 | .block id c,S,K=>ju C pl c S fun e S'=>match e with
  | .ex i=>match Nat.beq i id with | true=>K .nrm S' | false=>K (.ex i) S'
  | .nrm=>K .nrm S'
  | .ret=>K .ret S'
 | .loop c,S,K=>C.loop pl c S K
 | .exit id,S,K=>K (.ex id) S
 | .ret,S,K=>K .ret S
 | _,_,_=>aj 119
def yP (P:Program) (S:St):List ResultVar→(List AV→Prop)→Prop
 | [],k=>k []
 | .tmp t::rs,k=>rF S.t t fun a=>yP P S rs fun as=>k (a::as)
 | .cell a t::rs,k=>rF S.t a fun p=>GO S p fun row j=>i6 P t row j fun x=>yP P S rs fun as=>k (x::as)
def B_ (as:List AV) (k:AV→Prop):Prop :=
 match as with
 | [a]=>k a
 | as=>k (.tup as)
def AR:Nat→List AV
 | 0=>[]
 | n + 1=>.bad::AR n
def DN (C:Ctx) (k:Ctx→Prop):Prop :=
 match C with
 | ⟨a,b,c,d,e,f⟩=>k ⟨a,b,c,d,e,f⟩
def DO (p:br) (k:br→Prop):Prop :=
 match p with
 | ⟨a,b,c,d,e,f,g,h,i,j⟩=>k ⟨a,b,c,d,e,f,g,h,i,j⟩
def wQ (C:Ctx) (f:Nat) (args:List AV) (o:List Ob) (K:AV→St→Prop):Prop :=
 match C.P.funcs[f]? with
 | some fn=>match fn.body with
  | some c=>DO (C.pol f) fun pl=>ju C pl c { t:=args++AR (fn.ntmps - args.length),l:=[],o:=o,b:=o.length } fun e S =>
    match e with
    | .ex _=>aj 120
    | _=>yP C.P S fn.results.toList fun rs=>B_ rs fun r=>K r S
  | none=>aj 121
 | none=>aj 122
def u7 (C:Ctx) (f:Nat) (args:List AV) (o:List Ob) (K:AV→St→Prop):Prop:=DN C fun C=>wQ C f args o K
def zE (C:Ctx) (f:Nat) (args:List AV) (K:AV→Prop):Prop :=
 u7 C f args [] fun r S=>AL S.o r K
def AS (C:Ctx) (f:Nat) (args:List AV) (o:List Ob) (K:AV→List Ob→Prop):Prop :=
 u7 C f args o fun r S=>bo (wa 4 r&&Nat.beq S.b o.length) (K r S.o)
structure u9 where
 P:Program
 pure:Nat→Bool
 pol:Nat→br
 xs:Nat→Bool:=fun _=>false
 xc:Nat→List AV→List Ob→(AV→List Ob→Prop)→Prop:=fun _ _ _ _=>False
 xq:Nat→List AV→Option AV:=fun _ _=>none
def vK (G:u9):Nat→Ctx
 | 0=>{ P:=G.P,pure:=G.pure,pol:=G.pol,pcall:=fun _ _ _=>aj 123,scall:=fun _ _ _ _=>aj 124,loop:=fun _ _ _ _=>aj 125 }
 | n + 1=>{ P:=G.P,pure:=G.pure,pol:=G.pol,pcall:=fun f args K=>match G.xq f args with | some r=>K r | none=>zE (vK G n) f args K,scall:=fun f args o K=>match G.xs f with | true=>G.xc f args o K | false=>AS (vK G n) f args o K,loop:=fun pl c S K=>DN (vK G n) fun C=>ju C pl c S fun e S'=>match e with
         | .nrm=>C.loop pl c S' K
         | .ex i=>K (.ex i) S'
         | .ret=>K .ret S' }
inductive MV where
 | blk (b o sz n:Nat)
 | virt
structure Env where
 F:Nat→Prop
 mu:Key→Option MV
 h:Array Obj
def Env.fz (E:Env):Env:=⟨E.F,fun _=>none,E.h⟩
def zF (mu:Key→Option MV):Key→Option MV
 | .L _=>none
 | .O i=>mu (.O i)
 | .S id i=>mu (.S id i)
def Env.ob (E:Env):Env:=⟨E.F,zF E.mu,E.h⟩
def cD (h:Array Obj) (b i:Nat):Option Value :=
 match h[b]? with
 | some (.cells c _ _)=>c[i]?
 | _=>none
def aU (h:Array Obj) (b:Nat):Nat :=
 match h[b]? with
 | some (.cells c _ _)=>c.size
 | _=>0
def plain:Value→Bool
 | .bool _ | .int _ _ | .float _ _ | .complex _ _ _ | .string _=>true
 | _=>false
inductive VR:Env→AV→Value→Prop where
 | bad (E:Env) (u:Value):VR E .bad u
 | v (E:Env) (x:Value):plain x=true→VR E (.v x) x
 | nilp (E:Env):VR E .nilp (.pointer none)
 | ptr {E:Env} {k:Key} {b o sz n:Nat} (i j:Nat) (hs:k.isS=false):E.mu k=some (.blk b o sz n)→VR E (.ptr k i j) (.pointer (some ⟨b,o + i * sz + j,none⟩))
 | fptr {E:Env} {row:List AV} {b o:Nat} (j:Nat) (us:List Value):us.length=row.length→(∀ (m:Nat) (c:AV) (u:Value),row[m]?=some c→us[m]?=some u→VR E.fz c u) →
   E.F b→(∀ (m:Nat) (u:Value),us[m]?=some u→cD E.h b (o + m)=some u)→VR E (.fptr row j) (.pointer (some ⟨b,o + j,none⟩))
 | nilsl (E:Env):VR E .nilsl (.slice none 0 0)
 | esln (E:Env):VR E .esl (.slice none 0 0)
 | esl (E:Env) (a:Addr):VR E .esl (.slice (some a) 0 0)
 | sln (E:Env):VR E (.sl []) (.slice none 0 0)
 | sle (E:Env) (a:Addr) (cap:Nat):VR E (.sl []) (.slice (some a) 0 cap)
 | sl {E:Env} {rows:List (List AV)} {sz b o cap:Nat} (us:List Value):0<sz→(∀ r∈rows,r.length=sz)→us.length=rows.flatten.length →
   (∀ (m:Nat) (c:AV) (u:Value),rows.flatten[m]?=some c→us[m]?=some u→VR E.fz c u)→E.F b→(∀ (m:Nat) (u:Value),us[m]?=some u→cD E.h b (o + m)=some u) →
   rows.length≤cap→VR E (.sl rows) (.slice (some ⟨b,o,none⟩) rows.length cap)
 | mfn {E:Env} {id:Nat}:E.mu (.O id)=some .virt→VR E (.mf id) (.slice none 0 0)
 | mfe {E:Env} {id:Nat} (a:Addr):E.mu (.O id)=some .virt→VR E (.mf id) (.slice (some a) 0 0)
 | mf {E:Env} {id b o sz n:Nat} (cap:Nat):E.mu (.O id)=some (.blk b o sz n)→n≤cap→o + cap * sz≤aU E.h b→VR E (.mf id) (.slice (some ⟨b,o,none⟩) n cap)
 | msle {E:Env} {id:Nat} {x:MV} (off:Nat) (a:Option Addr):E.mu (.O id)=some x→VR E (.msl id off 0 0) (.slice a 0 0)
 | msl {E:Env} {id b o sz n:Nat} (off len ext cap:Nat):E.mu (.O id)=some (.blk b o sz n)→off + len + ext≤n→len + ext≤cap→o + (off + cap) * sz≤aU E.h b →
   VR E (.msl id off len ext) (.slice (some ⟨b,o + off * sz,none⟩) len cap)
 | bsl {E:Env} {k:Key} {b o sz n:Nat} (off len cap:Nat) (hs:k.isS=false):E.mu k=some (.blk b o sz n)→len≤cap→VR E (.bsl k off len) (.slice (some ⟨b,o + off,none⟩) len cap)
 | nilmap (E:Env):VR E .nilmap (.map none)
 | mp {E:Env} {id b o sz n:Nat}:E.mu (.O id)=some (.blk b o sz n)→VR E (.mp id) (.map (some b))
 | nilfn (E:Env):VR E .nilfn .nilFunc
 | fn {E:Env} {f:Nat} {xs ys:List AV} (us ws:Array Value):xs.length=us.size→(∀ (m:Nat) (c:AV) (u:Value),xs[m]?=some c→us[m]?=some u→VR E c u) →
   ys.length=ws.size→(∀ (m:Nat) (c:AV) (u:Value),ys[m]?=some c→ws[m]?=some u→VR E c u)→VR E (.fn f xs ys) (.func (.func f) us ws)
 | agg {E:Env} {cs:List AV} (us:Array Value):cs.length=us.size→(∀ (m:Nat) (c:AV) (u:Value),cs[m]?=some c→us[m]?=some u→VR E c u)→VR E (.agg cs) (.agg us)
 | tup {E:Env} {cs:List AV} (us:Array Value):cs.length=us.size→(∀ (m:Nat) (c:AV) (u:Value),cs[m]?=some c→us[m]?=some u→VR E c u)→VR E (.tup cs) (.tuple us)
structure LE (E E':Env):Prop where
 F:∀ b,E.F b→E'.F b
 mu:∀ k x,k.isS=false→E.mu k=some x→E'.mu k=some x
 hF:∀ b,E.F b→E'.h[b]?=E.h[b]?
 sz:∀ k b o s n,k.isS=false→E.mu k=some (.blk b o s n)→aU E'.h b=aU E.h b
theorem LE.refl (E:Env):LE E E:=⟨fun _ h=>h,fun _ _ _ h=>h,fun _ _=>rfl,fun _ _ _ _ _ _ _=>rfl⟩
theorem LE.trans {E E' E'':Env} (h:LE E E') (k:LE E' E''):LE E E'' :=
 ⟨fun b hb=>k.F b (h.F b hb),fun x y hs hx=>k.mu x y hs (h.mu x y hs hx),fun b hb=>(k.hF b (h.F b hb)).trans (h.hF b hb),
  fun x b o s n hs hx=>(k.sz x b o s n hs (h.mu _ _ hs hx)).trans (h.sz x b o s n hs hx)⟩
theorem LE.fz {E E':Env} (h:LE E E'):LE E.fz E'.fz:=⟨h.F,fun _ _ _ hx=>(by cases hx),h.hF,fun _ _ _ _ _ _ hx=>(by cases hx)⟩
theorem gB {mu:Key→Option MV} {k:Key} {x:MV} (h:zF mu k=some x):mu k=some x:=by
 cases k with
 | L d=>cases h
 | O i=>exact h
 | S id i=>exact h
theorem LE.ob {E E':Env} (h:LE E E'):LE E.ob E'.ob :=
 ⟨h.F,fun k x hs hx=>(by
  cases k with
  | L d=>cases hx
  | O i=>exact h.mu _ _ hs hx
  | S id i=>cases hs),h.hF,fun k b o s n hs hx=>h.sz k b o s n hs (gB hx)⟩
theorem pQ {h h':Array Obj} {b:Nat} (e:h'[b]?=h[b]?) (i:Nat):cD h' b i=cD h b i:=by
 unfold cD; rw [e]
theorem VR.mono {E:Env} {a:AV} {u:Value} (hv:VR E a u):∀ {E':Env},LE E E'→VR E' a u:=by
 induction hv with
 | bad E u=>intro E' _; exact .bad _ _
 | v E x hx=>intro E' _; exact .v _ _ hx
 | nilp E=>intro E' _; exact .nilp _
 | ptr i j hs hm=>intro E' h; exact .ptr i j hs (h.mu _ _ hs hm)
 | fptr j us hl hc hF hcell ih=>intro E' h; exact .fptr j us hl (fun m c u h1 h2=>ih m c u h1 h2 h.fz) (h.F _ hF) (fun m u hu=>(pQ (h.hF _ hF) _).trans (hcell m u hu))
 | nilsl E=>intro E' _; exact .nilsl _
 | esln E=>intro E' _; exact .esln _
 | esl E a=>intro E' _; exact .esl _ a
 | sln E=>intro E' _; exact .sln _
 | sle E a cap=>intro E' _; exact .sle _ a cap
 | sl us hsz hr hl hc hF hcell hcap ih=>intro E' h; exact .sl us hsz hr hl (fun m c u h1 h2=>ih m c u h1 h2 h.fz) (h.F _ hF) (fun m u hu=>(pQ (h.hF _ hF) _).trans (hcell m u hu)) hcap
 | mfn hm=>intro E' h; exact .mfn (h.mu _ _ rfl hm)
 | mfe a hm=>intro E' h; exact .mfe a (h.mu _ _ rfl hm)
 | mf cap hm hn hc=>intro E' h; exact .mf cap (h.mu _ _ rfl hm) hn (by rw [h.sz _ _ _ _ _ rfl hm]; exact hc)
 | msle off a hm=>intro E' h; exact .msle off a (h.mu _ _ rfl hm)
 | msl off len ext cap hm h1 h2 h3=>intro E' h; exact .msl off len ext cap (h.mu _ _ rfl hm) h1 h2 (by rw [h.sz _ _ _ _ _ rfl hm]; exact h3)
 | bsl off len cap hs hm h1=>intro E' h; exact .bsl off len cap hs (h.mu _ _ hs hm) h1
 | nilmap E=>intro E' _; exact .nilmap _
 | mp hm=>intro E' h; exact .mp (h.mu _ _ rfl hm)
 | nilfn E=>intro E' _; exact .nilfn _
 | fn us ws h1 h2 h3 h4 ih1 ih2=>intro E' h; exact .fn us ws h1 (fun m c u hc hu=>ih1 m c u hc hu h) h3 (fun m c u hc hu=>ih2 m c u hc hu h)
 | agg us h1 h2 ih=>intro E' h; exact .agg us h1 (fun m c u hc hu=>ih m c u hc hu h)
 | tup us h1 h2 ih=>intro E' h; exact .tup us h1 (fun m c u hc hu=>ih m c u hc hu h)
theorem VR.of_fz {E:Env} {a:AV} {u:Value} (hv:VR E.fz a u):VR E a u :=
 hv.mono ⟨fun _ h=>h,fun _ _ _ h=>(by cases h),fun _ _=>rfl,fun _ _ _ _ _ _ h=>(by cases h)⟩
theorem VR.of_ob {E:Env} {a:AV} {u:Value} (hv:VR E.ob a u):VR E a u :=
 hv.mono ⟨fun _ h=>h,fun _ _ _ h=>gB h,fun _ _=>rfl,fun _ _ _ _ _ _ _=>rfl⟩
theorem VR.fz_ob {E:Env} {a:AV} {u:Value} (hv:VR E.fz a u):VR E.ob a u :=
 hv.mono ⟨fun _ h=>h,fun _ _ _ h=>(by cases h),fun _ _=>rfl,fun _ _ _ _ _ _ h=>(by cases h)⟩
def bO (E:Env) (cs:List AV) (us:List Value):Prop :=
 cs.length=us.length∧∀ (m:Nat) (c:AV) (u:Value),cs[m]?=some c→us[m]?=some u→VR E c u
theorem bO.mono {E E':Env} {cs:List AV} {us:List Value} (h:bO E cs us) (hl:LE E E'):bO E' cs us:=⟨h.1,fun m c u h1 h2=>(h.2 m c u h1 h2).mono hl⟩
theorem bO.nil (E:Env):bO E [] []:=⟨rfl,fun m c u h=>(by simp at h)⟩
theorem bO.cons {E:Env} {c:AV} {u:Value} {cs:List AV} {us:List Value} (h:VR E c u) (hs:bO E cs us):bO E (c::cs) (u::us) :=
 ⟨by simp [hs.1],fun m c' u' h1 h2=>by
  cases m with
  | zero=>simp at h1 h2; subst h1 h2; exact h
  | succ m=>exact hs.2 m c' u' (by simpa using h1) (by simpa using h2)⟩
theorem bO.uncons {E:Env} {c:AV} {cs:List AV} {vs:List Value} (h:bO E (c::cs) vs):∃ u us,vs=u::us∧VR E c u∧bO E cs us:=by
 cases vs with
 | nil=>exact absurd h.1 (by simp)
 | cons u us=>exact ⟨u,us,rfl,h.2 0 c u rfl rfl,by simpa using h.1,fun m c' u' h1 h2=>h.2 (m + 1) c' u' (by simpa using h1) (by simpa using h2)⟩
theorem bO.unnil {E:Env} {vs:List Value} (h:bO E [] vs):vs=[]:=List.eq_nil_of_length_eq_zero h.1.symm
theorem bO.get {E:Env} {cs:List AV} {us:List Value} (h:bO E cs us) {m:Nat} {c:AV} (hc:cs[m]?=some c):∃ u,us[m]?=some u∧VR E c u:=by
 have hm:m<us.length:=by rw [← h.1]; exact (List.getElem?_eq_some_iff.1 hc).1
 exact ⟨us[m],List.getElem?_eq_getElem hm,h.2 m c _ hc (List.getElem?_eq_getElem hm)⟩
theorem bO.append {E:Env} {cs ds:List AV} {us vs:List Value} (h:bO E cs us) (k:bO E ds vs):bO E (cs++ds) (us++vs):=by
 induction cs generalizing us with
 | nil=>rw [h.unnil]; exact k
 | cons c cs ih =>
  obtain ⟨u,us',rfl,hc,hs⟩:=h.uncons
  exact .cons hc (ih hs)
theorem bO.take {E:Env} {cs:List AV} {us:List Value} (h:bO E cs us) (n:Nat):bO E (cs.take n) (us.take n) :=
 ⟨by simp [h.1],fun m c u h1 h2=>by
  rw [List.getElem?_take] at h1 h2
  split at h1
  ·rename_i hm; rw [if_pos hm] at h2; exact h.2 m c u h1 h2
  ·cases h1⟩
theorem bO.drop {E:Env} {cs:List AV} {us:List Value} (h:bO E cs us) (n:Nat):bO E (cs.drop n) (us.drop n) :=
 ⟨by simp [h.1],fun m c u h1 h2=>by
  rw [List.getElem?_drop] at h1 h2
  exact h.2 _ c u h1 h2⟩
theorem bO.of_fz {E:Env} {cs:List AV} {us:List Value} (h:bO E.fz cs us):bO E cs us:=⟨h.1,fun m c u h1 h2=>(h.2 m c u h1 h2).of_fz⟩
theorem bO.of_ob {E:Env} {cs:List AV} {us:List Value} (h:bO E.ob cs us):bO E cs us:=⟨h.1,fun m c u h1 h2=>(h.2 m c u h1 h2).of_ob⟩
theorem bO.aggV {E:Env} {cs:List AV} {us:Array Value} (h:bO E cs us.toList):VR E (.agg cs) (.agg us) :=
 .agg us (by simpa using h.1) (fun m c u h1 h2=>h.2 m c u h1 (by simpa using h2))
theorem VR.aggI {E:Env} {cs:List AV} {u:Value} (h:VR E (.agg cs) u):∃ us:Array Value,u=.agg us∧bO E cs us.toList:=by
 cases h with
 | agg us h1 h2=>exact ⟨us,rfl,by simpa using h1,fun m c u hc hu=>h2 m c u hc (by simpa using hu)⟩
theorem VR.tupI {E:Env} {cs:List AV} {u:Value} (h:VR E (.tup cs) u):∃ us:Array Value,u=.tuple us∧bO E cs us.toList:=by
 cases h with
 | tup us h1 h2=>exact ⟨us,rfl,by simpa using h1,fun m c u hc hu=>h2 m c u hc (by simpa using hu)⟩
theorem VR.vI {E:Env} {x u:Value} (h:VR E (.v x) u):u=x∧plain x=true:=by
 cases h with
 | v _ _ hx=>exact ⟨rfl,hx⟩
def ce (E':Env) (h:Array Obj) (rows:List (List AV)) (b o sz:Nat):Prop :=
 0<sz∧(∀ r∈rows,r.length=sz)∧∃ (us:Array Value) (ty:TypeId),h[b]?=some (.cells us ty (0,0))∧o + rows.length * sz≤us.size ∧
  ∀ (m:Nat) (c:AV),rows.flatten[m]?=some c→∃ u,us[o + m]?=some u∧VR E' c u
def ca (E:Env) (fl:Bool):Env:=match fl with | true=>E.fz | false=>E.ob
def vL (ms:Array MapEntry) (clock:Nat):Prop:=(∀ x∈ms.toList,x.born<clock)∧(ms.toList.map (·.born)).Nodup
theorem vL.empty (clock:Nat):vL #[] clock:=⟨by simp,by simp⟩
theorem vL.push {ms:Array MapEntry} {clock:Nat} (h:vL ms clock) (key val:Value):vL (ms.push { key:=key,val:=val,born:=clock }) (clock + 1):=by
 obtain ⟨h1,h2⟩:=h
 refine ⟨fun x hx=>?_,?_⟩
 ·simp only [Array.toList_push,List.mem_append,List.mem_singleton] at hx
  rcases hx with hx | rfl
  ·exact Nat.lt_succ_of_lt (h1 x hx)
  ·exact Nat.lt_succ_self _
 ·simp only [Array.toList_push,List.map_append,List.map_cons,List.map_nil]
  refine List.nodup_append.2 ⟨h2,by simp,fun a ha b hb=>?_⟩
  simp only [List.mem_singleton] at hb
  subst hb
  obtain ⟨x,hx,rfl⟩:=List.mem_map.1 ha
  exact Nat.ne_of_lt (h1 x hx)
theorem vL.modify {ms:Array MapEntry} {clock:Nat} (h:vL ms clock) (i:Nat) (key val:Value):vL (ms.modify i fun e=>{ e with key:=key,val:=val }) clock:=by
 have hb:(ms.modify i fun e=>{ e with key:=key,val:=val }).toList.map (·.born)=ms.toList.map (·.born):=by
  apply List.ext_getElem?
  intro j
  simp only [List.getElem?_map,Array.getElem?_toList,Array.getElem?_modify]
  split
  ·rename_i e
   subst e
   cases ms[i]? <;> rfl
  ·rfl
 refine ⟨fun x hx=>?_,by rw [hb]; exact h.2⟩
 have:x.born∈(ms.modify i fun e=>{ e with key:=key,val:=val }).toList.map (·.born):=List.mem_map.2 ⟨x,hx,rfl⟩
 rw [hb] at this
 obtain ⟨y,hy,e⟩:=List.mem_map.1 this
 rw [← e]
 exact h.1 y hy
def GZ (E:Env) (h:Array Obj) (fl:Bool) (es:List (AV×AV)) (b:Nat):Prop :=
 ∃ (ms:Array MapEntry) (clock:Nat),h[b]?=some (.map ms clock)∧(es.length=ms.size∧vL ms clock) ∧
  ∀ (i:Nat) (e:AV×AV) (m:MapEntry),es[i]?=some e→ms[i]?=some m→yE e.1=some m.key∧VR (ca E fl) e.2 m.val
def gN (E:Env) (x:Option Ob) (mv:Option MV):Prop :=
 match x,mv with
 | some (.arr _ _ rows),some .virt=>rows=[]
 | some (.arr fl sz rows),some (.blk b o s n)=>(s=sz∧n=rows.length)∧ce (ca E fl) E.h rows b o s
 | some (.mapo fl es),some (.blk b _ _ _)=>GZ E E.h fl es b
 | some (.own ks _ cells _),some .virt=>ks=none∧cells=[]
 | some (.own ks _ cells _),some (.blk _ _ s n)=>ks=none→s=1∧n=cells.length
 | some .dead,none=>True
 | none,none=>True
 | _,_=>False
def iz (pend:Nat→Option (List AV)) (E:Env) (x:Option (List AV)) (d:Nat):Prop :=
 match x with
 | none=>E.mu (.L d)=none
 | some row=>(∃ b,E.mu (.L d)=some (.blk b 0 row.length 1)∧ce E E.h [row] b 0 row.length)∨(E.mu (.L d)=none∧pend d=some row∧∀ k,row.map (cK 4 k)=row)
def cm (E:Env) (sz:Nat) (c:Option (List (List AV))) (mv:Option MV) (u:Value):Prop :=
 match c,mv with
 | none,none=>u=.slice none 0 0
 | some rows,some .virt=>rows=[]∧∃ a,u=.slice a 0 0
 | some rows,some (.blk b o s n)=>(s=sz∧n=rows.length)∧ce E.fz E.h rows b o s∧∃ cap,n≤cap∧o + cap * s≤aU E.h b∧u=.slice (some ⟨b,o,none⟩) n cap
 | _,_=>False
def Jz (E:Env) (sz:Nat) (hole:Option (Nat×AV)) (i:Nat) (c:Option (List (List AV))) (mv:Option MV) (u:Value):Prop :=
 match hole with
 | some (j,a)=>if j=i then mv=none∧VR E.ob a u else cm E sz c mv u
 | none=>cm E sz c mv u
def jb (h:Array Obj) (b o i:Nat):Option Value :=
 match h[b]? with
 | some (.cells us _ _)=>us[o + i]?
 | some (.map ms _)=>(ms[i]?).map (·.val)
 | _=>none
def zG (h:Array Obj) (ks:Option (List AV)) (b o n:Nat):Prop :=
 match ks with
 | none=>∃ us ty,h[b]?=some (.cells us ty (0,0))∧o + n≤us.size
 | some ks=>∃ ms clock,h[b]?=some (.map ms clock)∧(n=ms.size∧n=ks.length∧vL ms clock)∧∀ (i:Nat) (k:AV) (m:MapEntry),ks[i]?=some k→ms[i]?=some m→yE k=some m.key
theorem zG.congr {h h':Array Obj} {ks:Option (List AV)} {b o n:Nat} (hb:zG h ks b o n) (e:h'[b]?=h[b]?):zG h' ks b o n:=by
 cases ks with
 | none =>
  obtain ⟨us,ty,h1,h2⟩:=hb
  exact ⟨us,ty,e.trans h1,h2⟩
 | some ks =>
  obtain ⟨ms,clock,h1,h2⟩:=hb
  exact ⟨ms,clock,e.trans h1,h2⟩
theorem Ca {h h':Array Obj} {b:Nat} (e:h'[b]?=h[b]?) (o i:Nat):jb h' b o i=jb h b o i:=by
 unfold jb
 rw [e]
theorem Cb {h:Array Obj} {b o n i:Nat} {u:Value} (hb:zG h none b o n) (hv:jb h b o i=some u):cD h b (o + i)=some u:=by
 obtain ⟨us,ty,h1,_⟩:=hb
 unfold jb at hv
 unfold cD
 rw [h1] at hv ⊢
 exact hv
def eV (E:Env) (id:Nat) (x:Option Ob):Prop :=
 match x with
 | some (.own ks sz cells hole)=>0<sz∧(∀ i,cells.length≤i→E.mu (.S id i)=none) ∧
   ∀ b o s n,E.mu (.O id)=some (.blk b o s n)→zG E.h ks b o cells.length ∧
    ∀ i c,cells[i]?=some c→∃ u,jb E.h b o i=some u∧Jz E sz hole i c (E.mu (.S id i)) u
 | _=>∀ i,E.mu (.S id i)=none
theorem cm.mono {E E':Env} {sz:Nat} {c:Option (List (List AV))} {mv:Option MV} {u:Value} (h:cm E sz c mv u) (hf:LE E.fz E'.fz) (hh:∀ b o s n,mv=some (.blk b o s n)→E'.h[b]?=E.h[b]?):cm E' sz c mv u:=by
 revert h
 cases c with
 | none =>
  cases mv with
  | none=>exact fun h=>h
  | some mv=>cases mv <;> exact fun h=>h.elim
 | some rows =>
  cases mv with
  | none=>exact fun h=>h.elim
  | some mv =>
   cases mv with
   | virt=>exact fun h=>h
   | blk b o s n =>
    rintro ⟨h0,⟨h1,h2,us,ty,h3,h4,h5⟩,cap,h6,h7,h8⟩
    have hb:=hh _ _ _ _ rfl
    refine ⟨h0,⟨h1,h2,us,ty,hb.trans h3,h4,fun m c hc=>?_⟩,cap,h6,?_,h8⟩
    ·obtain ⟨u,hu,hv⟩:=h5 m c hc
     exact ⟨u,hu,hv.mono hf⟩
    ·have:aU E'.h b=aU E.h b:=by unfold aU; rw [hb]
     rw [this]
     exact h7
theorem eV.mono {E E':Env} {id:Nat} {x:Option Ob} (h:eV E id x) (hO:E'.mu (.O id)=E.mu (.O id)) (hS:∀ i,E'.mu (.S id i)=E.mu (.S id i)) (hf:LE E.fz E'.fz) (hb:LE E.ob E'.ob)
  (hh:∀ k b o s n,(k=.O id∨∃ i,k=.S id i)→E.mu k=some (.blk b o s n)→E'.h[b]?=E.h[b]?):eV E' id x:=by
 revert h
 unfold eV
 split
 ·rename_i ks sz cells hole
  rintro ⟨h1,h2,h3⟩
  refine ⟨h1,fun i hi=>(hS i).trans (h2 i hi),fun b o s n hm=>?_⟩
  rw [hO] at hm
  obtain ⟨h4,h6⟩:=h3 b o s n hm
  have hbb:=hh _ _ _ _ _ (.inl rfl) hm
  refine ⟨h4.congr hbb,fun i c hc=>?_⟩
  obtain ⟨u,hu,h7⟩:=h6 i c hc
  refine ⟨u,(Ca hbb _ _).trans hu,?_⟩
  rw [hS i]
  have hcell:cm E sz c (E.mu (.S id i)) u→cm E' sz c (E.mu (.S id i)) u:=fun h=>h.mono hf fun b o s n e=>hh _ _ _ _ _ (.inr ⟨i,rfl⟩) e
  unfold Jz at h7 ⊢
  split at h7
  ·rename_i j a
   by_cases hj:j=i
   ·rw [if_pos hj] at h7 ⊢
    exact ⟨h7.1,h7.2.mono hb⟩
   ·rw [if_neg hj] at h7 ⊢
    exact hcell h7
  ·exact hcell h7
 ·exact fun h i=>(hS i).trans (h i)
theorem eV.arr {E:Env} {id sz:Nat} {fl:Bool} {rows:List (List AV)}:eV E id (some (.arr fl sz rows))↔∀ i,E.mu (.S id i)=none:=Iff.rfl
theorem eV.mapo {E:Env} {id:Nat} {fl:Bool} {es:List (AV×AV)}:eV E id (some (.mapo fl es))↔∀ i,E.mu (.S id i)=none:=Iff.rfl
def kA:Option Ob→Bool
 | some (.own _ _ _ _)=>false
 | _=>true
theorem eV.not {E:Env} {id:Nat} {x:Option Ob} (h:kA x=true):eV E id x↔∀ i,E.mu (.S id i)=none:=by
 unfold eV
 split
 ·cases h
 ·exact Iff.rfl
structure Gh where
 w0:World
 M:Nat→Prop
 F:Nat→Prop
 mu:Nat→Option MV
structure al (G:Gh) (pend:Nat→Option (List AV)) (E:Env) (S:St) (w:World):Prop where
 hp:E.h=w.heap
 os:w.os=G.w0.os
 tape:w.tape=G.w0.tape
 output:w.output=G.w0.output
 size:G.w0.heap.size≤w.heap.size
 keep:∀ b,b<G.w0.heap.size→¬ G.M b→w.heap[b]?=G.w0.heap[b]?
 F0:∀ b,G.F b→E.F b
 Flt:∀ b,E.F b→b<w.heap.size
 Fnew:∀ b,E.F b→b<G.w0.heap.size→G.F b∨G.M b
 own:∀ k b o s n,E.mu k=some (.blk b o s n)→¬ E.F b∧b<w.heap.size∧(G.M b∨G.w0.heap.size≤b)
 inj:∀ k k' b o s n o' s' n',E.mu k=some (.blk b o s n)→E.mu k'=some (.blk b o' s' n')→k=k'
 loc:∀ d,iz pend E (aG S.l d) d
 obj:∀ id,gN E S.o[id]? (E.mu (.O id))
 old:∀ id,id<S.b→S.o[id]?=some .dead∨E.mu (.O id)=G.mu id
 bl:S.b≤S.o.length
 szs:∀ b,b<G.w0.heap.size→aU w.heap b=aU G.w0.heap b
 pk:∀ d row,pend d=some row→E.mu (.L d)=none∧aG S.l d=some row
 ow:∀ id,eV E id S.o[id]?
def Cc (E:Env):Prop:=∀ g row,IK g=some row→VR E.fz (.fptr row 0) (.pointer (some ⟨g,0,none⟩))∧cD E.h g row.length=none
theorem AT {E E':Env} {row:List AV} {g:Nat} (h:VR E (.fptr row 0) (.pointer (some ⟨g,0,none⟩))∧cD E.h g row.length=none) (hl:LE E E'):VR E' (.fptr row 0) (.pointer (some ⟨g,0,none⟩))∧cD E'.h g row.length=none:=by
  refine ⟨h.1.mono hl,?_⟩
  obtain ⟨h1,h2⟩:=h
  cases h1 with
  | fptr j us _ _ hF _=>exact (pQ (hl.hF _ hF) _).trans h2
theorem Cc.mono {E E':Env} (h:Cc E) (hl:LE E E'):Cc E':=fun g row e=>AT (h g row e) hl.fz
theorem Cc.up {E:Env} (h:Cc E) {F':Nat→Prop} {mu':Key→Option MV} {h':Array Obj} (hF:∀ b,E.F b→F' b) (hh:E.h=h'):Cc ⟨F',mu',h'⟩:=fun g row e=>AT (E:=E.fz) (E':=⟨F',fun _=>none,h'⟩) (h g row e) ⟨hF,fun _ _ _ hx=>(by cases hx),fun _ _=>(by rw [← hh]; rfl),fun _ _ _ _ _ _ hx=>(by cases hx)⟩
structure TR (E:Env) (t:List AV) (a:Act):Prop where
 len:t.length=a.tmps.size
 val:∀ (n:Nat) (c:AV) (u:Value),t[n]?=some c→a.tmps[n]?=some u→VR E c u
 df:a.defers=[]
 gt:Cc E
theorem TR.mono {E E':Env} {t:List AV} {a:Act} (h:TR E t a) (hl:LE E E'):TR E' t a:=⟨h.len,fun n c u h1 h2=>(h.val n c u h1 h2).mono hl,h.df,h.gt.mono hl⟩
theorem ae {b:Bool} {X:Prop} (h:bo b X):b=true∧X:=by
 cases b with
 | true=>exact ⟨rfl,h⟩
 | false=>exact False.elim h
theorem ap {b:Bool} {X:Prop} (hb:b=true) (h:X):bo b X:=by subst hb; exact h
theorem ng {b:Bool} {X Y:Prop} (h:B4 b X Y):(b=true∧X)∨(b=false∧Y):=by
 cases b with
 | true=>exact .inl ⟨rfl,h⟩
 | false=>exact .inr ⟨rfl,h⟩
theorem DR {b:Bool} {X Y:Prop} (hX:b=true→X) (hY:b=false→Y):B4 b X Y:=by
 cases b with
 | true=>exact hX rfl
 | false=>exact hY rfl
theorem cf {a:AV} {k:AV→Prop}:lA a k↔k a:=by cases a <;> exact Iff.rfl
theorem dv:∀ {xs:List AV} {k:List AV→Prop},iY xs k↔k xs
 | [],_=>Iff.rfl
 | _::xs,_=>dv (xs:=xs)
theorem iG:∀ {xs:List AV} {k:List AV→Prop},v_ xs k↔k xs
 | [],_=>Iff.rfl
 | x::xs,k=>by
  show lA x _↔_
  rw [cf]
  exact iG (xs:=xs)
theorem ax:∀ {xs:List Ob} {k:List Ob→Prop},aR xs k↔k xs
 | [],_=>Iff.rfl
 | _::xs,_=>ax (xs:=xs)
theorem jc:∀ {xs:List (Nat×List AV)} {k:List (Nat×List AV)→Prop},pI xs k↔k xs
 | [],_=>Iff.rfl
 | (_,_)::xs,_=>jc (xs:=xs)
theorem j5:∀ {xs:List (List AV)} {k:List (List AV)→Prop},gh xs k↔k xs
 | [],_=>Iff.rfl
 | x::xs,k=>by
  show iY x _↔_
  rw [dv]
  exact j5 (xs:=xs)
theorem bS:∀ {xs:List AV} {n:Nat} {k:AV→Prop},rF xs n k↔∃ a,xs[n]?=some a∧k a
 | [],_,_=>⟨fun h=>False.elim h,fun ⟨a,h,_⟩=>by simp at h⟩
 | x::xs,0,k=>⟨fun h=>⟨x,rfl,h⟩,fun ⟨a,h,hk⟩=>by simp at h; subst h; exact hk⟩
 | x::xs,n + 1,k=>by
  show rF xs n k↔_
  rw [bS]
  simp
theorem d_:∀ {xs:List AV} {n:Nat} {v:AV} {k:List AV→Prop},ud xs n v k↔k (xs.set n v)
 | [],_,_,_=>Iff.rfl
 | _::xs,0,_,_=>Iff.rfl
 | x::xs,n + 1,v,k=>by
  show ud xs n v _↔_
  rw [d_]
  rfl
def lH (S:St) (dst:Option Tmp) (a:AV):St :=
 match dst with
 | none=>S
 | some d=>{ t:=S.t.set d a,l:=S.l,o:=S.o,b:=S.b }
theorem aA {dst:Option Tmp} {a:AV} {S:St} {K:St→Prop}:bd dst a S K↔K (lH S dst a):=by
 cases dst with
 | none=>exact Iff.rfl
 | some d=>exact d_
theorem ul {c:Value} {E:Env}:VR E (wG c) c:=by
 unfold wG
 split <;> first
  | exact .v _ _ rfl
  | exact .nilp _
  | exact .nilsl _
  | exact .nilmap _
  | exact .nilfn _
  | exact .bad _ _
theorem AU (E:Env) (c:Value):VR E (FK c) c:=by
 unfold FK
 split
 ·rename_i cs
  refine .agg cs (by simp) (fun m x u h1 h2=>?_)
  simp only [List.getElem?_map,Array.getElem?_toList,Option.map_eq_some_iff] at h1
  obtain ⟨y,hy,rfl⟩:=h1
  rw [hy] at h2
  cases h2
  exact ul
 ·exact ul
theorem dQ {S:St} {x:Operand} {k:AV→Prop} {E:Env} {a:Act} (h:cz S x k) (ht:TR E S.t a):∃ c,k c∧VR E c (a.eval x):=by
 unfold cz at h
 split at h
 ·rename_i t
  obtain ⟨c,hc,hk⟩:=bS.1 h
  have hlt:t<a.tmps.size:=by rw [← ht.len]; exact (List.getElem?_eq_some_iff.1 hc).1
  refine ⟨c,hk,ht.val t c _ hc ?_⟩
  simp [Act.eval,Array.getD,hlt]
 ·rename_i c
  exact ⟨_,cf.1 h,AU E c⟩
 ·rename_i f
  exact ⟨_,h,.fn #[] #[] rfl (fun m c u hc=>by simp at hc) rfl (fun m c u hc=>by simp at hc)⟩
 ·rename_i g
  split at h
  ·rename_i row e
   exact ⟨_,h,(ht.gt g row e).1.of_fz⟩
  ·exact False.elim h
theorem cM {S:St} {E:Env} {a:Act} (ht:TR E S.t a):∀ {xs:List Operand} {k:List AV→Prop},dp S xs k→∃ cs,k cs∧bO E cs (xs.map a.eval)
 | [],_,h=>⟨[],h,.nil _⟩
 | x::xs,k,h=>by
  obtain ⟨c,hk,hc⟩:=dQ h ht
  obtain ⟨cs,hk',hcs⟩:=cM ht hk
  exact ⟨c::cs,hk',.cons hc hcs⟩
theorem TR.put {E:Env} {S:St} {a:Act} (h:TR E S.t a) {dst:Option Tmp} {c:AV} {u:Value} (hv:VR E c u):TR E (lH S dst c).t (a.put dst u):=by
 cases dst with
 | none=>exact h
 | some d =>
  refine ⟨by simp [lH,Act.put,h.len],fun n c' u' h1 h2=>?_,h.df,h.gt⟩
  simp only [lH,Act.put,List.getElem?_set,Array.getElem?_setIfInBounds] at h1 h2
  by_cases hd:d=n
  ·subst hd
   simp only [if_true] at h1 h2
   split at h1
   ·rename_i hl
    rw [if_pos (by rw [← h.len]; exact hl)] at h2
    cases h1; cases h2
    exact hv
   ·cases h1
  ·rw [if_neg hd] at h1 h2
   exact h.val n c' u' h1 h2
theorem fL {α:Type} {P:Program}:∀ (s:Sem α) {x:α} (w:World),aw P s=some x→s.run P w=.ok x w
 | .pure a,x,w,h=>by simp only [aw,Option.some.injEq] at h; subst h; rfl
 | .program k,x,w,h=>by simp only [aw] at h; exact fL (k P) w h
 | .load _ _ _,_,_,h=>by cases h
 | .store _ _ _ _,_,_,h=>by cases h
 | .new _ _,_,_,h=>by cases h
 | .shape _ _,_,_,h=>by cases h
 | .freeze _ _ _,_,_,h=>by cases h
 | .frozen _ _,_,_,h=>by cases h
 | .getObj _ _,_,_,h=>by cases h
 | .setObj _ _ _,_,_,h=>by cases h
 | .choose _ _,_,_,h=>by cases h
 | .sys _ _,_,_,h=>by cases h
 | .mark _ _,_,_,h=>by cases h
 | .halt _,_,_,h=>by cases h
theorem DT {P:Program} {op:BinOp} {a b c:Value} (h:IL op a b=some c) (t:TypeId) (w:World) :
    (binOp op t a b).run P w=.ok c w∧plain c=true:=by
  unfold IL at h
  split at h
  · split at h <;> first
      | (split at h
         · rename_i hk
           subst hk
           simp only [Option.some.injEq] at h
           subst h
           refine ⟨?_,rfl⟩
           simp [binOp,Op.intArith,Op.intCmp,Op.intBits]
         · cases h)
      | cases h
  · split at h <;> first
      | (simp only [Option.some.injEq] at h
         subst h
         refine ⟨?_,rfl⟩
         simp [binOp,Op.stringOp])
      | cases h
  · cases h
theorem Cd {P:Program} {op:BinOp} {a b:Value} {K:Value→Prop} (h:wJ op a b K) (t:TypeId) (w:World) :
    ∃ c,K c∧(binOp op t a b).run P w=.ok c w∧plain c=true:=by
  unfold wJ at h
  split at h <;> first
    | exact False.elim h
    | (obtain ⟨hc,hK⟩:=ae h
       refine ⟨_,hK,?_,rfl⟩
       simp only [Bool.and_eq_true,decide_eq_true_eq,Bool.not_eq_true',beq_eq_false_iff_ne,ne_eq] at hc
       first
         | (obtain ⟨rfl,hb⟩:=hc; simp [binOp,Op.intDiv,hb])
         | (have hb:¬ _<(0:Int):=Int.not_lt.2 hc
            simp [binOp,Op.shift,hb])
         | (simp only [binOp,Op.stringOp]
            rw [if_neg (by rw [show IntKind.i64.max=9223372036854775807 from rfl]; omega)]
            rfl))
theorem FS {P:Program} {op:UnOp} {x:AV} {K:AV→Prop} {E:Env} {u:Value} (h:Lz op x K) (hx:VR E x u) (w:World) :
    ∃ r z,K r∧VR E r z∧(Op.unary op u).run P w=.ok z w:=by
  unfold Lz at h
  split at h <;> first
    | exact False.elim h
    | (obtain ⟨rfl,_⟩:=hx.vI
       exact ⟨_,_,h,.v _ _ rfl,by simp [Op.unary,Op.intArith,Op.intBits]⟩)
theorem nW {E:Env}:∀ {as:List AV} {xs:List Value} {us:List Value},vH as=some xs→bO E as us→us=xs
 | [],xs,us,h,hv=>by simp only [vH,Option.some.injEq] at h; subst h; exact hv.unnil
 | a::as,xs,us,h,hv=>by
  obtain ⟨u,us',rfl,ha,hs⟩:=hv.uncons
  unfold vH at h
  split at h
  ·rename_i x xs' h1 h2
   simp only [Option.some.injEq] at h
   subst h
   unfold Ly at h1
   split at h1
   ·simp only [Option.some.injEq] at h1
    subst h1
    rw [ha.vI.1,nW h2 hs]
   ·cases h1
  ·cases h
def G0:Value→Bool
 | .nilIface | .agg _=>false
 | _=>true
theorem jN {op:BinOp} {t:TypeId} {X Y:Operand} {a b:Value} (h:G0 a=true):eqGuard op t X Y a b=pure ():=by
 unfold eqGuard
 cases a <;> first | (cases op <;> rfl) | (cases h; done)
theorem uo {P:Program} {t:TypeId} {u v:Value} {b:Bool} {w:World} (h:∀ d:Nat,(Op.equalIn (d + 1) t u v).run P w=.ok b w):(Op.equal t u v).run P w=.ok b w:=h 9999
theorem zH {P:Program} {t:TypeId} (hu:P.underlying t=some .bool) (a b:Bool) (w:World) (d:Nat):(Op.equalIn (d + 1) t (.bool a) (.bool b)).run P w=.ok (a==b) w:=by
 unfold Op.equalIn
 rw [Sem.run_bind,run_underlying hu]
 rfl
theorem u_ {P:Program} {t:TypeId} {x y:AV} {E:Env} {u v:Value} {b:Bool} (hk:kindOk P t x y=true) (h:EU x y=some b) (hx:VR E x u) (hy:VR E y v) (w:World) :
    (Op.equal t u v).run P w=.ok b w∧G0 u=true∧(binOp .eql t u v).run P w=((Op.equal t u v).run P w).andThen (fun r w=>.ok (.bool r) w)∧(binOp .neq t u v).run P w=((Op.equal t u v).run P w).andThen (fun r w=>.ok (.bool (!r)) w):=by
  have key:(∀ d:Nat,(Op.equalIn (d + 1) t u v).run P w=.ok b w)→G0 u=true∧binOp .eql t u v=(do pure (.bool (← Op.equal t u v)))∧binOp .neq t u v=(do pure (.bool (!(← Op.equal t u v)))) →
      (Op.equal t u v).run P w=.ok b w∧G0 u=true∧(binOp .eql t u v).run P w=((Op.equal t u v).run P w).andThen (fun r w=>.ok (.bool r) w)∧(binOp .neq t u v).run P w=((Op.equal t u v).run P w).andThen (fun r w=>.ok (.bool (!r)) w) :=
    fun h1 h2=>⟨uo h1,h2.1,by rw [h2.2.1,Sem.run_bind]; rfl,by rw [h2.2.2,Sem.run_bind]; rfl⟩
  unfold EU at h
  split at h
  all_goals first
    | (cases h; done)
    | (simp only [Option.some.injEq] at h
       subst h
       unfold kindOk at hk
       split at hk
       all_goals first
         | (cases hk; done)
         | (cases hx <;> cases hy <;> have hu:=‹P.underlying t=some _› <;> first
              | (refine key (fun d=>?_) ⟨rfl,rfl,rfl⟩; unfold Op.equalIn; rw [Sem.run_bind,run_underlying hu]; rfl)
              | (exfalso; simp_all; done)))
theorem DU {P:Program} {op:BinOp} {t:TypeId} {x y:AV} {K:AV→Prop} {E:Env} {u v:Value} (hk:kindOk P t x y=true) (h:GR op x y K) (hx:VR E x u) (hy:VR E y v) (w:World) (X Y:Operand) :
  ∃ r z,K r∧VR E r z∧(do eqGuard op t X Y u v; binOp op t u v:Sem Value).run P w=.ok z w:=by
 unfold GR at h
 split at h
 ·split at h
  ·rename_i b hb
   obtain ⟨h1,h2,h3⟩:=u_ hk hb hx hy w
   exact ⟨_,_,h,.v _ _ rfl,by rw [jN h2]; simp [h3.1,h1]⟩
  ·exact False.elim h
 ·split at h
  ·rename_i b hb
   obtain ⟨h1,h2,h3⟩:=u_ hk hb hx hy w
   exact ⟨_,_,h,.v _ _ rfl,by rw [jN h2]; simp [h3.2,h1]⟩
  ·exact False.elim h
 ·exact False.elim h
theorem wR {P:Program} {op:BinOp} {t:TypeId} {x y:AV} {K:AV→Prop} {E:Env} {u v:Value} (h:DG P op t x y K) (hx:VR E x u) (hy:VR E y v) (w:World) (X Y:Operand) :
    ∃ r z,K r∧VR E r z∧(do eqGuard op t X Y u v; binOp op t u v:Sem Value).run P w=.ok z w:=by
  unfold DG at h
  split at h
  · rename_i a b
    obtain ⟨rfl,pa⟩:=hx.vI
    obtain ⟨rfl,pb⟩:=hy.vI
    have hg:(eqGuard op t X Y u v).run P w=.ok () w:=by
      rw [jN (by cases u <;> first | rfl | (cases pa; done))]
      rfl
    unfold zx at h
    split at h
    · rename_i c hc
      obtain ⟨h1,h2⟩:=DT (P:=P) hc t w
      exact ⟨_,_,h,.v _ _ h2,by simp [hg,h1]⟩
    · split at h
      · unfold B5 at h
        split at h
        · rename_i hu
          split at h <;> first
            | exact False.elim h
            | (refine ⟨_,_,h,.v _ _ rfl,?_⟩
               rw [Sem.run_bind,hg,Result.andThen_ok]
               first
                 | (show (Op.equal t (.bool _) (.bool _) >>= fun r=>(pure (Value.bool r):Sem Value)).run P w=_
                    rw [Sem.run_bind,uo (zH hu _ _ w)]
                    rfl)
                 | (show (Op.equal t (.bool _) (.bool _) >>= fun r=>(pure (Value.bool (!r)):Sem Value)).run P w=_
                    rw [Sem.run_bind,uo (zH hu _ _ w)]
                    rfl))
        · exact False.elim h
      · obtain ⟨c,hK,h1,h2⟩:=Cd (P:=P) h t w
        exact ⟨_,_,hK,.v _ _ h2,by simp [hg,h1]⟩
  · rename_i as bs
    obtain ⟨us,rfl,hus⟩:=hx.aggI
    obtain ⟨ws,rfl,hws⟩:=hy.aggI
    split at h
    · rename_i xs ys h1 h2
      have e1:=nW h1 hus
      have e2:=nW h2 hws
      split at h
      · rename_i b hb
        have hr:=fL _ w hb
        refine ⟨_,_,h,.v _ _ rfl,?_⟩
        have e3:us=xs.toArray:=by rw [← e1]
        have e4:ws=ys.toArray:=by rw [← e2]
        subst e3 e4
        rw [← hr]
        rfl
      · exact False.elim h
    · exact False.elim h
  · obtain ⟨hk,h⟩:=ae h
    exact DU hk h hx hy w X Y
theorem run_sizeOf {P:Program} {t:TypeId} {i:TypeInfo} (h:P.info? t=some i) (w:World):(sizeOf t).run P w=.ok i.size w:=by
 unfold sizeOf
 rw [Sem.run_bind,run_typeInfo w h]
 rfl
theorem li {P:Program} {t:TypeId} {d:TypeDesc} (h:P.underlying t=some d) (w:World):(isAgg t).run P w=.ok (match d with | .struct _ | .array _ _=>true | _=>false) w:=by
 unfold isAgg
 rw [Sem.run_bind,run_underlying h,Result.andThen_ok]
 cases d <;> rfl
theorem wS {P:Program} {t:TypeId} {row:List AV} {j:Nat} {k:AV→Prop} {E:Env} {us:Array Value} (h:i6 P t row j k) (hr:bO E row us.toList) (w:World) :
  ∃ r u,k r∧VR E r u∧(part t us j).run P w=.ok u w:=by
 have agg:∀ i,P.info? t=some i→bo (Nat.ble (j + i.size) row.length) (iY ((row.drop j).take i.size) fun cs=>k (.agg cs))→(isAgg t).run P w=.ok true w →
   ∃ r u,k r∧VR E r u∧(part t us j).run P w=.ok u w:=by
  intro i hi h ha
  obtain ⟨hl,hk⟩:=ae h
  rw [dv] at hk
  refine ⟨_,.agg (us.extract j (j + i.size)),hk,bO.aggV ?_,?_⟩
  ·have:=(hr.drop j).take i.size
   rw [Array.toList_extract]
   simpa [List.extract] using this
  ·unfold part
   rw [Sem.run_bind,ha,Result.andThen_ok,if_pos rfl,Sem.run_bind,run_sizeOf hi]
   rfl
 unfold i6 at h
 split at h
 ·rename_i hu
  split at h
  ·rename_i i hi
   exact agg i hi h (by rw [li hu])
  ·exact False.elim h
 ·rename_i hu
  split at h
  ·rename_i i hi
   exact agg i hi h (by rw [li hu])
  ·exact False.elim h
 ·rename_i d h1 h2 hu
  split at h
  ·rename_i c hc
   obtain ⟨u,hu',hv⟩:=hr.get hc
   refine ⟨_,_,h,hv,?_⟩
   unfold part
   have ha:(isAgg t).run P w=.ok false w:=by
    rw [li hu]
    cases d <;> first | rfl | (exact absurd rfl (h1 _)) | (exact absurd rfl (h2 _ _))
   rw [Sem.run_bind,ha,Result.andThen_ok,if_neg (by simp)]
   rw [Array.getElem?_toList] at hu'
   rw [hu']
   rfl
  ·exact False.elim h
 ·exact False.elim h
theorem f8 (b o m:Nat):(⟨b,o,none⟩:Addr).add m=⟨b,o + m,none⟩:=by
 unfold Addr.add
 split
 ·rename_i h; subst h; rfl
 ·rfl
theorem lj (w:World) (b i:Nat):w.cell? ⟨b,i,none⟩=cD w.heap b i:=by
 unfold World.cell? cD
 split <;> simp_all
theorem rI {P:Program} {t:TypeId} {row:List AV} {j:Nat} {k:AV→Prop} {E:Env} {us:List Value} {b o:Nat} (h:i6 P t row j k) (hr:bO E row us) (w:World)
  (hc:∀ (m:Nat) (u:Value),us[m]?=some u→cD w.heap b (o + m)=some u) :
  ∃ r u,k r∧VR E r u∧(Instr.loadAt t (.pointer (some ⟨b,o + j,none⟩))).run P w=.ok u w:=by
 have agg:∀ i,P.info? t=some i→bo (Nat.ble (j + i.size) row.length) (iY ((row.drop j).take i.size) fun cs=>k (.agg cs))→(isAgg t).run P w=.ok true w →
   ∃ r u,k r∧VR E r u∧(Instr.loadAt t (.pointer (some ⟨b,o + j,none⟩))).run P w=.ok u w:=by
  intro i hi h ha
  obtain ⟨hl,hk⟩:=ae h
  rw [dv] at hk
  have hle:j + i.size≤us.length:=by rw [← hr.1]; exact Nat.le_of_ble_eq_true hl
  have hlen:((us.drop j).take i.size).length=i.size:=by simp; omega
  refine ⟨_,.agg ((us.drop j).take i.size).toArray,hk,bO.aggV (by simpa using (hr.drop j).take i.size),?_⟩
  have hrun:=run_loadCells_list (P:=P) (w:=w) ⟨b,o + j,none⟩ ((us.drop j).take i.size) (fun m v hv=>by
   rw [f8,lj,Nat.add_assoc]
   refine hc _ _ ?_
   rw [List.getElem?_take] at hv
   split at hv
   ·rw [List.getElem?_drop] at hv
    exact hv
   ·cases hv)
  rw [hlen] at hrun
  unfold Instr.loadAt Instr.sureAddr loadVar
  simp only [Sem.run_bind,Sem.run_pure,Result.andThen_ok,ha,if_true,run_sizeOf hi,hrun]
 unfold i6 at h
 split at h
 ·rename_i hu
  split at h
  ·rename_i i hi
   exact agg i hi h (by rw [li hu])
  ·exact False.elim h
 ·rename_i hu
  split at h
  ·rename_i i hi
   exact agg i hi h (by rw [li hu])
  ·exact False.elim h
 ·rename_i d h1 h2 hu
  split at h
  ·rename_i c hcc
   obtain ⟨u,hu',hv⟩:=hr.get hcc
   refine ⟨_,_,h,hv,?_⟩
   have ha:(isAgg t).run P w=.ok false w:=by
    rw [li hu]
    cases d <;> first | rfl | (exact absurd rfl (h1 _)) | (exact absurd rfl (h2 _ _))
   unfold Instr.loadAt Instr.sureAddr loadVar
   have hcell:w.cell? ⟨b,o + j,none⟩=some u:=by rw [lj]; exact hc _ _ hu'
   simp [ha,hcell]
  ·exact False.elim h
 ·exact False.elim h
theorem Ce:∀ (xs cs:List AV) (m:Nat),(over xs cs)[m]?=if m<cs.length∧m<xs.length then cs[m]? else xs[m]?
 | xs,[],m=>by simp [over]
 | [],c::cs,m=>by simp [over]
 | x::xs,c::cs,0=>by simp [over]
 | x::xs,c::cs,m + 1=>by
  have:=Ce xs cs m
  simp only [over,List.getElem?_cons_succ,List.length_cons,this]
  by_cases h:m<cs.length∧m<xs.length
  ·rw [if_pos h,if_pos (by omega)]
  ·rw [if_neg h,if_neg (by omega)]
theorem va:∀ (xs cs:List AV),(over xs cs).length=xs.length
 | xs,[]=>by simp [over]
 | [],c::cs=>by simp [over]
 | x::xs,c::cs=>by simp [over,va xs cs]
theorem rJ:∀ (row:List AV) (n:Nat) (cs:List AV) (m:Nat),(splice row n cs)[m]?=if n≤m∧m<n + cs.length∧m<row.length then cs[m - n]? else row[m]?
 | row,0,cs,m=>by
  have:=Ce row cs m
  have e:splice row 0 cs=over row cs:=by cases row <;> rfl
  rw [e,this]
  simp
 | [],n + 1,cs,m=>by simp [splice]
 | x::xs,n + 1,cs,0=>by simp [splice]
 | x::xs,n + 1,cs,m + 1=>by
  have:=rJ xs n cs m
  simp only [splice,List.getElem?_cons_succ,List.length_cons,this,Nat.add_sub_add_right]
  by_cases h:n≤m∧m<n + cs.length∧m<xs.length
  ·rw [if_pos h,if_pos (by omega)]
  ·rw [if_neg h,if_neg (by omega)]
theorem ik:∀ (row:List AV) (n:Nat) (cs:List AV),(splice row n cs).length=row.length
 | row,0,cs=>by
  have e:splice row 0 cs=over row cs:=by cases row <;> rfl
  rw [e,va]
 | [],n + 1,cs=>rfl
 | x::xs,n + 1,cs=>by simp [splice,ik xs n cs]
def bV (us:Array Value) (off:Nat):List Value→Nat→Array Value
 | [],_=>us
 | v::vs,i=>bV (us.setIfInBounds (off + i) v) off vs (i + 1)
theorem cn:∀ (vs:List Value) (us:Array Value) (off i:Nat),(bV us off vs i).size=us.size
 | [],_,_,_=>rfl
 | v::vs,us,off,i=>by rw [bV,cn vs]; simp
theorem jO:∀ (vs:List Value) (us:Array Value) (off i m:Nat),(bV us off vs i)[m]?=if off + i≤m∧m<off + i + vs.length∧m<us.size then vs[m - (off + i)]? else us[m]?
 | [],us,off,i,m=>by
  rw [if_neg (by simp; omega)]
  rfl
 | v::vs,us,off,i,m=>by
  rw [bV,jO vs]
  simp only [Array.size_setIfInBounds,List.length_cons,Array.getElem?_setIfInBounds]
  by_cases h1:off + (i + 1)≤m∧m<off + (i + 1) + vs.length∧m<us.size
  ·rw [if_pos h1,if_pos (by omega),show m - (off + i)=(m - (off + (i + 1))) + 1 by omega]
   rfl
  ·rw [if_neg h1]
   by_cases h2:off + i=m
   ·subst h2
    rw [if_pos rfl]
    by_cases h3:off + i<us.size
    ·rw [if_pos h3,if_pos (by omega)]; simp
    ·rw [if_neg h3,if_neg (by omega)]
     simp [Array.getElem?_eq_none (Nat.le_of_not_lt h3)]
   ·rw [if_neg h2,if_neg (by omega)]
theorem sM:∀ (vs:List Value) (us:Array Value) (off i:Nat),(vs.zipIdx i).foldl (fun cs (x:Value×Nat)=>cs.setIfInBounds (off + x.2) x.1) us=bV us off vs i
 | [],_,_,_=>rfl
 | v::vs,us,off,i=>by
  rw [List.zipIdx_cons,List.foldl_cons,sM vs]
  rfl
theorem bO.splice {E:Env} {row cs:List AV} {us:Array Value} {vs:List Value} (h:bO E row us.toList) (k:bO E cs vs) (n:Nat):bO E (splice row n cs) (bV us n vs 0).toList:=by
 have hl:row.length=us.size:=by simpa using h.1
 refine ⟨by have:=cn vs us n 0; simp [ik,this,hl],fun m c u h1 h2=>?_⟩
 rw [rJ] at h1
 rw [Array.getElem?_toList,jO] at h2
 simp only [Nat.add_zero] at h2
 by_cases hc:n≤m∧m<n + cs.length∧m<row.length
 ·rw [if_pos hc] at h1
  rw [if_pos (by rw [← k.1,← hl]; exact hc)] at h2
  exact k.2 _ c u h1 h2
 ·rw [if_neg hc] at h1
  rw [if_neg (by rw [← k.1,← hl]; exact hc)] at h2
  exact h.2 m c u h1 (by rw [Array.getElem?_toList]; exact h2)
def pR:Value→Bool
 | .agg _ | .tuple _=>false
 | _=>true
theorem rK {E:Env} {c:AV} {u:Value} (h:mS c=true) (hv:VR E c u):pR u=true:=by
 cases hv <;> first | rfl | (cases h; done) | (rename_i hp; revert hp; cases u <;> intro hp <;> first | rfl | (cases hp; done))
theorem AW {u:Value} (h:pR u=true):u.cells=#[u]:=by
 cases u <;> first | rfl | (cases h; done)
theorem nX {E:Env} {a:AV} {u:Value} {k:List AV→Prop} (h:nS a k) (hv:VR E a u):∃ cs,k cs∧bO E cs u.cells.toList∧∀ c∈cs,mS c=true:=by
 unfold nS at h
 split at h
 ·obtain ⟨us,rfl,hs⟩:=hv.aggI
  obtain ⟨h1,h2⟩:=ae h
  exact ⟨_,h2,hs,fun c hc=>List.all_eq_true.1 h1 c hc⟩
 ·exact False.elim h
 ·exact False.elim h
 ·rename_i h1 h2 h3
  have ho:mS a=true:=by
   cases a <;> first | rfl | (exact (h1 _ rfl).elim) | (exact (h2 rfl).elim) | (exact (h3 _ rfl).elim)
  refine ⟨_,h,?_,fun c hc=>by simp at hc; subst hc; exact ho⟩
  rw [AW (rK ho hv)]
  exact .cons hv (.nil E)
theorem dM {P:Program} {e:TypeId} {k:List AV→Prop} (h:cC P e k):∃ i z cs,P.info? e=some i∧i.zero=some z∧z.cells.size=i.size∧k cs∧∀ E,bO E cs z.cells.toList:=by
 unfold cC at h
 split at h
 ·rename_i i hi
  split at h
  ·rename_i z hz
   obtain ⟨h1,h2⟩:=ae h
   rw [iG] at h2
   refine ⟨i,z,_,hi,hz,by simpa using h1,h2,fun E=>⟨by simp,fun m c u h3 h4=>?_⟩⟩
   rw [List.getElem?_map,Option.map_eq_some_iff] at h3
   obtain ⟨y,hy,rfl⟩:=h3
   rw [hy] at h4
   cases h4
   exact ul
  ·exact False.elim h
 ·exact False.elim h
def M9 (E:Env) (ps:List (Nat×AV)) (qs:List (Nat×Value)):Prop :=
 ps.map (·.1)=qs.map (·.1)∧bO E (ps.map (·.2)) (qs.map (·.2))
theorem lI {E:Env} {place:Nat→Option (Nat×Nat)} {k:List AV→Prop}:∀ {ps:List (Nat×AV)} {qs:List (Nat×Value)} {cells:List AV} {us:Array Value},M9 E ps qs→bO E cells us.toList →
  oP place cells ps k→∃ cs us',k cs∧bO E cs us'.toList∧us'.size=us.size∧Instr.fill place us qs=some us'
 | [],qs,cells,us,hp,hc,h=>by
  have:qs=[]:=by have:=hp.1; simpa using this.symm
  subst this
  exact ⟨_,us,dv.1 h,hc,rfl,rfl⟩
 | (i,x)::ps,qs,cells,us,hp,hc,h=>by
  cases qs with
  | nil=>have:=hp.1; simp at this
  | cons q qs =>
   obtain ⟨i',v⟩:=q
   have h1:=hp.1
   simp only [List.map_cons,List.cons.injEq] at h1
   obtain ⟨rfl,h1⟩:=h1
   have h2:=hp.2
   simp only [List.map_cons] at h2
   obtain ⟨u,us',e,hx,hs⟩:=h2.uncons
   simp only [List.cons.injEq] at e
   obtain ⟨rfl,rfl⟩:=e
   unfold oP at h
   split at h
   ·rename_i off size hpl
    obtain ⟨cs,h,hcs,_⟩:=nX h hx
    obtain ⟨hb,h⟩:=ae h
    simp only [Bool.and_eq_true] at hb
    have e1:cs.length=size:=Nat.eq_of_beq_eq_true hb.1
    have e2:off + cs.length≤cells.length:=Nat.le_of_ble_eq_true hb.2
    have e3:cs.length=v.cells.size:=by simpa using hcs.1
    have e4:cells.length=us.size:=by simpa using hc.1
    have hc':=hc.splice hcs off
    obtain ⟨cs',us',hk,hv,hsz,hf⟩:=lI (ps:=ps) (qs:=qs) ⟨h1,hs⟩ hc' h
    refine ⟨cs',us',hk,hv,by rw [hsz,cn],?_⟩
    unfold Instr.fill
    rw [hpl]
    simp only
    rw [if_neg (by simp; omega)]
    have:=sM v.cells.toList us off 0
    rw [← hf]
    congr 1
    rw [← this,← Array.foldl_toList,Array.toList_zipIdx]
   ·exact False.elim h
end A
end Go.Proofs.YtomahedcdcnnhaaGreatDoor
