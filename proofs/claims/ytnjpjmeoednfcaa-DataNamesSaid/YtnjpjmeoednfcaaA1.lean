/- The abstract evaluator: a small machine over the model's Code, written in continuation-passing style, whose answers are propositions. Nothing is claimed of the program here: definitions alone. -/
import Derived.Calls
namespace Go.Proofs.Ytnjpjmeoednfcaa
namespace A
open Go

inductive Key where
  | L (d : Nat)
  | O (i : Nat)
  deriving DecidableEq

/-- Abstract values. 'sl': an empty or frozen slice by its rows; 'mf': the whole of object id; 'msl': a part of it, with so many known places behind. -/
inductive AV where
  | bad
  | v (x : Value)
  | nilp
  | ptr (k : Key) (i j : Nat)
  | fptr (row : List AV) (j : Nat)
  | nilsl
  | esl
  | sl (rows : List (List AV))
  | mf (id : Nat)
  | msl (id off len ext : Nat)
  | nilmap
  | mp (id : Nat)
  | nilfn
  | fn (f : Nat) (first cap : List AV)
  | agg (cs : List AV)
  | tup (vs : List AV)

inductive Ob where
  | arr (fl : Bool) (sz : Nat) (rows : List (List AV))
  | mapo (fl : Bool) (es : List (AV × AV))
  | dead

/-- Slots; local boxes by slot; objects by number; the first number of this activation's own objects. -/
structure St where
  t : List AV
  l : List (Nat × List AV)
  o : List Ob
  b : Nat

inductive Ex where
  | nrm
  | ex (id : Nat)
  | ret

/-- Of a function: the slots whose box is an object; the slots whose slice literal is an object. -/
structure Pol where
  esc : List Nat
  ms : List Nat

structure Ctx where
  P : Program
  pure : Nat → Bool
  pol : Nat → Pol
  pcall : Nat → List AV → (AV → Prop) → Prop
  scall : Nat → List AV → List Ob → (AV → List Ob → Prop) → Prop
  loop : Pol → Code → St → (Ex → St → Prop) → Prop

/-- The evaluator stops here: there is nothing to be shown. -/
def Fail (_n : Nat) : Prop := False
def Fork (b : Bool) (X Y : Prop) : Prop := match b with | true => X | false => Y
def Chk (b : Bool) (X : Prop) : Prop := match b with | true => X | false => Fail 1

/-! ### Forcing -/
def forceA (a : AV) (k : AV → Prop) : Prop :=
  match a with
  | .bad => k .bad
  | .v x => k (.v x)
  | .nilp => k .nilp
  | .ptr x i j => k (.ptr x i j)
  | .fptr r j => k (.fptr r j)
  | .nilsl => k .nilsl
  | .esl => k .esl
  | .sl r => k (.sl r)
  | .mf i => k (.mf i)
  | .msl i a b c => k (.msl i a b c)
  | .nilmap => k .nilmap
  | .mp i => k (.mp i)
  | .nilfn => k .nilfn
  | .fn f a b => k (.fn f a b)
  | .agg c => k (.agg c)
  | .tup c => k (.tup c)

def forceL : List AV → (List AV → Prop) → Prop
  | [], k => k []
  | x :: xs, k => forceL xs fun ys => k (x :: ys)

def forceAL : List AV → (List AV → Prop) → Prop
  | [], k => k []
  | x :: xs, k => forceA x fun y => forceAL xs fun ys => k (y :: ys)

def nthK : List AV → Nat → (AV → Prop) → Prop
  | [], _, _ => Fail 2
  | x :: _, 0, k => k x
  | _ :: xs, n + 1, k => nthK xs n k

def setK : List AV → Nat → AV → (List AV → Prop) → Prop
  | [], _, _, k => k []
  | _ :: xs, 0, v, k => k (v :: xs)
  | x :: xs, n + 1, v, k => setK xs n v fun ys => k (x :: ys)

/-! ### Constants, operands -/
def ofC1 : Value → AV
  | .bool b => .v (.bool b)
  | .int k n => .v (.int k n)
  | .float k n => .v (.float k n)
  | .string s => .v (.string s)
  | .pointer none => .nilp
  | .slice none 0 0 => .nilsl
  | .map none => .nilmap
  | .nilFunc => .nilfn
  | _ => .bad
def ofC : Value → AV
  | .agg cs => .agg (cs.toList.map ofC1)
  | x => ofC1 x

def getK (S : St) (x : Operand) (k : AV → Prop) : Prop :=
  match x with
  | .tmp t => nthK S.t t k
  | .const c => forceA (ofC c) k
  | .func f => k (.fn f [] [])
  | .global _ => Fail 3

def getsK (S : St) : List Operand → (List AV → Prop) → Prop
  | [], k => k []
  | x :: xs, k => getK S x fun a => getsK S xs fun as => k (a :: as)

def putK (dst : Option Tmp) (a : AV) (S : St) (K : St → Prop) : Prop :=
  match dst with
  | none => K S
  | some d => setK S.t d a fun t => K { t := t, l := S.l, o := S.o, b := S.b }

/-- The bool in slot d; in each branch the slot holds the bool itself. -/
def boolAt (d : Nat) (S : St) (k : Bool → St → Prop) : Prop :=
  nthK S.t d fun a =>
    match a with
    | .v (.bool b) => Fork b (setK S.t d (.v (.bool true)) fun t => k true { t := t, l := S.l, o := S.o, b := S.b }) (setK S.t d (.v (.bool false)) fun t => k false { t := t, l := S.l, o := S.o, b := S.b })
    | _ => Fail 4

def boolOf (c : Operand) (S : St) (k : Bool → St → Prop) : Prop :=
  match c with
  | .tmp d => boolAt d S k
  | .const (.bool b) => Fork b (k true S) (k false S)
  | _ => Fail 5

/-! ### References -/
def killA : Nat → Key → AV → AV
  | 0, _, _ => .bad
  | n + 1, k, a =>
    match a with
    | .ptr k' i j => if k' = k then .bad else .ptr k' i j
    | .mf id => if Key.O id = k then .bad else .mf id
    | .msl id a b c => if Key.O id = k then .bad else .msl id a b c
    | .mp id => if Key.O id = k then .bad else .mp id
    | .fn f x y => .fn f (x.map (killA n k)) (y.map (killA n k))
    | .agg cs => .agg (cs.map (killA n k))
    | .tup cs => .tup (cs.map (killA n k))
    | a => a

def killL (k : Key) : List AV → (List AV → Prop) → Prop
  | [], K => K []
  | x :: xs, K => forceA (killA 4 k x) fun y => killL k xs fun ys => K (y :: ys)

def killLoc (k : Key) : List (Nat × List AV) → (List (Nat × List AV) → Prop) → Prop
  | [], K => K []
  | (d, c) :: xs, K => killL k c fun c' => killLoc k xs fun ys => K ((d, c') :: ys)

def killOb (k : Key) : Ob → Ob
  | .arr false sz rows => .arr false sz (rows.map (List.map (killA 4 k)))
  | .mapo false es => .mapo false (es.map fun e => (e.1, killA 4 k e.2))
  | o => o

def killObs (k : Key) : List Ob → (List Ob → Prop) → Prop
  | [], K => K []
  | .arr true sz rows :: xs, K => killObs k xs fun ys => K (.arr true sz rows :: ys)
  | .dead :: xs, K => killObs k xs fun ys => K (.dead :: ys)
  | .mapo true es :: xs, K => killObs k xs fun ys => K (.mapo true es :: ys)
  | .arr false sz rows :: xs, K => killObs k xs fun ys => K (.arr false sz (rows.map (List.map (killA 4 k))) :: ys)
  | .mapo false es :: xs, K => killObs k xs fun ys => K (.mapo false (es.map fun e => (e.1, killA 4 k e.2)) :: ys)

/-- No reference at all inside. -/
def rfree : Nat → AV → Bool
  | 0, _ => false
  | n + 1, a =>
    match a with
    | .v _ | .nilp | .fptr .. | .nilsl | .esl | .sl _ | .nilmap | .nilfn => true
    | .fn _ x y => x.all (rfree n) && y.all (rfree n)
    | .agg cs | .tup cs => cs.all (rfree n)
    | _ => false
/-- No reference to a local box inside. -/
def noL : Nat → AV → Bool
  | 0, _ => false
  | n + 1, a =>
    match a with
    | .ptr (.L _) _ _ | .bad => false
    | .fn _ x y => x.all (noL n) && y.all (noL n)
    | .agg cs | .tup cs => cs.all (noL n)
    | _ => true
/-- The value of one cell. -/
def okCell : AV → Bool
  | .bad | .agg _ | .tup _ => false
  | _ => true
/-- A scalar: says nothing of memory. -/
def scal : Nat → AV → Bool
  | 0, _ => false
  | n + 1, a =>
    match a with
    | .v _ | .nilp | .nilsl | .esl | .nilmap | .nilfn => true
    | .agg cs | .tup cs => cs.all (scal n)
    | _ => false

/-! ### Rows and objects -/
/-- The rows' size, where there is a row. -/
def szOk (size : Nat) : List (List AV) → Bool
  | [] => true
  | r :: _ => Nat.beq r.length size

def cellsK (a : AV) (k : List AV → Prop) : Prop :=
  match a with
  | .agg cs => Chk (cs.all okCell) (k cs)
  | .bad | .tup _ => Fail 6
  | a => k [a]

def over : List AV → List AV → List AV
  | xs, [] => xs
  | [], _ => []
  | _ :: xs, c :: cs => c :: over xs cs
def splice : List AV → Nat → List AV → List AV
  | row, 0, cs => over row cs
  | [], _ + 1, _ => []
  | x :: xs, n + 1, cs => x :: splice xs n cs

def lookL : List (Nat × List AV) → Nat → Option (List AV)
  | [], _ => none
  | (d, c) :: xs, e => if d = e then some c else lookL xs e
def dropL : List (Nat × List AV) → Nat → List (Nat × List AV)
  | [], _ => []
  | (d, c) :: xs, e => if d = e then dropL xs e else (d, c) :: dropL xs e
def setL : List (Nat × List AV) → Nat → List AV → List (Nat × List AV)
  | [], _, _ => []
  | (d, c) :: xs, e, c' => if d = e then (d, c') :: xs else (d, c) :: setL xs e c'
def forceLoc : List (Nat × List AV) → (List (Nat × List AV) → Prop) → Prop
  | [], k => k []
  | (d, c) :: xs, k => forceLoc xs fun ys => k ((d, c) :: ys)
def forceO : List Ob → (List Ob → Prop) → Prop
  | [], k => k []
  | x :: xs, k => forceO xs fun ys => k (x :: ys)

def rowK (S : St) (key : Key) (i : Nat) (k : List AV → Prop) : Prop :=
  match key with
  | .L d =>
    match lookL S.l d with
    | some row => match i with | 0 => k row | _ + 1 => Fail 7
    | none => Fail 8
  | .O id =>
    match S.o[id]? with
    | some (.arr _ _ rows) => match rows[i]? with | some row => k row | none => Fail 9
    | _ => Fail 10

/-- The row that an address lies in, and its place there. -/
def atK (S : St) (a : AV) (k : List AV → Nat → Prop) : Prop :=
  match a with
  | .ptr key i j => rowK S key i fun row => k row j
  | .fptr row j => k row j
  | _ => Fail 11

def partK (P : Program) (t : TypeId) (row : List AV) (j : Nat) (k : AV → Prop) : Prop :=
  match P.underlying t with
  | some (.struct _) | some (.array _ _) =>
    match P.info? t with
    | some i => Chk (Nat.ble (j + i.size) row.length) (forceL ((row.drop j).take i.size) fun cs => k (.agg cs))
    | none => Fail 12
  | some _ => match row[j]? with | some c => k c | none => Fail 13
  | none => Fail 14

def storeK (S : St) (a : AV) (cs : List AV) (K : St → Prop) : Prop :=
  match a with
  | .ptr (.L d) i j =>
    match lookL S.l d with
    | some row =>
      match i with
      | 0 => Chk (Nat.ble (j + cs.length) row.length) (forceL (splice row j cs) fun row' => forceLoc (setL S.l d row') fun l => K { t := S.t, l := l, o := S.o, b := S.b })
      | _ + 1 => Fail 15
    | none => Fail 16
  | .ptr (.O id) i j =>
    match S.o[id]? with
    | some (.arr fl sz rows) =>
      match rows[i]? with
      | some row => Chk (Nat.ble (j + cs.length) row.length && cs.all (noL 4)) (forceL (splice row j cs) fun row' => forceO (S.o.set id (.arr (fl && cs.all (rfree 4)) sz (rows.set i row'))) fun o => K { t := S.t, l := S.l, o := o, b := S.b })
      | none => Fail 17
    | _ => Fail 18
  | _ => Fail 19

/-! ### Scalars -/
def aBin (op : BinOp) (x y : Value) : Option Value :=
  match x, y with
  | .int k a, .int k' b =>
    match op with
    | .add => if k = k' then some (.int k (k.wrap (a + b))) else none
    | .sub => if k = k' then some (.int k (k.wrap (a - b))) else none
    | .mul => if k = k' then some (.int k (k.wrap (a * b))) else none
    | .eql => if k = k' then some (.bool (a == b)) else none
    | .neq => if k = k' then some (.bool (a != b)) else none
    | .lss => if k = k' then some (.bool (a < b)) else none
    | .leq => if k = k' then some (.bool (a ≤ b)) else none
    | .gtr => if k = k' then some (.bool (a > b)) else none
    | .geq => if k = k' then some (.bool (a ≥ b)) else none
    | .and => if k = k' then some (.int k (k.wrap (BitVec.ofInt k.bits a &&& BitVec.ofInt k.bits b).toNat)) else none
    | .or => if k = k' then some (.int k (k.wrap (BitVec.ofInt k.bits a ||| BitVec.ofInt k.bits b).toNat)) else none
    | .xor => if k = k' then some (.int k (k.wrap (BitVec.ofInt k.bits a ^^^ BitVec.ofInt k.bits b).toNat)) else none
    | .andNot => if k = k' then some (.int k (k.wrap (BitVec.ofInt k.bits a &&& ~~~ BitVec.ofInt k.bits b).toNat)) else none
    | _ => none
  | .string a, .string b =>
    match op with
    | .eql => some (.bool (a.toList == b.toList))
    | .neq => some (.bool (!(a.toList == b.toList)))
    | .lss => some (.bool (Op.bytesLess a.toList b.toList))
    | _ => none
  | _, _ => none

/-- '/', '%', '<<', '>>': with a test that they do not panic. -/
def aBinC (op : BinOp) (x y : Value) (K : Value → Prop) : Prop :=
  match op, x, y with
  | .quo, .int k a, .int k' b => Chk (decide (k = k') && !(b == 0)) (K (.int k (k.wrap (a.tdiv b))))
  | .rem, .int k a, .int k' b => Chk (decide (k = k') && !(b == 0)) (K (.int k (a.tmod b)))
  | .shl, .int k a, .int _ b => Chk (decide (0 ≤ b)) (K (.int k (k.wrap (a * 2 ^ (min b.toNat k.bits)))))
  | .shr, .int k a, .int _ b => Chk (decide (0 ≤ b)) (K (.int k (a.fdiv (2 ^ (min b.toNat k.bits)))))
  | .add, .string a, .string b => Chk (decide (((a.size + b.size : Nat) : Int) ≤ 9223372036854775807)) (K (.string (a ++ b)))
  | _, _, _ => Fail 20

/-- Values without an address in them, cell by cell. -/
def toV1 : AV → Option Value
  | .v x => some x
  | _ => none
def toVs : List AV → Option (List Value)
  | [] => some []
  | a :: as => match toV1 a, toVs as with
    | some x, some xs => some (x :: xs)
    | _, _ => none

def pureEval {α : Type} (P : Program) : Sem α → Option α
  | .pure a => some a
  | .program k => pureEval P (k P)
  | _ => none

def nilEq (x y : AV) : Option Bool :=
  match x, y with
  | .nilp, .nilp | .nilsl, .nilsl | .nilmap, .nilmap | .nilfn, .nilfn => some true
  | .ptr .., .nilp | .nilp, .ptr .. | .fptr .., .nilp | .nilp, .fptr .. => some false
  | .sl (_ :: _), .nilsl | .nilsl, .sl (_ :: _) => some false
  | .mp _, .nilmap | .nilmap, .mp _ => some false
  | .fn .., .nilfn | .nilfn, .fn .. => some false
  | _, _ => none

/-- Two bools. -/
def boolK (P : Program) (op : BinOp) (t : TypeId) (a b : Bool) (K : AV → Prop) : Prop :=
  match P.underlying t with
  | some .bool => match op with
    | .eql => K (.v (.bool (a == b)))
    | .neq => K (.v (.bool (!(a == b))))
    | _ => Fail 221
  | _ => Fail 222

def scalK (P : Program) (op : BinOp) (t : TypeId) (a b : Value) (K : AV → Prop) : Prop :=
  match aBin op a b with
  | some c => K (.v c)
  | none => match a, b with
    | .bool x, .bool y => boolK P op t x y K
    | a, b => aBinC op a b fun c => K (.v c)

def nilK (op : BinOp) (x y : AV) (K : AV → Prop) : Prop :=
  match op with
  | .eql => match nilEq x y with | some b => K (.v (.bool b)) | none => Fail 223
  | .neq => match nilEq x y with | some b => K (.v (.bool (!b))) | none => Fail 224
  | _ => Fail 225

def kindOk (P : Program) (t : TypeId) (x y : AV) : Bool :=
  match P.underlying t, x, y with
  | some (.pointer _), .nilp, _ | some (.pointer _), _, .nilp => true
  | some (.slice _), .nilsl, _ | some (.slice _), _, .nilsl => true
  | some (.map _ _), .nilmap, _ | some (.map _ _), _, .nilmap => true
  | some (.func _ _ _), .nilfn, _ | some (.func _ _ _), _, .nilfn => true
  | _, _, _ => false

def aggEq (P : Program) (op : BinOp) (t : TypeId) (xs ys : List Value) : Option Value :=
  pureEval P (do eqGuard op t (.tmp 0) (.tmp 0) (.agg xs.toArray) (.agg ys.toArray); binOp op t (.agg xs.toArray) (.agg ys.toArray))

def binK (P : Program) (op : BinOp) (t : TypeId) (x y : AV) (K : AV → Prop) : Prop :=
  match x, y with
  | .v a, .v b => scalK P op t a b K
  | .agg as, .agg bs =>
    match toVs as, toVs bs with
    | some xs, some ys =>
      match aggEq P op t xs ys with
      | some (.bool b) => K (.v (.bool b))
      | _ => Fail 226
    | _, _ => Fail 227
  | x, y => Chk (kindOk P t x y) (nilK op x y K)

def unK (op : UnOp) (x : AV) (K : AV → Prop) : Prop :=
  match op, x with
  | .not, .v (.bool b) => K (.v (.bool (!b)))
  | .neg, .v (.int k n) => K (.v (.int k (k.wrap (0 - n))))
  | .xor, .v (.int k n) => K (.v (.int k (k.wrap (BitVec.ofInt k.bits (if k.signed then -1 else k.max) ^^^ BitVec.ofInt k.bits n).toNat)))
  | _, _ => Fail 28

end A
end Go.Proofs.Ytnjpjmeoednfcaa
