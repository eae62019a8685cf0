/- The abstract evaluator, part two: operations, code, calls. Definitions alone. -/
import Derived.Test.YtnjpjmeoednfcaaA1
namespace Go.Proofs.Ytnjpjmeoednfcaa
namespace A
open Go

def zeroRow (P : Program) (e : TypeId) (k : List AV → Prop) : Prop :=
  match P.info? e with
  | some i => match i.zero with
    | some z => Chk (z.cells.size == i.size) (forceAL (z.cells.toList.map ofC1) k)
    | none => Fail 29
  | none => Fail 30

def hasN : List Nat → Nat → Bool
  | [], _ => false
  | x :: xs, d => Nat.beq x d || hasN xs d

/-- The box of slot d is given up. -/
def dropK (d : Nat) (S : St) (K : St → Prop) : Prop :=
  match lookL S.l d with
  | none => K S
  | some _ => killL (.L d) S.t fun t => killLoc (.L d) (dropL S.l d) fun l => K { t := t, l := l, o := S.o, b := S.b }
def dropsK : List Nat → St → (St → Prop) → Prop
  | [], S, K => K S
  | d :: ds, S, K => dropK d S fun S' => dropsK ds S' K

/-- A new box for slot d with these cells. -/
def boxK (pl : Pol) (dst : Option Tmp) (cs : List AV) (S : St) (K : St → Prop) : Prop :=
  match dst with
  | none => Fail 31
  | some d => Chk (Nat.blt 0 cs.length) (
    match hasN pl.esc d with
    | true => Chk (cs.all (noL 4)) (forceO (S.o ++ [.arr (cs.all (rfree 4)) cs.length [cs]]) fun o => setK S.t d (.ptr (.O S.o.length) 0 0) fun t => K { t := t, l := S.l, o := o, b := S.b })
    | false => dropK d S fun S' => killL (.L d) cs fun cs' => setK S'.t d (.ptr (.L d) 0 0) fun t' => K { t := t', l := (d, cs') :: S'.l, o := S'.o, b := S'.b })

def fillK (place : Nat → Option (Nat × Nat)) : List AV → List (Nat × AV) → (List AV → Prop) → Prop
  | cells, [], k => forceL cells k
  | cells, (i, x) :: rest, k =>
    match place i with
    | some (off, size) => cellsK x fun cs => Chk (Nat.beq cs.length size && Nat.ble (off + cs.length) cells.length) (fillK place (splice cells off cs) rest k)
    | none => Fail 32

def partsK (S : St) : List (Nat × Operand) → (List (Nat × AV) → Prop) → Prop
  | [], k => k []
  | (i, x) :: xs, k => getK S x fun a => partsK S xs fun as => k ((i, a) :: as)

def fieldPl (P : Program) (fs : Array Field) (i : Nat) : Option (Nat × Nat) :=
  match fs[i]? with
  | some f => match P.info? f.type with
    | some fi => some (f.offset, fi.size)
    | none => none
  | none => none

def buildK (P : Program) (t : TypeId) (parts : List (Nat × AV)) (k : AV → Prop) : Prop :=
  zeroRow P t fun z =>
  match P.underlying t with
  | some (.struct fs) => Chk (fs.toList.all fun f => (P.info? f.type).isSome) (fillK (fieldPl P fs) z parts fun cs => k (.agg cs))
  | some (.array _ e) => match P.info? e with
    | some i => fillK (fun n => some (n * i.size, i.size)) z parts fun cs => k (.agg cs)
    | none => Fail 33
  | _ => Fail 34

def chop (n : Nat) : Nat → List AV → List (List AV)
  | 0, _ => []
  | m + 1, xs => xs.take n :: chop n m (xs.drop n)
def forceRows : List (List AV) → (List (List AV) → Prop) → Prop
  | [], k => k []
  | x :: xs, k => forceL x fun y => forceRows xs fun ys => k (y :: ys)

def buildSliceK (P : Program) (pl : Pol) (dst : Option Tmp) (t : TypeId) (len : Nat) (parts : List (Nat × AV)) (S : St) (K : St → Prop) : Prop :=
  match len with
  | 0 => match P.underlying t with
    | some (.slice e) => match P.info? e with
      | some _ => Chk (parts.isEmpty) (putK dst .esl S K)
      | none => Fail 35
    | _ => Fail 36
  | len + 1 =>
    match P.underlying t with
    | some (.slice e) => match P.info? e with
      | some i => zeroRow P e fun z => Chk (Nat.blt 0 i.size && Nat.ble ((len + 1) * i.size) 16777216) (fillK (fun n => some (n * i.size, i.size)) (List.replicate (len + 1) z).flatten parts fun cs =>
          match hasN pl.ms (dst.getD 0) || !(cs.all (rfree 4)) with
          | false => forceRows (chop i.size (len + 1) cs) fun rows => putK dst (.sl rows) S K
          | true => Chk (cs.all (noL 4)) (forceRows (chop i.size (len + 1) cs) fun rows => forceO (S.o ++ [.arr (cs.all (rfree 4)) i.size rows]) fun o => putK dst (.mf S.o.length) { t := S.t, l := S.l, o := o, b := S.b } K))
      | none => Fail 37
    | _ => Fail 38

/-- A slice literal that is never written: by its content. -/
def buildFzK (P : Program) (pl : Pol) (dst : Option Tmp) (t : TypeId) (len : Nat) (parts : List (Nat × AV)) (k : AV → Prop) : Prop :=
  match len with
  | 0 => match P.underlying t with
    | some (.slice e) => match P.info? e with
      | some _ => Chk (parts.isEmpty) (k .esl)
      | none => Fail 213
    | _ => Fail 214
  | len + 1 =>
    match P.underlying t with
    | some (.slice e) => match P.info? e with
      | some i => zeroRow P e fun z => Chk (Nat.blt 0 i.size && Nat.ble ((len + 1) * i.size) 16777216) (fillK (fun n => some (n * i.size, i.size)) (List.replicate (len + 1) z).flatten parts fun cs =>
          Chk (!(hasN pl.ms (dst.getD 0)) && cs.all (rfree 4)) (forceRows (chop i.size (len + 1) cs) fun rows => k (.sl rows)))
      | none => Fail 215
    | _ => Fail 216

def lenK (P : Program) (t : TypeId) (S : St) (x : AV) (k : AV → Prop) : Prop :=
  match P.underlying t with
  | some (.slice _) => match x with
    | .nilsl | .esl => k (.v (.int .i64 0))
    | .sl rows => k (.v (.int .i64 rows.length))
    | .mf id => match S.o[id]? with | some (.arr _ _ rows) => k (.v (.int .i64 rows.length)) | _ => Fail 39
    | .msl _ _ len _ => k (.v (.int .i64 len))
    | _ => Fail 40
  | some .string => match x with
    | .v (.string s) => k (.v (.int .i64 s.size))
    | _ => Fail 41
  | some (.array n _) => k (.v (.int .i64 n))
  | some (.map _ _) => match x with
    | .nilmap => k (.v (.int .i64 0))
    | .mp id => match S.o[id]? with | some (.mapo _ es) => k (.v (.int .i64 es.length)) | _ => Fail 42
    | _ => Fail 43
  | _ => Fail 44

/-- The rows, of so many cells, that a slice or a string is, and whether they are free of references. -/
def rowsK (size : Nat) (S : St) (x : AV) (k : Bool → List (List AV) → Prop) : Prop :=
  match x with
  | .nilsl | .esl => k true []
  | .sl rows => Chk (szOk size rows) (k true rows)
  | .mf id => match S.o[id]? with | some (.arr fl sz rows) => Chk (Nat.beq sz size) (k fl rows) | _ => Fail 45
  | .msl id off len _ => match S.o[id]? with | some (.arr fl sz rows) => Chk (Nat.beq sz size) (k fl ((rows.drop off).take len)) | _ => Fail 46
  | .v (.string s) => Chk (Nat.beq size 1) (k true (s.data.toList.map fun b => [.v (.int .u8 b.toNat)]))
  | _ => Fail 47

def isBase (S : St) (id : Nat) : Bool := Nat.blt id S.b

/-- Object id has grown: references to it are void; it lives on as id, or (where it came in) under a new number. -/
def growK (S : St) (id : Nat) (ob : Ob) (k : St → Nat → Prop) : Prop :=
  killL (.O id) S.t fun t => killLoc (.O id) S.l fun l => killObs (.O id) S.o fun o =>
    match isBase S id with
    | false => forceO (o.set id (killOb (.O id) ob)) fun o' => k { t := t, l := l, o := o', b := S.b } id
    | true => forceO (o.set id .dead ++ [killOb (.O id) ob]) fun o' => k { t := t, l := l, o := o', b := S.b } o.length

def okRows (src : List (List AV)) : Bool := src.all fun r => r.all okCell
def zOk (i : TypeInfo) : Bool := match i.zero with | some z => Nat.beq z.cells.size i.size | none => false

def appendK (P : Program) (ts : List TypeId) (base x : AV) (S : St) (k : St → AV → Prop) : Prop :=
  match ts with
  | [t0, t1] =>
    match P.underlying t0 with
    | some (.slice e) =>
      match P.info? e with
      | some i => Chk (Nat.blt 0 i.size && Nat.blt 0 i.bytes && zOk i && (match P.underlying t1 with | some (.slice _) | some .string => true | _ => false)) (rowsK i.size S x fun fl src => Chk (okRows src) (
          match base with
          | .nilsl | .esl => Chk (Nat.ble (src.length * i.bytes) 140737488355328) (forceO (S.o ++ [.arr fl i.size src]) fun o => k { t := S.t, l := S.l, o := o, b := S.b } (.mf S.o.length))
          | .mf id => match S.o[id]? with
            | some (.arr fl' sz rows) => Chk (Nat.beq sz i.size && Nat.ble ((rows.length + src.length) * i.bytes) 140737488355328 && (fl || !fl')) (growK S id (.arr (fl' && fl) sz (rows ++ src)) fun S' id' => k S' (.mf id'))
            | _ => Fail 48
          | .msl id off len ext => match S.o[id]? with
            | some (.arr fl' sz rows) => Chk (Nat.beq sz i.size && (fl || !fl')) (
              match Nat.ble src.length ext with
              | true => Chk (Nat.ble (off + len + ext) rows.length) (forceO (S.o.set id (.arr (fl' && fl) sz (rows.take (off + len) ++ (src ++ rows.drop (off + len + src.length))))) fun o => k { t := S.t, l := S.l, o := o, b := S.b } (.msl id off (len + src.length) (ext - src.length)))
              | false => Chk (Nat.ble ((len + src.length) * i.bytes) 140737488355328) (growK S id (.arr (fl' && fl) sz ((rows.drop off).take len ++ src)) fun S' id' => k S' (.mf id')))
            | _ => Fail 49
          | _ => Fail 50))
      | none => Fail 51
    | _ => Fail 52
  | _ => Fail 53

def intOf (a : AV) (k : Int → Prop) : Prop :=
  match a with
  | .v (.int _ n) => k n
  | _ => Fail 60

def makeSliceK (P : Program) (t : TypeId) (l c : AV) (S : St) (k : St → AV → Prop) : Prop :=
  match P.underlying t with
  | some (.slice e) =>
    match P.info? e with
    | some i => intOf l fun l => intOf c fun c => Chk (decide (0 ≤ l) && decide (l ≤ c) && decide (i.bytes * c ≤ 140737488355328) && decide (c ≤ 140737488355328) && Nat.blt 0 i.size)
        (zeroRow P e fun z => Chk (z.all (rfree 2)) (forceO (S.o ++ [.arr true i.size (List.replicate l.toNat z)]) fun o => k { t := S.t, l := S.l, o := o, b := S.b } (.mf S.o.length)))
    | none => Fail 61
  | _ => Fail 62

def optInt (S : St) (x : Option Operand) (k : Option Int → Prop) : Prop :=
  match x with
  | none => k none
  | some x => getK S x fun a => intOf a fun n => k (some n)

/-- The bounds of a cut of what has so many elements (and 'cap' places): low, high, max as given. -/
def cutK (len cap : Nat) (lo hi mx : Option Int) (k : Nat → Nat → Nat → Prop) : Prop :=
  match lo, hi, mx with
  | none, none, none => k 0 len cap
  | some l, none, none => Chk (decide (0 ≤ l) && decide (l ≤ len)) (k l.toNat len cap)
  | none, some h, none => Chk (decide (0 ≤ h) && decide (h ≤ cap)) (k 0 h.toNat cap)
  | some l, some h, none => Chk (decide (0 ≤ l) && decide (l ≤ h) && decide (h ≤ cap)) (k l.toNat h.toNat cap)
  | none, some h, some m => Chk (decide (0 ≤ h) && decide (h ≤ m) && decide (m ≤ cap)) (k 0 h.toNat m.toNat)
  | some l, some h, some m => Chk (decide (0 ≤ l) && decide (l ≤ h) && decide (h ≤ m) && decide (m ≤ cap)) (k l.toNat h.toNat m.toNat)
  | _, _, _ => Fail 63

def zero? : Option Int → Bool
  | some (.ofNat 0) => true
  | _ => false

def sliceK (P : Program) (t : TypeId) (x : AV) (lo hi mx : Option Int) (S : St) (k : AV → Prop) : Prop :=
  match P.underlying t with
  | some .string =>
    match x, mx with
    | .v (.string s), none => cutK s.size s.size lo hi none fun l h _ => k (.v (.string (s.extract l h)))
    | _, _ => Fail 64
  | some (.slice e) =>
    match P.info? e with
    | some i => Chk (Nat.blt 0 i.size) (
      match x with
      | .nilsl => cutK 0 0 lo hi mx fun _ _ _ => k .nilsl
      | .esl => cutK 0 0 lo hi mx fun _ _ _ => k .esl
      | .sl rows => Chk (szOk i.size rows) (cutK rows.length rows.length lo hi mx fun l h _ =>
        match lo, hi, zero? hi && zero? mx with
        | _, _, true => k .esl
        | none, none, _ => k (.sl rows)
        | _, none, _ => k (.sl (rows.drop l))
        | none, _, _ => k (.sl (rows.take h))
        | _, _, _ => k (.sl ((rows.drop l).take (h - l))))
      | .mf id => match S.o[id]? with
        | some (.arr _ sz rows) => Chk (Nat.beq sz i.size) (cutK rows.length rows.length lo hi mx fun l h m =>
          match lo, hi, zero? hi && zero? mx with
          | _, _, true => k .esl
          | none, none, _ => k (.mf id)
          | _, none, _ => k (.msl id l (rows.length - l) 0)
          | _, _, _ => k (.msl id l (h - l) (m - h)))
        | _ => Fail 65
      | .msl id off len ext => match S.o[id]? with
        | some (.arr _ sz _) => Chk (Nat.beq sz i.size) (cutK len (len + ext) lo hi mx fun l h m =>
          match zero? hi && zero? mx with
          | true => k .esl
          | false => k (.msl id (l + off) (h - l) (m - h)))
        | _ => Fail 66
      | _ => Fail 67)
    | none => Fail 68
  | _ => Fail 69

def indexAddrK (P : Program) (t : TypeId) (x ix : AV) (S : St) (k : AV → Prop) : Prop :=
  intOf ix fun i =>
  match P.underlying t with
  | some (.slice e) =>
    match P.info? e with
    | some inf =>
      match x with
      | .sl rows => match (if 0 ≤ i then rows[i.toNat]? else none) with
        | some row => Chk (Nat.beq row.length inf.size && Nat.blt 0 inf.size) (k (.fptr row 0))
        | none => Fail 70
      | .mf id => match S.o[id]? with
        | some (.arr _ _ rows) => match (if 0 ≤ i then rows[i.toNat]? else none) with
          | some row => Chk (Nat.beq row.length inf.size && Nat.blt 0 inf.size) (k (.ptr (.O id) i.toNat 0))
          | none => Fail 71
        | _ => Fail 72
      | .msl id off len _ => match S.o[id]? with
        | some (.arr _ _ rows) => Chk (decide (0 ≤ i) && decide (i < len)) (match rows[i.toNat + off]? with
          | some row => Chk (Nat.beq row.length inf.size && Nat.blt 0 inf.size) (k (.ptr (.O id) (i.toNat + off) 0))
          | none => Fail 73)
        | _ => Fail 74
      | _ => Fail 75
    | none => Fail 76
  | some (.array len e) =>
    match P.info? e with
    | some inf => Chk (decide (0 ≤ i) && decide (i < len)) (
      match x with
      | .ptr key a j => k (.ptr key a (i.toNat * inf.size + j))
      | .fptr row j => k (.fptr row (i.toNat * inf.size + j))
      | _ => Fail 77)
    | none => Fail 78
  | _ => Fail 79

def indexK (P : Program) (t : TypeId) (x ix : AV) (k : AV → Prop) : Prop :=
  intOf ix fun i =>
  match P.underlying t, x with
  | some (.array len e), .agg cs => match P.info? e with
    | some inf => Chk (decide (0 ≤ i) && decide (i < len)) (partK P e cs (i.toNat * inf.size) k)
    | none => Fail 80
  | some .string, .v (.string s) => match (if 0 ≤ i then s[i.toNat]? else none) with
    | some b => k (.v (.int .u8 b.toNat))
    | none => Fail 81
  | _, _ => Fail 82

def fieldAddrK (P : Program) (t : TypeId) (x : AV) (f : Nat) (k : AV → Prop) : Prop :=
  match P.underlying t with
  | some (.struct fs) => match fs[f]? with
    | some fl => match P.info? fl.type with
      | some inf => Chk (Nat.blt 0 inf.size) (match x with
        | .ptr key i j => k (.ptr key i (j + fl.offset))
        | .fptr row j => k (.fptr row (j + fl.offset))
        | _ => Fail 83)
      | none => Fail 84
    | none => Fail 85
  | _ => Fail 86

def fieldK (P : Program) (t : TypeId) (x : AV) (f : Nat) (k : AV → Prop) : Prop :=
  match P.underlying t, x with
  | some (.struct fs), .agg cs => match fs[f]? with
    | some fl => partK P fl.type cs fl.offset k
    | none => Fail 87
  | _, _ => Fail 88

def bytesOf : List (List AV) → Option (List UInt8)
  | [] => some []
  | [.v (.int .u8 n)] :: rs => match bytesOf rs with | some bs => some (UInt8.ofNat n.toNat :: bs) | none => none
  | _ => none

def convertK (P : Program) (src dst : TypeId) (x : AV) (k : AV → Prop) : Prop :=
  match P.underlying src, P.underlying dst with
  | some _, some (.int kd) => match x with | .v (.int _ n) => k (.v (.int kd (kd.wrap n))) | _ => Fail 89
  | some .string, some .string => match x with | .v (.string s) => k (.v (.string s)) | _ => Fail 90
  | _, _ => Fail 92

/-! ### Frozen values -/
def mapO {α β : Type} (f : α → Option β) : List α → Option (List β)
  | [] => some []
  | x :: xs => match f x, mapO f xs with
    | some y, some ys => some (y :: ys)
    | _, _ => none

/-- A value without references to objects: slices and pointers by what is there now. -/
def dfz (o : List Ob) : Nat → AV → Option AV
  | 0, _ => none
  | n + 1, a =>
    match a with
    | .v x => some (.v x)
    | .nilp => some .nilp
    | .fptr r j => some (.fptr r j)
    | .nilsl => some .nilsl
    | .esl => some (.sl [])
    | .sl r => some (.sl r)
    | .nilmap => some .nilmap
    | .nilfn => some .nilfn
    | .mf id => match o[id]? with
      | some (.arr true _ rows) => some (.sl rows)
      | _ => none
    | .msl id off len _ => match o[id]? with
      | some (.arr true _ rows) => some (.sl ((rows.drop off).take len))
      | _ => none
    | .ptr (.O id) i j => match o[id]? with
      | some (.arr true _ rows) => match rows[i]? with | some row => some (.fptr row j) | none => none
      | _ => none
    | .fn f x y => match mapO (dfz o n) x, mapO (dfz o n) y with | some x', some y' => some (.fn f x' y') | _, _ => none
    | .agg cs => match mapO (dfz o n) cs with | some r => some (.agg r) | none => none
    | .tup cs => match mapO (dfz o n) cs with | some r => some (.tup r) | none => none
    | _ => none

/-- The objects that a value hangs on. -/
def dids : Nat → AV → List Nat
  | 0, _ => []
  | n + 1, a =>
    match a with
    | .mf id | .msl id _ _ _ | .ptr (.O id) _ _ => [id]
    | .fn _ x y => x.flatMap (dids n) ++ y.flatMap (dids n)
    | .agg cs | .tup cs => cs.flatMap (dids n)
    | _ => []

def dfzK (o : List Ob) (a : AV) (k : AV → Prop) : Prop :=
  match dfz o 6 a with
  | some b => forceA b k
  | none => Fail 96
def dfzsK (o : List Ob) : List AV → (List AV → Prop) → Prop
  | [], k => k []
  | a :: as, k => dfzK o a fun b => dfzsK o as fun bs => k (b :: bs)

def killIds : List Nat → St → (St → Prop) → Prop
  | [], S, K => K S
  | id :: ids, S, K => killL (.O id) S.t fun t => killLoc (.O id) S.l fun l => killObs (.O id) S.o fun o => forceO (o.set id .dead) fun o' => killIds ids { t := t, l := l, o := o', b := S.b } K

def deadNow : List Ob → List Ob → Nat → List Nat
  | .dead :: xs, _ :: ys, n => deadNow xs ys (n + 1)
  | _ :: xs, .dead :: ys, n => n :: deadNow xs ys (n + 1)
  | _ :: xs, _ :: ys, n => deadNow xs ys (n + 1)
  | _, _, _ => []

/-- References to objects that are dead now go. -/
def killTL : List Nat → List AV → List (Nat × List AV) → (List AV → List (Nat × List AV) → Prop) → Prop
  | [], t, l, K => K t l
  | id :: ids, t, l, K => killL (.O id) t fun t' => killLoc (.O id) l fun l' => killTL ids t' l' K

def callK (C : Ctx) (f : AV) (args : List AV) (S : St) (k : St → AV → Prop) : Prop :=
  match f with
  | .fn fid first cap =>
    match C.pure fid with
    | true => dfzsK S.o (first ++ args ++ cap) fun as => C.pcall fid as fun r =>
        match scal 4 r with
        | true => k S r
        | false => killIds ((first ++ args ++ cap).flatMap (dids 6)) S fun S' => k S' r
    | false => Chk ((first ++ args ++ cap).all (noL 4)) (C.scall fid (first ++ args ++ cap) S.o fun r o' => killTL (deadNow S.o o' 0) S.t S.l fun t l => k { t := t, l := l, o := o', b := S.b } r)
  | _ => Fail 97

/-! ### Maps: the model's own search over the keys -/
def toK : AV → Option Value
  | .v x => some x
  | .agg cs => match toVs cs with | some xs => some (.agg xs.toArray) | none => none
  | _ => none
def keysOf : List (AV × AV) → Option (List MapEntry)
  | [] => some []
  | (k, _) :: es => match toK k, keysOf es with
    | some x, some xs => some ({ key := x, val := .bool false, born := 0 } :: xs)
    | _, _ => none
def findK (P : Program) (kt : TypeId) (key : AV) (es : List (AV × AV)) (k : Value → Option Nat → Prop) : Prop :=
  match toK key, keysOf es with
  | some x, some xs =>
    match pureEval P (Instr.checkKey xs.isEmpty 10000 kt x), pureEval P (Instr.findKey kt x xs) with
    | some _, some r => k x (r.map (·.1))
    | _, _ => Fail 98
  | _, _ => Fail 99

def retOk (ok : Bool) (x : AV) (b : Bool) (k : AV → Prop) : Prop :=
  match ok with
  | true => k (.tup [x, .v (.bool b)])
  | false => k x
def zeroOk (P : Program) (e : TypeId) (ok : Bool) (k : AV → Prop) : Prop :=
  match P.info? e with
  | some i => match i.zero with
    | some z => forceA (ofC z) fun z => retOk ok z false k
    | none => Fail 230
  | none => Fail 231
def foundOk (P : Program) (e : TypeId) (ok : Bool) (es : List (AV × AV)) (r : Option Nat) (k : AV → Prop) : Prop :=
  match r with
  | some i => match es[i]? with
    | some en => retOk ok en.2 true k
    | none => Fail 232
  | none => zeroOk P e ok k

def lookupK (P : Program) (t : TypeId) (m key : AV) (ok : Bool) (S : St) (k : AV → Prop) : Prop :=
  match P.underlying t with
  | some (.map kt e) =>
    match m with
    | .nilmap => findK P kt key [] fun _ _ => zeroOk P e ok k
    | .mp id => match S.o[id]? with
      | some (.mapo _ es) => findK P kt key es fun _ r => foundOk P e ok es r k
      | _ => Fail 233
    | _ => Fail 234
  | _ => Fail 235

def ckOk (P : Program) (kt : TypeId) (x : Value) : Bool := match pureEval P (Instr.checkKey false 10000 kt x) with | some _ => true | none => false

def mapUpdateK (P : Program) (t : TypeId) (m key x : AV) (S : St) (K : St → Prop) : Prop :=
  match P.underlying t with
  | some (.map kt _) =>
    match m with
    | .mp id => match S.o[id]? with
      | some (.mapo fl es) => Chk (noL 4 x) (findK P kt key es fun kv r => Chk (ckOk P kt kv) (
          match r with
          | some i => Chk (Instr.sameBits 10000 ((es[i]?.bind fun e => toK e.1).getD (.bool false)) kv) (forceO (S.o.set id (.mapo (fl && rfree 4 x) (es.set i (key, x)))) fun o => K { t := S.t, l := S.l, o := o, b := S.b })
          | none => forceO (S.o.set id (.mapo (fl && rfree 4 x) (es ++ [(key, x)]))) fun o => K { t := S.t, l := S.l, o := o, b := S.b }))
      | _ => Fail 106
    | _ => Fail 107
  | _ => Fail 108

/-! ### One operation -/
/-- Operations that neither see nor turn memory of the call's own: what they yield, out of the operands' values. -/
def pop (C : Ctx) (pl : Pol) (o : Oper) (vs : List AV) (k : AV → Prop) : Prop :=
  match o.op, vs with
  | .move _, [a] => k a
  | .assign _, [a] => k a
  | .pick _ _ _, [.v (.bool c), a, b] => Fork c (k a) (k b)
  | .build t parts, vs => Chk (Nat.beq parts.size vs.length) (buildK C.P t ((parts.toList.map (·.1)).zip vs) k)
  | .buildSlice t len parts, vs => Chk (Nat.beq parts.size vs.length) (buildFzK C.P pl o.dst t len ((parts.toList.map (·.1)).zip vs) k)
  | .nilCheck _, [.ptr x i j] => k (.ptr x i j)
  | .nilCheck _, [.fptr r j] => k (.fptr r j)
  | .nilCheck _, [.fn f x y] => k (.fn f x y)
  | .binOp op t _ _ _, [a, b] => binK C.P op t a b k
  | .unOp op _ _, [a] => unK op a k
  | .makeFunc f first cap, vs => match f with
    | .func fid => Chk (Nat.beq (first.size + cap.size) vs.length) (forceL (vs.take first.size) fun xs => forceL (vs.drop first.size) fun ys => k (.fn fid xs ys))
    | _ => Fail 201
  | .fieldAddr t _ f, [a] => fieldAddrK C.P t a f k
  | .field t _ f, [a] => fieldK C.P t a f k
  | .index t _ _, [a, i] => indexK C.P t a i k
  | .extract _ ix, [.tup xs] => nthK xs ix k
  | .call c, vs => match c.callee, vs with
    | .builtin .min, [.v (.int a m), .v (.int b n)] => Chk (decide (a = b)) (k (.v (.int a (if n < m then n else m))))
    | .builtin .max, [.v (.int a m), .v (.int b n)] => Chk (decide (a = b)) (k (.v (.int a (if n > m then n else m))))
    | _, _ => Fail 204
  | _, _ => Fail 207

/-- Operations that see memory and turn none of the call's own. -/
def rop (C : Ctx) (o : Oper) (vs : List AV) (M : St) (k : AV → Prop) : Prop :=
  match o.op, vs with
  | .load t _, [p] => atK M p fun row j => partK C.P t row j k
  | .convert src dst _, [a] => convertK C.P src dst a k
  | .slice t _ lo hi mx, a :: rest =>
    match lo, hi, mx, rest with
    | none, none, none, [] => sliceK C.P t a none none none M k
    | some _, none, none, [x] => intOf x fun x => sliceK C.P t a (some x) none none M k
    | none, some _, none, [y] => intOf y fun y => sliceK C.P t a none (some y) none M k
    | some _, some _, none, [x, y] => intOf x fun x => intOf y fun y => sliceK C.P t a (some x) (some y) none M k
    | none, some _, some _, [y, z] => intOf y fun y => intOf z fun z => sliceK C.P t a none (some y) (some z) M k
    | some _, some _, some _, [x, y, z] => intOf x fun x => intOf y fun y => intOf z fun z => sliceK C.P t a (some x) (some y) (some z) M k
    | _, _, _, _ => Fail 202
  | .indexAddr t _ _, [a, i] => indexAddrK C.P t a i M k
  | .lookup t _ _ ok, [m, key] => lookupK C.P t m key ok M k
  | .call c, vs => match c.callee with
    | .builtin b => match b, vs with
      | .len, [x] => match c.argTypes.toList with | t :: _ => lenK C.P t M x k | [] => Fail 203
      | _, _ => Fail 204
    | .value _ => match vs with
      | .fn fid first cap :: as => Chk (C.pure fid) (dfzsK M.o (first ++ as ++ cap) fun bs => C.pcall fid bs fun r => Chk (scal 4 r || ((first ++ as ++ cap).flatMap (dids 6)).isEmpty) (k r))
      | _ => Fail 205
    | .invoke _ _ => Fail 206
  | _, _ => Fail 207

def hasRef (k : Key) : Nat → AV → Bool
  | 0, _ => true
  | n + 1, a =>
    match a with
    | .ptr k' _ _ => decide (k' = k)
    | .mf id | .msl id _ _ _ | .mp id => decide (Key.O id = k)
    | .fn _ x y => x.any (hasRef k n) || y.any (hasRef k n)
    | .agg cs | .tup cs => cs.any (hasRef k n)
    | _ => false

/-- Operations that turn boxes or objects in place. -/
def wop (C : Ctx) (o : Oper) (vs : List AV) (M : St) (k : AV → St → Prop) : Prop :=
  match o.op, vs with
  | .store t _ _, [p, y] => cellsK y fun cs => match C.P.info? t with
    | some i => Chk (Nat.beq cs.length i.size) (storeK M p cs fun M' => k .bad M')
    | none => Fail 208
  | _, _ => Fail 209

/-- What kind of operation it is: 0: neither sees nor turns memory; 1: sees it; 2: turns it in place; 3: other. -/
def cls (o : Oper) : Nat :=
  match o.op with
  | .move _ | .assign _ | .pick _ _ _ | .build _ _ | .nilCheck _ | .binOp _ _ _ _ _ | .unOp _ _ _ | .makeFunc _ _ _ | .fieldAddr _ _ _ | .field _ _ _ | .index _ _ _ | .extract _ _ => 0
  | .load _ _ | .convert _ _ _ | .slice _ _ _ _ _ | .indexAddr _ _ _ | .lookup _ _ _ _ => 1
  | .store _ _ _ => 2
  | .call c => match c.callee with
    | .builtin .min | .builtin .max => 0
    | .builtin .len => 1
    | _ => 3
  | _ => 3
/-- Its kind where the order is open. -/
def clsD (o : Oper) : Nat :=
  match o.op with
  | .buildSlice _ _ _ => 0
  | .alloc _ => 4
  | .call c => match c.callee with
    | .value _ => 1
    | _ => cls o
  | _ => cls o

def memOf (S : St) : St := { t := [], l := S.l, o := S.o, b := S.b }
def withM (S M : St) : St := { t := S.t, l := M.l, o := M.o, b := M.b }

def pop1 (C : Ctx) (pl : Pol) (o : Oper) (S : St) (K : St → Prop) : Prop :=
  getsK S o.op.operands.toList fun vs => pop C pl o vs fun r => putK o.dst r S K
def rop1 (C : Ctx) (o : Oper) (S : St) (K : St → Prop) : Prop :=
  getsK S o.op.operands.toList fun vs => rop C o vs (memOf S) fun r => putK o.dst r S K
def wop1 (C : Ctx) (o : Oper) (S : St) (K : St → Prop) : Prop :=
  getsK S o.op.operands.toList fun vs => wop C o vs (memOf S) fun r M => putK o.dst r (withM S M) K

/-- An operation where the order is open. -/
def dop (C : Ctx) (pl : Pol) (o : Oper) (S : St) (K : St → Prop) : Prop :=
  match clsD o with
  | 0 => pop1 C pl o S K
  | 1 => rop1 C o S K
  | 2 => wop1 C o S K
  | 4 => match o.dst with
    | some d => putK o.dst (.ptr (.L d) 0 0) S K
    | none => Fail 217
  | _ => Fail 217

def xop (C : Ctx) (pl : Pol) (o : Oper) (S : St) (K : St → Prop) : Prop :=
  match o.op with
  | .alloc e => zeroRow C.P e fun cs => boxK pl o.dst cs S K
  | .box _ x => getK S x fun a => cellsK a fun cs => boxK pl o.dst cs S K
  | .buildSlice t len parts => getsK S (parts.toList.map (·.2)) fun vs => Chk (Nat.beq parts.size vs.length) (buildSliceK C.P pl o.dst t len ((parts.toList.map (·.1)).zip vs) S K)
  | .makeMap _ r => match r with
    | none => forceO (S.o ++ [.mapo true []]) fun o' => putK o.dst (.mp S.o.length) { t := S.t, l := S.l, o := o', b := S.b } K
    | some _ => Fail 209
  | .makeSlice t l c => getK S l fun l => getK S c fun c => makeSliceK C.P t l c S fun S' a => putK o.dst a S' K
  | .mapUpdate t m key x => getK S m fun m => getK S key fun key => getK S x fun x => mapUpdateK C.P t m key x S fun S' => putK o.dst .bad S' K
  | .call c => match c.callee with
    | .builtin b => match b with
      | .append => getsK S c.args.toList fun as => match as with
        | [x, y] => appendK C.P c.argTypes.toList x y S fun S' r => putK o.dst r S' K
        | _ => Fail 210
      | _ => Fail 212
    | .value f => getK S f fun fv => getsK S c.args.toList fun as => callK C fv as S fun S' r => putK o.dst r S' K
    | .invoke _ _ => Fail 213
  | _ => Fail 214

def aop (C : Ctx) (pl : Pol) (o : Oper) (S : St) (K : St → Prop) : Prop :=
  match cls o with
  | 0 => pop1 C pl o S K
  | 1 => rop1 C o S K
  | 2 => wop1 C o S K
  | _ => xop C pl o S K

def aop1 (C : Ctx) (pl : Pol) (dr : Bool) (o : Oper) (S : St) (K : St → Prop) : Prop :=
  match dr with
  | true => dop C pl o S K
  | false => aop C pl o S K

def dstOf (all : Array Oper) (j : Nat) : Option Nat := (all[j]?).bind (·.dst)

def aops (C : Ctx) (pl : Pol) (dr : Bool) (all : Array Oper) : List Oper → St → (St → Prop) → Prop
  | [], S, K => K S
  | o :: rest, S, K =>
    match o.guard with
    | none => aop1 C pl dr o S fun S' => aops C pl dr all rest S' K
    | some (j, want) =>
      match dstOf all j with
      | none => Fail 218
      | some d => boolAt d S fun b S1 =>
        match b, want with
        | true, true => aop1 C pl dr o S1 fun S' => aops C pl dr all rest S' K
        | false, false => aop1 C pl dr o S1 fun S' => aops C pl dr all rest S' K
        | _, _ => putK o.dst .bad S1 fun S' => aops C pl dr all rest S' K

end A
end Go.Proofs.Ytnjpjmeoednfcaa
