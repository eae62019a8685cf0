/- The abstract evaluator, part three: code; bodies; the closed evaluator with fuel. Definitions alone. -/
import Derived.Test.YtnjpjmeoednfcaaA2
import Derived.Still
namespace Go.Proofs.Ytnjpjmeoednfcaa
namespace A
open Go

/-- Two operations whose order makes no difference. -/
def apart2 (ops : Array Oper) (x y : Oper) : Bool :=
  Oper.apart ops x y && (match clsD x, clsD y with
    | 2, 0 | 0, 2 | 0, 0 | 0, 1 | 1, 0 | 1, 1 | 4, 0 | 4, 1 | 4, 2 | 4, 4 | 0, 4 | 1, 4 | 2, 4 => true
    | _, _ => false)
/-- Of each operation the set, as bits, of those that it waits for. -/
def waitSets : List Oper → List Nat → List Nat
  | [], acc => acc
  | o :: os, acc => waitSets os (acc ++ [o.after.toList.foldl (fun s e => match Region.binds .any e with | true => Nat.lor s (Nat.lor (Nat.pow 2 e.on) (acc.getD e.on 0)) | false => s) 0])
def free2 (ops : Array Oper) (ws : List Nat) (listed : Array Bool) (i : Nat) : Bool :=
  match ops[i]? with
  | none => false
  | some oi => (List.range ops.size).all fun j =>
    Nat.beq j i || listed.getD j true ||
      (match ops[j]? with
       | none => true
       | some oj => Nat.testBit (ws.getD j 0) i || apart2 ops oi oj)
def lex2 (ops : Array Oper) (ws : List Nat) : Nat → Nat → Array Bool → Bool
  | 0, _, listed => (Region.ready .any ops listed).isEmpty
  | n + 1, k, listed => (Region.ready .any ops listed).contains k && free2 ops ws listed k && lex2 ops ws n (k + 1) (listed.setIfInBounds k true)
/-- The boxes that a region makes: slot, type. -/
def allocs : List Oper → List (Nat × TypeId)
  | [] => []
  | o :: os => match o.op, o.dst with
    | .alloc e, some d => (d, e) :: allocs os
    | _, _ => allocs os
def allocsB (pl : Pol) : List (Nat × TypeId) → Bool
  | [] => true
  | (d, _) :: xs => !(hasN pl.esc d) && !(hasN (xs.map (·.1)) d) && allocsB pl xs
def guardsB : List Oper → Bool
  | [] => true
  | o :: os => (match o.op, o.guard with | .alloc _, some _ => false | _, _ => true) && guardsB os
def drawB (pl : Pol) (ops : Array Oper) : Bool :=
  Region.noSelect ops && allocsB pl (allocs ops.toList) && guardsB ops.toList && lex2 ops (waitSets ops.toList []) ops.size 0 (Array.replicate ops.size false)
/-- The boxes that the region will make, ahead of it. -/
def addK (P : Program) : List (Nat × TypeId) → St → (St → Prop) → Prop
  | [], S, K => K S
  | (d, e) :: xs, S, K => zeroRow P e fun cs => Chk (Nat.blt 0 cs.length) (addK P xs { t := S.t, l := (d, cs) :: S.l, o := S.o, b := S.b } K)
def preK (P : Program) (xs : List (Nat × TypeId)) (S : St) (K : St → Prop) : Prop :=
  dropsK (xs.map (·.1)) S fun S' => addK P xs S' K
def postK : List (Nat × TypeId) → St → Prop → Prop
  | [], _, X => X
  | (d, _) :: xs, S, X => nthK S.t d fun a => match a with
    | .ptr (.L d') _ _ => Chk (Nat.beq d' d) (postK xs S X)
    | _ => Fail 302

def acode (C : Ctx) (pl : Pol) : Code → St → (Ex → St → Prop) → Prop
  | .skip, S, K => K .nrm S
  | .region _ ops draw, S, K =>
    match draw with
    | false => aops C pl false ops ops.toList S fun S' => K .nrm S'
    | true => Chk (drawB pl ops) (preK C.P (allocs ops.toList) S fun S1 => aops C pl true ops ops.toList S1 fun S' => postK (allocs ops.toList) S' (K .nrm S'))
  | .seq a b, S, K => acode C pl a S fun e S' => match e with
    | .nrm => acode C pl b S' K
    | .ex i => K (.ex i) S'
    | .ret => K .ret S'
  | .cond c x y, S, K => boolOf c S fun b S' => match b with
    | true => acode C pl x S' K
    | false => acode C pl y S' K
  | .block id c, S, K => acode C pl c S fun e S' => match e with
    | .ex i => match Nat.beq i id with | true => K .nrm S' | false => K (.ex i) S'
    | .nrm => K .nrm S'
    | .ret => K .ret S'
  | .loop c, S, K => C.loop pl c S K
  | .exit id, S, K => K (.ex id) S
  | .ret, S, K => K .ret S
  | _, _, _ => Fail 119

def resK (P : Program) (S : St) : List ResultVar → (List AV → Prop) → Prop
  | [], k => k []
  | .tmp t :: rs, k => nthK S.t t fun a => resK P S rs fun as => k (a :: as)
  | .cell a t :: rs, k => nthK S.t a fun p => atK S p fun row j => partK P t row j fun x => resK P S rs fun as => k (x :: as)

def tupK (as : List AV) (k : AV → Prop) : Prop :=
  match as with
  | [a] => k a
  | as => k (.tup as)

def bads : Nat → List AV
  | 0 => []
  | n + 1 => .bad :: bads n

/-- The body of function f, from these arguments and objects; the result and the state at the end. -/
def abody (C : Ctx) (f : Nat) (args : List AV) (o : List Ob) (K : AV → St → Prop) : Prop :=
  match C.P.funcs[f]? with
  | some fn => match fn.body with
    | some c => acode C (C.pol f) c { t := args ++ bads (fn.ntmps - args.length), l := [], o := o, b := o.length } fun e S =>
        match e with
        | .ex _ => Fail 120
        | _ => resK C.P S fn.results.toList fun rs => tupK rs fun r => K r S
    | none => Fail 121
  | none => Fail 122

/-- A call that neither sees nor turns objects of the caller's. -/
def apure (C : Ctx) (f : Nat) (args : List AV) (K : AV → Prop) : Prop :=
  abody C f args [] fun r S => dfzK S.o r K
def astore (C : Ctx) (f : Nat) (args : List AV) (o : List Ob) (K : AV → List Ob → Prop) : Prop :=
  abody C f args o fun r S => Chk (noL 4 r && Nat.beq S.b o.length) (K r S.o)

structure Cfg where
  P : Program
  pure : Nat → Bool
  pol : Nat → Pol

def ctxN (G : Cfg) : Nat → Ctx
  | 0 => { P := G.P, pure := G.pure, pol := G.pol, pcall := fun _ _ _ => Fail 123, scall := fun _ _ _ _ => Fail 124, loop := fun _ _ _ _ => Fail 125 }
  | n + 1 => { P := G.P, pure := G.pure, pol := G.pol
               pcall := apure (ctxN G n), scall := astore (ctxN G n)
               loop := fun pl c S K => acode (ctxN G n) pl c S fun e S' => match e with
                 | .nrm => (ctxN G n).loop pl c S' K
                 | .ex i => K (.ex i) S'
                 | .ret => K .ret S' }

end A
end Go.Proofs.Ytnjpjmeoednfcaa
