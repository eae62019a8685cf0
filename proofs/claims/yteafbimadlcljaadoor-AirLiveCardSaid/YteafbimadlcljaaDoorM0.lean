/- Words for what the code computes. Definitions and small laws; nothing is claimed of the program here. -/
import Derived.Calls
import Derived.IntWalk
import Derived.Laws.Bits64
import Derived.Laws.Strings
namespace Go.Proofs.YteafbimadlcljaaDoor
namespace A
open Go

/-- Round after round, so many at most. -/
def iter {σ τ:Type} (step:σ→Option (σ⊕τ)):Nat→σ→Option τ
  | 0,_=>none
  | n + 1,s=>match step s with
    | none=>none
    | some (.inl s')=>iter step n s'
    | some (.inr t)=>some t

def ba {α:Type} (l:List α) (i:Int):Option α:=if 0≤i then l[i.toNat]? else none
def grd {α:Type} (b:Bool) (x:Option α):Option α:=if b=true then x else none
def aH (k:IntKind) (a b:Int):Int:=k.wrap (a + b)
def aW (k:IntKind) (a b:Int):Int:=k.wrap (a - b)
def bW (k:IntKind) (a b:Int):Int:=k.wrap (a.tdiv b)
def gg (_k:IntKind) (a b:Int):Int:=a.tmod b
def kh (k:IntKind) (a b:Int):Int:=k.wrap (a * 2 ^ (min b.toNat k.bits))
def yA (k:IntKind) (a b:Int):Int:=a.fdiv (2 ^ (min b.toNat k.bits))
def fc (k:IntKind) (a b:Int):Int:=k.wrap (BitVec.ofInt k.bits a &&& BitVec.ofInt k.bits b).toNat
def lD (k:IntKind) (a b:Int):Int:=k.wrap (BitVec.ofInt k.bits a ||| BitVec.ofInt k.bits b).toNat
def jA (k:IntKind) (a b:Int):Int:=k.wrap (BitVec.ofInt k.bits a &&& ~~~ BitVec.ofInt k.bits b).toNat
def ki (m n:Int):Int:=if n<m then n else m
def kj (m n:Int):Int:=if n>m then n else m

def fN {α:Type}:List α→Bool
  | []=>false
  | _::_=>true
def gD {α:Type} (c:Option (List α)):List α:=c.getD []
def matchO {α β:Type} (x:Option α) (a:Option β) (f:α→Option β):Option β:=match x with | none=>a | some z=>f z
theorem AX {α β:Type} {x:Option α} {a:Option β} {f:α→Option β} {r:β} (h:matchO x a f=some r):(x=none∧a=some r)∨∃ z,x=some z∧f z=some r:=by
  cases x with
  | none=>exact .inl ⟨rfl,h⟩
  | some z=>exact .inr ⟨z,rfl,h⟩

theorem Dw {α:Type} {b:Bool} {x y r:α} (hb:b=true) (h:(if b=true then x else y)=r):x=r:=by rwa [if_pos hb] at h
theorem Dx {α:Type} {b:Bool} {x y r:α} (hb:b=false) (h:(if b=true then x else y)=r):y=r:=by rwa [if_neg (by rw [hb]; exact Bool.false_ne_true)] at h
theorem Dy {α:Type} {b:Bool} {x y r:α} (h:(if b=true then x else y)=r):(b=true∧x=r)∨(b=false∧y=r):=by
  cases b with
  | true=>exact .inl ⟨rfl,Dw rfl h⟩
  | false=>exact .inr ⟨rfl,Dx rfl h⟩
theorem Dp {α:Type} {a b:α} (h:some a=some b):a=b:=Option.some.inj h
theorem Bt {α β:Type} {x:Option α} {f:α→Option β} {r:β} (h:x.bind f=some r):∃ a,x=some a∧f a=some r:=Option.bind_eq_some_iff.1 h
theorem lc {α:Type} {b:Bool} {x:Option α} (h:b=true):grd b x=x:=if_pos h
theorem mX {α:Type} (l:List α) (i:Nat):ba l (i:Int)=l[i]?:=by
  unfold ba
  rw [if_pos (Int.natCast_nonneg i),Int.toNat_natCast]

/-! ### The rounds of a loop, by a measure -/
theorem sH {σ τ:Type} (step:σ→Option (σ⊕τ)) (n:Nat) (s:σ):iter step (n + 1) s=match step s with
    | none=>none
    | some (.inl s')=>iter step n s'
    | some (.inr t)=>some t:=rfl
/-! ### Numbers in their range -/
theorem CQ {a b:Int} (h1:-9223372036854775808≤a + b) (h2:a + b≤9223372036854775807):aH .i64 a b=a + b:=by
  unfold aH
  rw [IntKind.wrap_i64]
  omega
theorem Dz {a b:Int} (h1:-9223372036854775808≤a - b) (h2:a - b≤9223372036854775807):aW .i64 a b=a - b:=by
  unfold aW
  rw [IntKind.wrap_i64]
  omega
theorem CR {a:Int} (h1:0≤a) (h2:a≤18446744073709551615):IntKind.wrap .u64 a=a:=by
  rw [IntKind.wrap_u64]
  omega
/-- In the range of its kind. -/
def zF (k:IntKind) (x:Int):Prop:=k.min≤x∧x≤k.max
end A
end Go.Proofs.YteafbimadlcljaaDoor
