/- Words for what the code computes. Definitions and small laws; nothing is claimed of the program here. -/
import Derived.Calls
import Derived.IntWalk
import Derived.Laws.Bits64
import Derived.Laws.Strings
namespace Go.Proofs.YteafbimadlcljaaDoor
namespace A
open Go

/-- Round after round, so many at most. -/
def iter {σ τ:Type} (step:σ→Option (σ⊕τ)):Nat→σ→Option τ
  | 0,_=>none
  | n + 1,s=>match step s with
    | none=>none
    | some (.inl s')=>iter step n s'
    | some (.inr t)=>some t

def aH {α:Type} (l:List α) (i:Int):Option α:=if 0≤i then l[i.toNat]? else none
def grd {α:Type} (b:Bool) (x:Option α):Option α:=if b=true then x else none
def ac (k:IntKind) (a b:Int):Int:=k.wrap (a + b)
def b_ (k:IntKind) (a b:Int):Int:=k.wrap (a - b)
def cn (k:IntKind) (a b:Int):Int:=k.wrap (a.tdiv b)
def af (_k:IntKind) (a b:Int):Int:=a.tmod b
def lJ (k:IntKind) (a b:Int):Int:=k.wrap (a * 2 ^ (min b.toNat k.bits))
def AN (k:IntKind) (a b:Int):Int:=a.fdiv (2 ^ (min b.toNat k.bits))
def dY (k:IntKind) (a b:Int):Int:=k.wrap (BitVec.ofInt k.bits a &&& BitVec.ofInt k.bits b).toNat
def m3 (k:IntKind) (a b:Int):Int:=k.wrap (BitVec.ofInt k.bits a ||| BitVec.ofInt k.bits b).toNat
def kO (k:IntKind) (a b:Int):Int:=k.wrap (BitVec.ofInt k.bits a &&& ~~~ BitVec.ofInt k.bits b).toNat
def lK (m n:Int):Int:=if n<m then n else m
def lL (m n:Int):Int:=if n>m then n else m

/-- Maps, by their entries. -/
def bT {κ β:Type} (beq:κ→κ→Bool):List (κ×β)→κ→Option β
  | [],_=>none
  | e::l,k=>if beq k e.1=true then some e.2 else bT beq l k
def kn {κ β:Type} (beq:κ→κ→Bool):List (κ×β)→κ→β→List (κ×β)
  | [],k,v=>[(k,v)]
  | e::l,k,v=>if beq k e.1=true then (k,v)::l else e::kn beq l k v

def gN {α:Type}:List α→Bool
  | []=>false
  | _::_=>true
def gD {α:Type} (c:Option (List α)):List α:=c.getD []
def bK (a b:Int):Bool:=a==b
theorem Dj {a b:Int} (h:bK a b=true):a=b:=eq_of_beq h
def matchO {α β:Type} (x:Option α) (a:Option β) (f:α→Option β):Option β:=match x with | none=>a | some z=>f z
theorem Dk {α β:Type} {x:Option α} {a:Option β} {f:α→Option β} {r:β} (h:matchO x a f=some r):(x=none∧a=some r)∨∃ z,x=some z∧f z=some r:=by
  cases x with
  | none=>exact .inl ⟨rfl,h⟩
  | some z=>exact .inr ⟨z,rfl,h⟩

theorem Gq {α:Type} {b:Bool} {x y r:α} (hb:b=true) (h:(if b=true then x else y)=r):x=r:=by rwa [if_pos hb] at h
theorem Gr {α:Type} {b:Bool} {x y r:α} (hb:b=false) (h:(if b=true then x else y)=r):y=r:=by rwa [if_neg (by rw [hb]; exact Bool.false_ne_true)] at h
theorem Gs {α:Type} {b:Bool} {x y r:α} (h:(if b=true then x else y)=r):(b=true∧x=r)∨(b=false∧y=r):=by
  cases b with
  | true=>exact .inl ⟨rfl,Gq rfl h⟩
  | false=>exact .inr ⟨rfl,Gr rfl h⟩
theorem Gj {α:Type} {a b:α} (h:some a=some b):a=b:=Option.some.inj h
theorem D7 {α β:Type} {x:Option α} {f:α→Option β} {r:β} (h:x.bind f=some r):∃ a,x=some a∧f a=some r:=Option.bind_eq_some_iff.1 h
theorem jF {α:Type} {b:Bool} {x:Option α} (h:b=true):grd b x=x:=if_pos h
theorem ko {α:Type} (l:List α) (i:Nat):aH l (i:Int)=l[i]?:=by
  unfold aH
  rw [if_pos (Int.natCast_nonneg i),Int.toNat_natCast]

/-! ### The rounds of a loop, by a measure -/
theorem uW {σ τ:Type} (step:σ→Option (σ⊕τ)) (n:Nat) (s:σ):iter step (n + 1) s=match step s with
    | none=>none
    | some (.inl s')=>iter step n s'
    | some (.inr t)=>some t:=rfl
/-! ### Numbers in their range -/
theorem Dl {a b:Int} (h1:-9223372036854775808≤a + b) (h2:a + b≤9223372036854775807):ac .i64 a b=a + b:=by
  unfold ac
  rw [IntKind.wrap_i64]
  omega
theorem Gt {a b:Int} (h1:-9223372036854775808≤a - b) (h2:a - b≤9223372036854775807):b_ .i64 a b=a - b:=by
  unfold b_
  rw [IntKind.wrap_i64]
  omega
theorem FJ {a:Int} (h1:0≤a) (h2:a≤18446744073709551615):IntKind.wrap .u64 a=a:=by
  rw [IntKind.wrap_u64]
  omega
/-- In the range of its kind. -/
def BN (k:IntKind) (x:Int):Prop:=k.min≤x∧x≤k.max
end A
end Go.Proofs.YteafbimadlcljaaDoor
