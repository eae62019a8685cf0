/- Words for what the code computes. Definitions and small laws; nothing is claimed of the program here. -/
import Derived.Calls
import Derived.IntWalk
import Derived.Laws.Bits64
import Derived.Laws.Strings
namespace Go.Proofs.Ytcckeabholabcaa
namespace A
open Go

/-- Round after round, so many at most. -/
def iter {σ τ:Type} (step:σ→Option (σ⊕τ)):Nat→σ→Option τ
  | 0,_=>none
  | n + 1,s=>match step s with
    | none=>none
    | some (.inl s')=>iter step n s'
    | some (.inr t)=>some t

def aN {α:Type} (l:List α) (i:Int):Option α:=if 0≤i then l[i.toNat]? else none
def grd {α:Type} (b:Bool) (x:Option α):Option α:=if b=true then x else none
def ae (k:IntKind) (a b:Int):Int:=k.wrap (a + b)
def aj (k:IntKind) (a b:Int):Int:=k.wrap (a - b)
def cp (k:IntKind) (a b:Int):Int:=k.wrap (a * b)
def fC (k:IntKind) (a b:Int):Int:=k.wrap (a.tdiv b)
def ya (_k:IntKind) (a b:Int):Int:=a.tmod b
def jh (k:IntKind) (a b:Int):Int:=k.wrap (a * 2 ^ (min b.toNat k.bits))
def bY (k:IntKind) (a b:Int):Int:=a.fdiv (2 ^ (min b.toNat k.bits))
def ch (k:IntKind) (a b:Int):Int:=k.wrap (BitVec.ofInt k.bits a &&& BitVec.ofInt k.bits b).toNat
def fD (k:IntKind) (a b:Int):Int:=k.wrap (BitVec.ofInt k.bits a ^^^ BitVec.ofInt k.bits b).toNat
/-- Maps, by their entries. -/
def dh {κ β:Type} (beq:κ→κ→Bool):List (κ×β)→κ→Option β
  | [],_=>none
  | e::l,k=>if beq k e.1=true then some e.2 else dh beq l k
def eb {κ β:Type} (beq:κ→κ→Bool):List (κ×β)→κ→β→List (κ×β)
  | [],k,v=>[(k,v)]
  | e::l,k,v=>if beq k e.1=true then (k,v)::l else e::eb beq l k v

def Hi {α:Type}:List α→Bool
  | []=>false
  | _::_=>true
def gD {α:Type} (c:Option (List α)):List α:=c.getD []
/-- A byte of a string. -/
def gK (s:ByteArray) (i:Int):Option Int:=if 0≤i then (s[i.toNat]?).map (fun b=>(b.toNat:Int)) else none

def bB (a b:Int):Bool:=a==b
theorem oV {a b:Int} (h:bB a b=true):a=b:=eq_of_beq h
def C3 {α β:Type} (x:Option α) (a:Option β) (f:α→Option β):Option β:=match x with | none=>a | some z=>f z
theorem EG {α β:Type} {x:Option α} {a:Option β} {f:α→Option β} {r:β} (h:C3 x a f=some r):(x=none∧a=some r)∨∃ z,x=some z∧f z=some r:=by
  cases x with
  | none=>exact .inl ⟨rfl,h⟩
  | some z=>exact .inr ⟨z,rfl,h⟩

theorem Ik {α:Type} {b:Bool} {x y r:α} (hb:b=true) (h:(if b=true then x else y)=r):x=r:=by rwa [if_pos hb] at h
theorem Il {α:Type} {b:Bool} {x y r:α} (hb:b=false) (h:(if b=true then x else y)=r):y=r:=by rwa [if_neg (by rw [hb]; exact Bool.false_ne_true)] at h
theorem Im {α:Type} {b:Bool} {x y r:α} (h:(if b=true then x else y)=r):(b=true∧x=r)∨(b=false∧y=r):=by
  cases b with
  | true=>exact .inl ⟨rfl,Ik rfl h⟩
  | false=>exact .inr ⟨rfl,Il rfl h⟩
theorem H9 {α:Type} {a b:α} (h:some a=some b):a=b:=Option.some.inj h
theorem FG {α β:Type} {x:Option α} {f:α→Option β} {r:β} (h:x.bind f=some r):∃ a,x=some a∧f a=some r:=Option.bind_eq_some_iff.1 h
theorem Io {α:Type} {b:Bool} {x:Option α} {r:α} (h:grd b x=some r):b=true∧x=some r:=by
  unfold grd at h
  split at h
  · exact ⟨by assumption,h⟩
  · cases h
theorem m8 {α:Type} {b:Bool} {x:Option α} (h:b=true):grd b x=x:=if_pos h
theorem jL {α:Type} (l:List α) (i:Nat):aN l (i:Int)=l[i]?:=by
  unfold aN
  rw [if_pos (Int.natCast_nonneg i),Int.toNat_natCast]

/-! ### The rounds of a loop, by a measure -/
theorem aZ {σ τ:Type} (step:σ→Option (σ⊕τ)) (n:Nat) (s:σ):iter step (n + 1) s=match step s with
    | none=>none
    | some (.inl s')=>iter step n s'
    | some (.inr t)=>some t:=rfl
/-! ### Numbers in their range -/
theorem yb {a b:Int} (h1:-9223372036854775808≤a + b) (h2:a + b≤9223372036854775807):ae .i64 a b=a + b:=by
  unfold ae
  rw [IntKind.wrap_i64]
  omega
theorem rZ {a b:Int} (h1:-9223372036854775808≤a - b) (h2:a - b≤9223372036854775807):aj .i64 a b=a - b:=by
  unfold aj
  rw [IntKind.wrap_i64]
  omega
theorem Hj {a b:Int} (h1:-9223372036854775808≤a * b) (h2:a * b≤9223372036854775807):cp .i64 a b=a * b:=by
  unfold cp
  rw [IntKind.wrap_i64]
  generalize a * b=c at *
  omega
theorem Ip {a b:Int} (h1:0≤a - b) (h2:a - b≤18446744073709551615):aj .u64 a b=a - b:=by
  unfold aj
  rw [IntKind.wrap_u64]
  omega
theorem FH {a:Int} (h1:0≤a) (h2:a≤18446744073709551615):IntKind.wrap .u64 a=a:=by
  rw [IntKind.wrap_u64]
  omega
theorem yc {a:Int} (h1:-9223372036854775808≤a) (h2:a≤9223372036854775807):IntKind.wrap .i64 a=a:=by
  rw [IntKind.wrap_i64]
  omega

/-- In the range of its kind. -/
def vw (k:IntKind) (x:Int):Prop:=k.min≤x∧x≤k.max
end A
end Go.Proofs.Ytcckeabholabcaa
