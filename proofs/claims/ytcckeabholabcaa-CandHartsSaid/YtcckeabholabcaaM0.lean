/- Words for what the code computes. Definitions and small laws; nothing is claimed of the program here. -/
import Derived.Calls
import Derived.IntWalk
import Derived.Laws.Bits64
import Derived.Laws.Strings
namespace Go.Proofs.Ytcckeabholabcaa
namespace A
open Go

/-- Round after round, so many at most. -/
def iter {σ τ:Type} (step:σ→Option (σ⊕τ)):Nat→σ→Option τ
  | 0,_=>none
  | n + 1,s=>match step s with
    | none=>none
    | some (.inl s')=>iter step n s'
    | some (.inr t)=>some t

def aH {α:Type} (l:List α) (i:Int):Option α:=if 0≤i then l[i.toNat]? else none
def grd {α:Type} (b:Bool) (x:Option α):Option α:=if b=true then x else none
def ad (k:IntKind) (a b:Int):Int:=k.wrap (a + b)
def ai (k:IntKind) (a b:Int):Int:=k.wrap (a - b)
def cm (k:IntKind) (a b:Int):Int:=k.wrap (a * b)
def fD (k:IntKind) (a b:Int):Int:=k.wrap (a.tdiv b)
def kO (_k:IntKind) (a b:Int):Int:=a.tmod b
def jn (k:IntKind) (a b:Int):Int:=k.wrap (a * 2 ^ (min b.toNat k.bits))
def bU (k:IntKind) (a b:Int):Int:=a.fdiv (2 ^ (min b.toNat k.bits))
def cf (k:IntKind) (a b:Int):Int:=k.wrap (BitVec.ofInt k.bits a &&& BitVec.ofInt k.bits b).toNat
def fE (k:IntKind) (a b:Int):Int:=k.wrap (BitVec.ofInt k.bits a ^^^ BitVec.ofInt k.bits b).toNat
/-- Maps, by their entries. -/
def b9 {κ β:Type} (beq:κ→κ→Bool):List (κ×β)→κ→Option β
  | [],_=>none
  | e::l,k=>if beq k e.1=true then some e.2 else b9 beq l k
def hG {κ β:Type} (beq:κ→κ→Bool):List (κ×β)→κ→β→List (κ×β)
  | [],k,v=>[(k,v)]
  | e::l,k,v=>if beq k e.1=true then (k,v)::l else e::hG beq l k v

def Hp {α:Type}:List α→Bool
  | []=>false
  | _::_=>true
def gD {α:Type} (c:Option (List α)):List α:=c.getD []
/-- A byte of a string. -/
def gN (s:ByteArray) (i:Int):Option Int:=if 0≤i then (s[i.toNat]?).map (fun b=>(b.toNat:Int)) else none

def bo (a b:Int):Bool:=a==b
theorem rX {a b:Int} (h:bo a b=true):a=b:=eq_of_beq h
def Dd {α β:Type} (x:Option α) (a:Option β) (f:α→Option β):Option β:=match x with | none=>a | some z=>f z
theorem ET {α β:Type} {x:Option α} {a:Option β} {f:α→Option β} {r:β} (h:Dd x a f=some r):(x=none∧a=some r)∨∃ z,x=some z∧f z=some r:=by
  cases x with
  | none=>exact .inl ⟨rfl,h⟩
  | some z=>exact .inr ⟨z,rfl,h⟩

theorem It {α:Type} {b:Bool} {x y r:α} (hb:b=true) (h:(if b=true then x else y)=r):x=r:=by rwa [if_pos hb] at h
theorem Iu {α:Type} {b:Bool} {x y r:α} (hb:b=false) (h:(if b=true then x else y)=r):y=r:=by rwa [if_neg (by rw [hb]; exact Bool.false_ne_true)] at h
theorem Iv {α:Type} {b:Bool} {x y r:α} (h:(if b=true then x else y)=r):(b=true∧x=r)∨(b=false∧y=r):=by
  cases b with
  | true=>exact .inl ⟨rfl,It rfl h⟩
  | false=>exact .inr ⟨rfl,Iu rfl h⟩
theorem Ik {α:Type} {a b:α} (h:some a=some b):a=b:=Option.some.inj h
theorem FI {α β:Type} {x:Option α} {f:α→Option β} {r:β} (h:x.bind f=some r):∃ a,x=some a∧f a=some r:=Option.bind_eq_some_iff.1 h
theorem Iw {α:Type} {b:Bool} {x:Option α} {r:α} (h:grd b x=some r):b=true∧x=some r:=by
  unfold grd at h
  split at h
  · exact ⟨by assumption,h⟩
  · cases h
theorem iT {α:Type} {b:Bool} {x:Option α} (h:b=true):grd b x=x:=if_pos h
theorem i6 {α:Type} (l:List α) (i:Nat):aH l (i:Int)=l[i]?:=by
  unfold aH
  rw [if_pos (Int.natCast_nonneg i),Int.toNat_natCast]

/-! ### The rounds of a loop, by a measure -/
theorem aY {σ τ:Type} (step:σ→Option (σ⊕τ)) (n:Nat) (s:σ):iter step (n + 1) s=match step s with
    | none=>none
    | some (.inl s')=>iter step n s'
    | some (.inr t)=>some t:=rfl
/-! ### Numbers in their range -/
theorem wR {a b:Int} (h1:-9223372036854775808≤a + b) (h2:a + b≤9223372036854775807):ad .i64 a b=a + b:=by
  unfold ad
  rw [IntKind.wrap_i64]
  omega
theorem sD {a b:Int} (h1:-9223372036854775808≤a - b) (h2:a - b≤9223372036854775807):ai .i64 a b=a - b:=by
  unfold ai
  rw [IntKind.wrap_i64]
  omega
theorem Hq {a b:Int} (h1:-9223372036854775808≤a * b) (h2:a * b≤9223372036854775807):cm .i64 a b=a * b:=by
  unfold cm
  rw [IntKind.wrap_i64]
  generalize a * b=c at *
  omega
theorem Ix {a b:Int} (h1:0≤a - b) (h2:a - b≤18446744073709551615):ai .u64 a b=a - b:=by
  unfold ai
  rw [IntKind.wrap_u64]
  omega
theorem FJ {a:Int} (h1:0≤a) (h2:a≤18446744073709551615):IntKind.wrap .u64 a=a:=by
  rw [IntKind.wrap_u64]
  omega
theorem yj {a:Int} (h1:-9223372036854775808≤a) (h2:a≤9223372036854775807):IntKind.wrap .i64 a=a:=by
  rw [IntKind.wrap_i64]
  omega

/-- In the range of its kind. -/
def u4 (k:IntKind) (x:Int):Prop:=k.min≤x∧x≤k.max
end A
end Go.Proofs.Ytcckeabholabcaa
