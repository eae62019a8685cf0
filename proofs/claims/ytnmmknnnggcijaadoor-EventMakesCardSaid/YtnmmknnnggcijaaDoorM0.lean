/- Words for what the code computes. Definitions and small laws; nothing is claimed of the program here. -/
import Derived.Calls
import Derived.IntWalk
import Derived.Laws.Bits64
import Derived.Laws.Strings
namespace Go.Proofs.YtnmmknnnggcijaaDoor
namespace A
open Go

/-- Round after round, so many at most. -/
def iter {σ τ:Type} (step:σ→Option (σ⊕τ)):Nat→σ→Option τ
  | 0,_=>none
  | n + 1,s=>match step s with
    | none=>none
    | some (.inl s')=>iter step n s'
    | some (.inr t)=>some t

def i4 {α:Type} (l:List α) (i:Int):Option α:=if 0≤i then l[i.toNat]? else none
def grd {α:Type} (b:Bool) (x:Option α):Option α:=if b=true then x else none
def av (k:IntKind) (a b:Int):Int:=k.wrap (a + b)
def aE (k:IntKind) (a b:Int):Int:=k.wrap (a - b)
def a_ (k:IntKind) (a b:Int):Int:=k.wrap (a * b)
def gE (k:IntKind) (a b:Int):Int:=k.wrap (a.tdiv b)
def aM (_k:IntKind) (a b:Int):Int:=a.tmod b
def wb (k:IntKind) (a b:Int):Int:=k.wrap (a * 2 ^ (min b.toNat k.bits))
def ab (k:IntKind) (a b:Int):Int:=a.fdiv (2 ^ (min b.toNat k.bits))
def aj (k:IntKind) (a b:Int):Int:=k.wrap (BitVec.ofInt k.bits a &&& BitVec.ofInt k.bits b).toNat
def CV (k:IntKind) (a b:Int):Int:=k.wrap (BitVec.ofInt k.bits a ||| BitVec.ofInt k.bits b).toNat
def BH (k:IntKind) (a b:Int):Int:=k.wrap (BitVec.ofInt k.bits a ^^^ BitVec.ofInt k.bits b).toNat
def xr (k:IntKind) (n:Int):Int:=k.wrap (BitVec.ofInt k.bits (if k.signed then -1 else k.max) ^^^ BitVec.ofInt k.bits n).toNat
def kq (m n:Int):Int:=if n<m then n else m
def i5 (m n:Int):Int:=if n>m then n else m

def EV {α:Type}:List α→Bool
  | []=>false
  | _::_=>true
/-- A byte of a string. -/
def ae (s:ByteArray) (i:Int):Option Int:=if 0≤i then (s[i.toNat]?).map (fun b=>(b.toNat:Int)) else none

/-- A string's bytes; bytes as a string. -/
def aR (s:ByteArray):List Int:=s.data.toList.map fun b=>(b.toNat:Int)
def aV (l:List Int):ByteArray:=⟨(l.map fun n=>UInt8.ofNat n.toNat).toArray⟩
theorem u9 (l:List Int):(aV l).size=l.length:=by
  show ((l.map fun n=>UInt8.ofNat n.toNat).toArray).size=_
  simp
theorem o9 (s:ByteArray):(aR s).length=s.size:=by
  unfold aR
  rw [List.length_map,Array.length_toList]
  rfl

def BI {α β:Type} (x:Option α) (a:Option β) (f:α→Option β):Option β:=match x with | none=>a | some z=>f z
theorem CW {α β:Type} {x:Option α} {a:Option β} {f:α→Option β} {r:β} (h:BI x a f=some r):(x=none∧a=some r)∨∃ z,x=some z∧f z=some r:=by
  cases x with
  | none=>exact .inl ⟨rfl,h⟩
  | some z=>exact .inr ⟨z,rfl,h⟩

theorem Fv {α:Type} {b:Bool} {x y r:α} (hb:b=true) (h:(if b=true then x else y)=r):x=r:=by rwa [if_pos hb] at h
theorem Fw {α:Type} {b:Bool} {x y r:α} (hb:b=false) (h:(if b=true then x else y)=r):y=r:=by rwa [if_neg (by rw [hb]; exact Bool.false_ne_true)] at h
theorem Fx {α:Type} {b:Bool} {x y r:α} (h:(if b=true then x else y)=r):(b=true∧x=r)∨(b=false∧y=r):=by
  cases b with
  | true=>exact .inl ⟨rfl,Fv rfl h⟩
  | false=>exact .inr ⟨rfl,Fw rfl h⟩
theorem Fj {α:Type} {a b:α} (h:some a=some b):a=b:=Option.some.inj h
theorem Dt {α β:Type} {x:Option α} {f:α→Option β} {r:β} (h:x.bind f=some r):∃ a,x=some a∧f a=some r:=Option.bind_eq_some_iff.1 h
theorem wc {α:Type} {b:Bool} {x:Option α} (h:b=true):grd b x=x:=if_pos h
theorem jE {α:Type} (l:List α) (i:Nat):i4 l (i:Int)=l[i]?:=by
  unfold i4
  rw [if_pos (Int.natCast_nonneg i),Int.toNat_natCast]

/-! ### The rounds of a loop, by a measure -/
theorem il {σ τ:Type} (step:σ→Option (σ⊕τ)) (n:Nat) (s:σ):iter step (n + 1) s=match step s with
    | none=>none
    | some (.inl s')=>iter step n s'
    | some (.inr t)=>some t:=rfl
/-! ### Numbers in their range -/
theorem xt {a b:Int} (h1:-9223372036854775808≤a + b) (h2:a + b≤9223372036854775807):av .i64 a b=a + b:=by
  unfold av
  rw [IntKind.wrap_i64]
  omega
theorem BJ {a b:Int} (h1:-9223372036854775808≤a - b) (h2:a - b≤9223372036854775807):aE .i64 a b=a - b:=by
  unfold aE
  rw [IntKind.wrap_i64]
  omega
theorem Fy {a b:Int} (h1:-9223372036854775808≤a * b) (h2:a * b≤9223372036854775807):a_ .i64 a b=a * b:=by
  unfold a_
  rw [IntKind.wrap_i64]
  generalize a * b=c at *
  omega
theorem Du {a:Int} (h1:0≤a) (h2:a≤18446744073709551615):IntKind.wrap .u64 a=a:=by
  rw [IntKind.wrap_u64]
  omega
theorem Dv {a:Int} (h1:-9223372036854775808≤a) (h2:a≤9223372036854775807):IntKind.wrap .i64 a=a:=by
  rw [IntKind.wrap_i64]
  omega

/-- In the range of its kind. -/
def xn (k:IntKind) (x:Int):Prop:=k.min≤x∧x≤k.max
theorem CX {x:Int}:xn .u64 x↔0≤x∧x≤18446744073709551615:=Iff.rfl

end A
end Go.Proofs.YtnmmknnnggcijaaDoor
