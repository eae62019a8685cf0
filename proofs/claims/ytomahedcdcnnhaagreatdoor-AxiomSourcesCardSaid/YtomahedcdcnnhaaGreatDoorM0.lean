/- Words for what the code computes. Definitions and small laws; nothing is claimed of the program here. -/
import Derived.Calls
import Derived.IntWalk
import Derived.Laws.Bits64
import Derived.Laws.Strings
namespace Go.Proofs.YtomahedcdcnnhaaGreatDoor
namespace A
open Go

/-- Round after round, so many at most. -/
def iter {σ τ:Type} (step:σ→Option (σ⊕τ)):Nat→σ→Option τ
  | 0,_=>none
  | n + 1,s=>match step s with
    | none=>none
    | some (.inl s')=>iter step n s'
    | some (.inr t)=>some t

def av {α:Type} (l:List α) (i:Int):Option α:=if 0≤i then l[i.toNat]? else none
def grd {α:Type} (b:Bool) (x:Option α):Option α:=if b=true then x else none
def af (k:IntKind) (a b:Int):Int:=k.wrap (a + b)
def cj (k:IntKind) (a b:Int):Int:=k.wrap (a - b)
def mr (k:IntKind) (a b:Int):Int:=k.wrap (a * b)
def zm (k:IntKind) (a b:Int):Int:=k.wrap (a.tdiv b)
def kI (_k:IntKind) (a b:Int):Int:=a.tmod b
def RG (k:IntKind) (a b:Int):Int:=k.wrap (a * 2 ^ (min b.toNat k.bits))
def jP (k:IntKind) (a b:Int):Int:=a.fdiv (2 ^ (min b.toNat k.bits))
def cL (k:IntKind) (a b:Int):Int:=k.wrap (BitVec.ofInt k.bits a &&& BitVec.ofInt k.bits b).toNat
def Sj (k:IntKind) (a b:Int):Int:=k.wrap (BitVec.ofInt k.bits a ||| BitVec.ofInt k.bits b).toNat
def RH (k:IntKind) (a b:Int):Int:=k.wrap (BitVec.ofInt k.bits a ^^^ BitVec.ofInt k.bits b).toNat
def Pd (k:IntKind) (a b:Int):Int:=k.wrap (BitVec.ofInt k.bits a &&& ~~~ BitVec.ofInt k.bits b).toNat
def RI (k:IntKind) (n:Int):Int:=k.wrap (BitVec.ofInt k.bits (if k.signed then -1 else k.max) ^^^ BitVec.ofInt k.bits n).toNat
def Kb (m n:Int):Int:=if n<m then n else m
def RJ (m n:Int):Int:=if n>m then n else m

/-- Maps, by their entries. -/
def j6 {κ β:Type} (beq:κ→κ→Bool):List (κ×β)→κ→Option β
  | [],_=>none
  | e::l,k=>if beq k e.1=true then some e.2 else j6 beq l k
def Mv {κ β:Type} (beq:κ→κ→Bool):List (κ×β)→κ→β→List (κ×β)
  | [],k,v=>[(k,v)]
  | e::l,k,v=>if beq k e.1=true then (k,v)::l else e::Mv beq l k v

/-- The place of a key. -/
def dK {κ:Type} (beq:κ→κ→Bool):List κ→κ→Option Nat
  | [],_=>none
  | e::l,k=>if beq k e=true then some 0 else (dK beq l k).map (· + 1)
/-- Keys and lists, as a map. -/
def AJ {κ β:Type}:List κ→List (Option (List β))→List (κ×List β)
  | k::ks,c::cs=>(k,c.getD [])::AJ ks cs
  | _,_=>[]
def nP {β:Type}:List (Option (List β))→Bool
  | []=>true
  | c::cs=>c.isSome&&nP cs

def fc (a b:Int):Bool:=a==b
def RL (a b:Bool):Bool:=a==b
def RN (a b:ByteArray):Bool:=a.toList==b.toList
theorem Dv {a b:Int} (h:fc a b=true):a=b:=eq_of_beq h
def iu {α β:Type} (x:Option α) (a:Option β) (f:α→Option β):Option β:=match x with | none=>a | some z=>f z
theorem iv {α β:Type} {x:Option α} {a:Option β} {f:α→Option β} {r:β} (h:iu x a f=some r):(x=none∧a=some r)∨∃ z,x=some z∧f z=some r:=by
  cases x with
  | none=>exact .inl ⟨rfl,h⟩
  | some z=>exact .inr ⟨z,rfl,h⟩

theorem Ps {α:Type} {b:Bool} {x y r:α} (hb:b=true) (h:(if b=true then x else y)=r):x=r:=by rwa [if_pos hb] at h
theorem Pt {α:Type} {b:Bool} {x y r:α} (hb:b=false) (h:(if b=true then x else y)=r):y=r:=by rwa [if_neg (by rw [hb]; exact Bool.false_ne_true)] at h
theorem ap {α:Type} {b:Bool} {x y r:α} (h:(if b=true then x else y)=r):(b=true∧x=r)∨(b=false∧y=r):=by
  cases b with
  | true=>exact .inl ⟨rfl,Ps rfl h⟩
  | false=>exact .inr ⟨rfl,Pt rfl h⟩
theorem aD {α:Type} {b:Bool} {x y r:α} (h:(if b=true then x else y)=r):(b=false∧y=r)∨(b=true∧x=r):=(ap h).symm
theorem aK {α:Type} {a b:α} (h:some a=some b):a=b:=Option.some.inj h
theorem ab {α β:Type} {x:Option α} {f:α→Option β} {r:β} (h:x.bind f=some r):∃ a,x=some a∧f a=some r:=Option.bind_eq_some_iff.1 h
theorem ep {α:Type} {b:Bool} {x:Option α} {r:α} (h:grd b x=some r):b=true∧x=some r:=by
  unfold grd at h
  split at h
  · exact ⟨by assumption,h⟩
  · cases h
theorem ge {α:Type} {b:Bool} {x:Option α} (h:b=true):grd b x=x:=if_pos h
theorem jQ {α:Type} (l:List α) (i:Nat):av l (i:Int)=l[i]?:=by
  unfold av
  rw [if_pos (Int.natCast_nonneg i),Int.toNat_natCast]

/-! ### The rounds of a loop, by a measure -/
theorem jc {σ τ:Type} (step:σ→Option (σ⊕τ)) (n:Nat) (s:σ):iter step (n + 1) s=match step s with
    | none=>none
    | some (.inl s')=>iter step n s'
    | some (.inr t)=>some t:=rfl
/-! ### Numbers in their range -/
theorem FK {a b:Int} (h1:-9223372036854775808≤a + b) (h2:a + b≤9223372036854775807):af .i64 a b=a + b:=by
  unfold af
  rw [IntKind.wrap_i64]
  omega
theorem Cj {a b:Int} (h1:-9223372036854775808≤a - b) (h2:a - b≤9223372036854775807):cj .i64 a b=a - b:=by
  unfold cj
  rw [IntKind.wrap_i64]
  omega
theorem Mw {a b:Int} (h1:-9223372036854775808≤a * b) (h2:a * b≤9223372036854775807):mr .i64 a b=a * b:=by
  unfold mr
  rw [IntKind.wrap_i64]
  generalize a * b=c at *
  omega
theorem FM {a:Int} (h1:0≤a) (h2:a≤18446744073709551615):IntKind.wrap .u64 a=a:=by
  rw [IntKind.wrap_u64]
  omega
theorem FN {a:Int} (h1:-9223372036854775808≤a) (h2:a≤9223372036854775807):IntKind.wrap .i64 a=a:=by
  rw [IntKind.wrap_i64]
  omega

/-- In the range of its kind. -/
def yc (k:IntKind) (x:Int):Prop:=k.min≤x∧x≤k.max
end A
end Go.Proofs.YtomahedcdcnnhaaGreatDoor
