/- Words for what the code computes. Definitions and small laws; nothing is claimed of the program here. -/
import Derived.Calls
import Derived.IntWalk
import Derived.Laws.Bits64
import Derived.Laws.Strings
namespace Go.Proofs.YtomahedcdcnnhaaGreatDoor
namespace A
open Go

/-- Round after round, so many at most. -/
def iter {σ τ:Type} (step:σ→Option (σ⊕τ)):Nat→σ→Option τ
  | 0,_=>none
  | n + 1,s=>match step s with
    | none=>none
    | some (.inl s')=>iter step n s'
    | some (.inr t)=>some t

def au {α:Type} (l:List α) (i:Int):Option α:=if 0≤i then l[i.toNat]? else none
def grd {α:Type} (b:Bool) (x:Option α):Option α:=if b=true then x else none
def ah (k:IntKind) (a b:Int):Int:=k.wrap (a + b)
def dM (k:IntKind) (a b:Int):Int:=k.wrap (a - b)
def nn (k:IntKind) (a b:Int):Int:=k.wrap (a * b)
def lj (k:IntKind) (a b:Int):Int:=k.wrap (a.tdiv b)
def gi (_k:IntKind) (a b:Int):Int:=a.tmod b
def UR (k:IntKind) (a b:Int):Int:=k.wrap (a * 2 ^ (min b.toNat k.bits))
def iC (k:IntKind) (a b:Int):Int:=a.fdiv (2 ^ (min b.toNat k.bits))
def cy (k:IntKind) (a b:Int):Int:=k.wrap (BitVec.ofInt k.bits a &&& BitVec.ofInt k.bits b).toNat
def Vo (k:IntKind) (a b:Int):Int:=k.wrap (BitVec.ofInt k.bits a ||| BitVec.ofInt k.bits b).toNat
def US (k:IntKind) (a b:Int):Int:=k.wrap (BitVec.ofInt k.bits a ^^^ BitVec.ofInt k.bits b).toNat
def Sg (k:IntKind) (a b:Int):Int:=k.wrap (BitVec.ofInt k.bits a &&& ~~~ BitVec.ofInt k.bits b).toNat
def UT (k:IntKind) (n:Int):Int:=k.wrap (BitVec.ofInt k.bits (if k.signed then -1 else k.max) ^^^ BitVec.ofInt k.bits n).toNat
def lk (m n:Int):Int:=if n<m then n else m
def wI (m n:Int):Int:=if n>m then n else m

/-- Maps, by their entries. -/
def ll {κ β:Type} (beq:κ→κ→Bool):List (κ×β)→κ→Option β
  | [],_=>none
  | e::l,k=>if beq k e.1=true then some e.2 else ll beq l k
def OL {κ β:Type} (beq:κ→κ→Bool):List (κ×β)→κ→β→List (κ×β)
  | [],k,v=>[(k,v)]
  | e::l,k,v=>if beq k e.1=true then (k,v)::l else e::OL beq l k v

/-- The place of a key. -/
def dZ {κ:Type} (beq:κ→κ→Bool):List κ→κ→Option Nat
  | [],_=>none
  | e::l,k=>if beq k e=true then some 0 else (dZ beq l k).map (· + 1)
/-- Keys and lists, as a map. -/
def BZ {κ β:Type}:List κ→List (Option (List β))→List (κ×List β)
  | k::ks,c::cs=>(k,c.getD [])::BZ ks cs
  | _,_=>[]
def pg {β:Type}:List (Option (List β))→Bool
  | []=>true
  | c::cs=>c.isSome&&pg cs

def gl (a b:Int):Bool:=a==b
def UU (a b:Bool):Bool:=a==b
def UV (a b:ByteArray):Bool:=a.toList==b.toList
theorem E6 {a b:Int} (h:gl a b=true):a=b:=eq_of_beq h
def i5 {α β:Type} (x:Option α) (a:Option β) (f:α→Option β):Option β:=match x with | none=>a | some z=>f z
theorem ko {α β:Type} {x:Option α} {a:Option β} {f:α→Option β} {r:β} (h:i5 x a f=some r):(x=none∧a=some r)∨∃ z,x=some z∧f z=some r:=by
  cases x with
  | none=>exact .inl ⟨rfl,h⟩
  | some z=>exact .inr ⟨z,rfl,h⟩

theorem Sy {α:Type} {b:Bool} {x y r:α} (hb:b=true) (h:(if b=true then x else y)=r):x=r:=by rwa [if_pos hb] at h
theorem Sz {α:Type} {b:Bool} {x y r:α} (hb:b=false) (h:(if b=true then x else y)=r):y=r:=by rwa [if_neg (by rw [hb]; exact Bool.false_ne_true)] at h
theorem ao {α:Type} {b:Bool} {x y r:α} (h:(if b=true then x else y)=r):(b=true∧x=r)∨(b=false∧y=r):=by
  cases b with
  | true=>exact .inl ⟨rfl,Sy rfl h⟩
  | false=>exact .inr ⟨rfl,Sz rfl h⟩
theorem aA {α:Type} {b:Bool} {x y r:α} (h:(if b=true then x else y)=r):(b=false∧y=r)∨(b=true∧x=r):=(ao h).symm
theorem aF {α:Type} {a b:α} (h:some a=some b):a=b:=Option.some.inj h
theorem ab {α β:Type} {x:Option α} {f:α→Option β} {r:β} (h:x.bind f=some r):∃ a,x=some a∧f a=some r:=Option.bind_eq_some_iff.1 h
theorem ey {α:Type} {b:Bool} {x:Option α} {r:α} (h:grd b x=some r):b=true∧x=some r:=by
  unfold grd at h
  split at h
  · exact ⟨by assumption,h⟩
  · cases h
theorem gQ {α:Type} {b:Bool} {x:Option α} (h:b=true):grd b x=x:=if_pos h
theorem lK {α:Type} (l:List α) (i:Nat):au l (i:Int)=l[i]?:=by
  unfold au
  rw [if_pos (Int.natCast_nonneg i),Int.toNat_natCast]

/-! ### The rounds of a loop, by a measure -/
theorem jM {σ τ:Type} (step:σ→Option (σ⊕τ)) (n:Nat) (s:σ):iter step (n + 1) s=match step s with
    | none=>none
    | some (.inl s')=>iter step n s'
    | some (.inr t)=>some t:=rfl
/-! ### Numbers in their range -/
theorem B0 {a b:Int} (h1:-9223372036854775808≤a + b) (h2:a + b≤9223372036854775807):ah .i64 a b=a + b:=by
  unfold ah
  rw [IntKind.wrap_i64]
  omega
theorem B1 {a b:Int} (h1:-9223372036854775808≤a - b) (h2:a - b≤9223372036854775807):dM .i64 a b=a - b:=by
  unfold dM
  rw [IntKind.wrap_i64]
  omega
theorem L_ {a b:Int} (h1:-9223372036854775808≤a * b) (h2:a * b≤9223372036854775807):nn .i64 a b=a * b:=by
  unfold nn
  rw [IntKind.wrap_i64]
  generalize a * b=c at *
  omega
theorem E7 {a:Int} (h1:0≤a) (h2:a≤18446744073709551615):IntKind.wrap .u64 a=a:=by
  rw [IntKind.wrap_u64]
  omega
theorem E8 {a:Int} (h1:-9223372036854775808≤a) (h2:a≤9223372036854775807):IntKind.wrap .i64 a=a:=by
  rw [IntKind.wrap_i64]
  omega

/-- In the range of its kind. -/
def zC (k:IntKind) (x:Int):Prop:=k.min≤x∧x≤k.max
end A
end Go.Proofs.YtomahedcdcnnhaaGreatDoor
