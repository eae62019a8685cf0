/- Words for what the code computes. Definitions and small laws; nothing is claimed of the program here. -/
import Derived.Calls
import Derived.IntWalk
import Derived.Laws.Bits64
import Derived.Laws.Strings
namespace Go.Proofs.YtomahedcdcnnhaaGreatDoor
namespace A
open Go

/-- Round after round, so many at most. -/
def iter {σ τ:Type} (step:σ→Option (σ⊕τ)):Nat→σ→Option τ
  | 0,_=>none
  | n + 1,s=>match step s with
    | none=>none
    | some (.inl s')=>iter step n s'
    | some (.inr t)=>some t

def ak {α:Type} (l:List α) (i:Int):Option α:=if 0≤i then l[i.toNat]? else none
def grd {α:Type} (b:Bool) (x:Option α):Option α:=if b=true then x else none
def ac (k:IntKind) (a b:Int):Int:=k.wrap (a + b)
def aJ (k:IntKind) (a b:Int):Int:=k.wrap (a - b)
def iO (k:IntKind) (a b:Int):Int:=k.wrap (a * b)
def fG (k:IntKind) (a b:Int):Int:=k.wrap (a.tdiv b)
def cw (_k:IntKind) (a b:Int):Int:=a.tmod b
def cR (k:IntKind) (a b:Int):Int:=a.fdiv (2 ^ (min b.toNat k.bits))
def bg (k:IntKind) (a b:Int):Int:=k.wrap (BitVec.ofInt k.bits a &&& BitVec.ofInt k.bits b).toNat
def yI (m n:Int):Int:=if n<m then n else m
/-- Maps, by their entries. -/
def jn {κ β:Type} (beq:κ→κ→Bool):List (κ×β)→κ→Option β
  | [],_=>none
  | e::l,k=>if beq k e.1=true then some e.2 else jn beq l k
/-- The place of a key. -/
def dy {κ:Type} (beq:κ→κ→Bool):List κ→κ→Option Nat
  | [],_=>none
  | e::l,k=>if beq k e=true then some 0 else (dy beq l k).map (· + 1)
/-- Keys and lists, as a map. -/
def AJ {κ β:Type}:List κ→List (Option (List β))→List (κ×List β)
  | k::ks,c::cs=>(k,c.getD [])::AJ ks cs
  | _,_=>[]
def nK {β:Type}:List (Option (List β))→Bool
  | []=>true
  | c::cs=>c.isSome&&nK cs

def ey (a b:Int):Bool:=a==b
theorem ER {a b:Int} (h:ey a b=true):a=b:=eq_of_beq h
def hJ {α β:Type} (x:Option α) (a:Option β) (f:α→Option β):Option β:=match x with | none=>a | some z=>f z
theorem II {α β:Type} {x:Option α} {a:Option β} {f:α→Option β} {r:β} (h:hJ x a f=some r):(x=none∧a=some r)∨∃ z,x=some z∧f z=some r:=by
  cases x with
  | none=>exact .inl ⟨rfl,h⟩
  | some z=>exact .inr ⟨z,rfl,h⟩

theorem Ne {α:Type} {b:Bool} {x y r:α} (hb:b=true) (h:(if b=true then x else y)=r):x=r:=by rwa [if_pos hb] at h
theorem Nf {α:Type} {b:Bool} {x y r:α} (hb:b=false) (h:(if b=true then x else y)=r):y=r:=by rwa [if_neg (by rw [hb]; exact Bool.false_ne_true)] at h
theorem GQ {α:Type} {b:Bool} {x y r:α} (h:(if b=true then x else y)=r):(b=true∧x=r)∨(b=false∧y=r):=by
  cases b with
  | true=>exact .inl ⟨rfl,Ne rfl h⟩
  | false=>exact .inr ⟨rfl,Nf rfl h⟩
theorem M6 {α:Type} {a b:α} (h:some a=some b):a=b:=Option.some.inj h
theorem B3 {α β:Type} {x:Option α} {f:α→Option β} {r:β} (h:x.bind f=some r):∃ a,x=some a∧f a=some r:=Option.bind_eq_some_iff.1 h
theorem Ng {α:Type} {b:Bool} {x:Option α} {r:α} (h:grd b x=some r):b=true∧x=some r:=by
  unfold grd at h
  split at h
  · exact ⟨by assumption,h⟩
  · cases h
theorem gF {α:Type} {b:Bool} {x:Option α} (h:b=true):grd b x=x:=if_pos h
theorem j9 {α:Type} (l:List α) (i:Nat):ak l (i:Int)=l[i]?:=by
  unfold ak
  rw [if_pos (Int.natCast_nonneg i),Int.toNat_natCast]

/-! ### The rounds of a loop, by a measure -/
theorem jx {σ τ:Type} (step:σ→Option (σ⊕τ)) (n:Nat) (s:σ):iter step (n + 1) s=match step s with
    | none=>none
    | some (.inl s')=>iter step n s'
    | some (.inr t)=>some t:=rfl
/-! ### Numbers in their range -/
theorem yJ {a b:Int} (h1:-9223372036854775808≤a + b) (h2:a + b≤9223372036854775807):ac .i64 a b=a + b:=by
  unfold ac
  rw [IntKind.wrap_i64]
  omega
theorem yK {a b:Int} (h1:-9223372036854775808≤a - b) (h2:a - b≤9223372036854775807):aJ .i64 a b=a - b:=by
  unfold aJ
  rw [IntKind.wrap_i64]
  omega
theorem Ka {a b:Int} (h1:-9223372036854775808≤a * b) (h2:a * b≤9223372036854775807):iO .i64 a b=a * b:=by
  unfold iO
  rw [IntKind.wrap_i64]
  generalize a * b=c at *
  omega
theorem Nh {a b:Int} (h1:0≤a + b) (h2:a + b≤18446744073709551615):ac .u64 a b=a + b:=by
  unfold ac
  rw [IntKind.wrap_u64]
  omega
theorem ES {a:Int} (h1:0≤a) (h2:a≤18446744073709551615):IntKind.wrap .u64 a=a:=by
  rw [IntKind.wrap_u64]
  omega
theorem ET {a:Int} (h1:-9223372036854775808≤a) (h2:a≤9223372036854775807):IntKind.wrap .i64 a=a:=by
  rw [IntKind.wrap_i64]
  omega

/-- In the range of its kind. -/
def v8 (k:IntKind) (x:Int):Prop:=k.min≤x∧x≤k.max
end A
end Go.Proofs.YtomahedcdcnnhaaGreatDoor
