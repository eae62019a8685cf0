/- Words for what the code computes. Definitions and small laws; nothing is claimed of the program here. -/
import Derived.Calls
import Derived.IntWalk
import Derived.Laws.Bits64
import Derived.Laws.Strings
namespace Go.Proofs.YtomahedcdcnnhaaDoor
namespace A
open Go

/-- Round after round, so many at most. -/
def iter {σ τ:Type} (step:σ→Option (σ⊕τ)):Nat→σ→Option τ
  | 0,_=>none
  | n + 1,s=>match step s with
    | none=>none
    | some (.inl s')=>iter step n s'
    | some (.inr t)=>some t

def getI {α:Type} (l:List α) (i:Int):Option α:=if 0≤i then l[i.toNat]? else none
def grd {α:Type} (b:Bool) (x:Option α):Option α:=if b=true then x else none
def addW (k:IntKind) (a b:Int):Int:=k.wrap (a + b)
def subW (k:IntKind) (a b:Int):Int:=k.wrap (a - b)
def mulW (k:IntKind) (a b:Int):Int:=k.wrap (a * b)
def quoW (k:IntKind) (a b:Int):Int:=k.wrap (a.tdiv b)
def remW (_k:IntKind) (a b:Int):Int:=a.tmod b
def shlW (k:IntKind) (a b:Int):Int:=k.wrap (a * 2 ^ (min b.toNat k.bits))
def shrW (k:IntKind) (a b:Int):Int:=a.fdiv (2 ^ (min b.toNat k.bits))
def andW (k:IntKind) (a b:Int):Int:=k.wrap (BitVec.ofInt k.bits a &&& BitVec.ofInt k.bits b).toNat
def orW (k:IntKind) (a b:Int):Int:=k.wrap (BitVec.ofInt k.bits a ||| BitVec.ofInt k.bits b).toNat
def xorW (k:IntKind) (a b:Int):Int:=k.wrap (BitVec.ofInt k.bits a ^^^ BitVec.ofInt k.bits b).toNat
def andNotW (k:IntKind) (a b:Int):Int:=k.wrap (BitVec.ofInt k.bits a &&& ~~~ BitVec.ofInt k.bits b).toNat
def notW (k:IntKind) (n:Int):Int:=k.wrap (BitVec.ofInt k.bits (if k.signed then -1 else k.max) ^^^ BitVec.ofInt k.bits n).toNat
def minI (m n:Int):Int:=if n<m then n else m
def maxI (m n:Int):Int:=if n>m then n else m

/-- Maps, by their entries. -/
def mget {κ β:Type} (beq:κ→κ→Bool):List (κ×β)→κ→Option β
  | [],_=>none
  | e::l,k=>if beq k e.1=true then some e.2 else mget beq l k
def mput {κ β:Type} (beq:κ→κ→Bool):List (κ×β)→κ→β→List (κ×β)
  | [],k,v=>[(k,v)]
  | e::l,k,v=>if beq k e.1=true then (k,v)::l else e::mput beq l k v

/-- The place of a key. -/
def kfind {κ:Type} (beq:κ→κ→Bool):List κ→κ→Option Nat
  | [],_=>none
  | e::l,k=>if beq k e=true then some 0 else (kfind beq l k).map (· + 1)
/-- Keys and lists, as a map. -/
def zipM {κ β:Type}:List κ→List (Option (List β))→List (κ×List β)
  | k::ks,c::cs=>(k,c.getD [])::zipM ks cs
  | _,_=>[]
def allS {β:Type}:List (Option (List β))→Bool
  | []=>true
  | c::cs=>c.isSome&&allS cs

theorem toList_inj {a b:ByteArray} (h:a.toList=b.toList):a=b:=by
  rw [ByteArray.toList_eq,ByteArray.toList_eq] at h
  obtain ⟨⟨x⟩⟩:=a
  obtain ⟨⟨y⟩⟩:=b
  have h':x=y:=h
  rw [h']
theorem toList_iff {a b:ByteArray}:(a.toList=b.toList)=(a=b):=propext ⟨toList_inj,fun h=>by rw [h]⟩
theorem toListB {a b:ByteArray} (h:(a.toList==b.toList)=true):a=b:=toList_inj (eq_of_beq h)
def beqI (a b:Int):Bool:=a==b
def beqB (a b:Bool):Bool:=a==b
def beqS (a b:ByteArray):Bool:=a.toList==b.toList
theorem beqI_eq {a b:Int} (h:beqI a b=true):a=b:=eq_of_beq h
theorem beqB_eq {a b:Bool} (h:beqB a b=true):a=b:=eq_of_beq h
theorem beqS_eq {a b:ByteArray} (h:beqS a b=true):a=b:=toListB h

def matchO {α β:Type} (x:Option α) (a:Option β) (f:α→Option β):Option β:=match x with | none=>a | some z=>f z
theorem matchOE {α β:Type} {x:Option α} {a:Option β} {f:α→Option β} {r:β} (h:matchO x a f=some r):(x=none∧a=some r)∨∃ z,x=some z∧f z=some r:=by
  cases x with
  | none=>exact .inl ⟨rfl,h⟩
  | some z=>exact .inr ⟨z,rfl,h⟩

theorem bcase (b:Bool):b=true∨b=false:=by cases b <;> simp
theorem iteT {α:Type} {b:Bool} {x y r:α} (hb:b=true) (h:(if b=true then x else y)=r):x=r:=by rwa [if_pos hb] at h
theorem iteF {α:Type} {b:Bool} {x y r:α} (hb:b=false) (h:(if b=true then x else y)=r):y=r:=by rwa [if_neg (by rw [hb]; exact Bool.false_ne_true)] at h
theorem iteE {α:Type} {b:Bool} {x y r:α} (h:(if b=true then x else y)=r):(b=true∧x=r)∨(b=false∧y=r):=by
  cases b with
  | true=>exact .inl ⟨rfl,iteT rfl h⟩
  | false=>exact .inr ⟨rfl,iteF rfl h⟩
theorem iteN {α:Type} {b:Bool} {x y r:α} (h:(if b=true then x else y)=r):(b=false∧y=r)∨(b=true∧x=r):=(iteE h).symm
theorem soI {α:Type} {a b:α} (h:some a=some b):a=b:=Option.some.inj h
theorem bindE {α β:Type} {x:Option α} {f:α→Option β} {r:β} (h:x.bind f=some r):∃ a,x=some a∧f a=some r:=Option.bind_eq_some_iff.1 h
theorem grdE {α:Type} {b:Bool} {x:Option α} {r:α} (h:grd b x=some r):b=true∧x=some r:=by
  unfold grd at h
  split at h
  · exact ⟨by assumption,h⟩
  · cases h
theorem grd_pos {α:Type} {b:Bool} {x:Option α} (h:b=true):grd b x=x:=if_pos h
theorem getI_nat {α:Type} (l:List α) (i:Nat):getI l (i:Int)=l[i]?:=by
  unfold getI
  rw [if_pos (Int.natCast_nonneg i),Int.toNat_natCast]

/-! ### The rounds of a loop, by a measure -/
theorem iter_succ {σ τ:Type} (step:σ→Option (σ⊕τ)) (n:Nat) (s:σ):iter step (n + 1) s=match step s with
    | none=>none
    | some (.inl s')=>iter step n s'
    | some (.inr t)=>some t:=rfl
/-- From a state of which Inv holds the rounds come to an end of which Post holds. -/
theorem iter_spec {σ τ:Type} {step:σ→Option (σ⊕τ)} (Inv:σ→Prop) (μ:σ→Nat) (Post:τ→Prop)
    (hs:∀ s,Inv s→(∃ s',step s=some (.inl s')∧Inv s'∧μ s'<μ s)∨∃ t,step s=some (.inr t)∧Post t) :
    ∀ (n:Nat) (s:σ),Inv s→μ s<n→∃ t,iter step n s=some t∧Post t
  | 0,_,_,h=>by omega
  | n + 1,s,hi,h=>by
    rw [iter_succ]
    rcases hs s hi with ⟨s',h1,h2,h3⟩ | ⟨t,h1,h2⟩
    · rw [h1]
      exact iter_spec Inv μ Post hs n s' h2 (by omega)
    · rw [h1]
      exact ⟨t,rfl,h2⟩

/-! ### Numbers in their range -/
theorem addI {a b:Int} (h1:-9223372036854775808≤a + b) (h2:a + b≤9223372036854775807):addW .i64 a b=a + b:=by
  unfold addW
  rw [IntKind.wrap_i64]
  omega
theorem subI {a b:Int} (h1:-9223372036854775808≤a - b) (h2:a - b≤9223372036854775807):subW .i64 a b=a - b:=by
  unfold subW
  rw [IntKind.wrap_i64]
  omega
theorem mulI {a b:Int} (h1:-9223372036854775808≤a * b) (h2:a * b≤9223372036854775807):mulW .i64 a b=a * b:=by
  unfold mulW
  rw [IntKind.wrap_i64]
  generalize a * b=c at *
  omega
theorem addU {a b:Int} (h1:0≤a + b) (h2:a + b≤18446744073709551615):addW .u64 a b=a + b:=by
  unfold addW
  rw [IntKind.wrap_u64]
  omega
theorem subU {a b:Int} (h1:0≤a - b) (h2:a - b≤18446744073709551615):subW .u64 a b=a - b:=by
  unfold subW
  rw [IntKind.wrap_u64]
  omega
theorem mulU {a b:Int} (h1:0≤a * b) (h2:a * b≤18446744073709551615):mulW .u64 a b=a * b:=by
  unfold mulW
  rw [IntKind.wrap_u64]
  generalize a * b=c at *
  omega
theorem wrapU {a:Int} (h1:0≤a) (h2:a≤18446744073709551615):IntKind.wrap .u64 a=a:=by
  rw [IntKind.wrap_u64]
  omega
theorem wrapI {a:Int} (h1:-9223372036854775808≤a) (h2:a≤9223372036854775807):IntKind.wrap .i64 a=a:=by
  rw [IntKind.wrap_i64]
  omega

/-- In the range of its kind. -/
def inR (k:IntKind) (x:Int):Prop:=k.min≤x∧x≤k.max
theorem inR_i64 {x:Int}:inR .i64 x↔-9223372036854775808≤x∧x≤9223372036854775807:=Iff.rfl
theorem inR_u64 {x:Int}:inR .u64 x↔0≤x∧x≤18446744073709551615:=Iff.rfl

end A
end Go.Proofs.YtomahedcdcnnhaaDoor
