/- Words for what the code computes. Definitions and small laws; nothing is claimed of the program here. -/
import Derived.Calls
import Derived.IntWalk
import Derived.Laws.Bits64
import Derived.Laws.Strings
namespace Go.Proofs.Ytaekcekecdocnaa
namespace A
open Go

/-- Round after round, so many at most. -/
def iter {σ τ:Type} (step:σ→Option (σ⊕τ)):Nat→σ→Option τ
  | 0,_=>none
  | n + 1,s=>match step s with
    | none=>none
    | some (.inl s')=>iter step n s'
    | some (.inr t)=>some t

def lW {α:Type} (l:List α) (i:Int):Option α:=if 0≤i then l[i.toNat]? else none
def yN {α:Type} (b:Bool) (x:Option α):Option α:=if b=true then x else none
def p_ (k:IntKind) (a b:Int):Int:=k.wrap (a + b)
def ol (_k:IntKind) (a b:Int):Int:=a.tmod b
def xF {α:Type}:List α→Bool
  | []=>false
  | _::_=>true
def vE {α β:Type} (x:Option α) (a:Option β) (f:α→Option β):Option β:=match x with | none=>a | some z=>f z
theorem wR {α β:Type} {x:Option α} {a:Option β} {f:α→Option β} {r:β} (h:vE x a f=some r):(x=none∧a=some r)∨∃ z,x=some z∧f z=some r:=by
  cases x with
  | none=>exact .inl ⟨rfl,h⟩
  | some z=>exact .inr ⟨z,rfl,h⟩

theorem zv {α:Type} {b:Bool} {x y r:α} (hb:b=true) (h:(if b=true then x else y)=r):x=r:=by rwa [if_pos hb] at h
theorem zw {α:Type} {b:Bool} {x y r:α} (hb:b=false) (h:(if b=true then x else y)=r):y=r:=by rwa [if_neg (by rw [hb]; exact Bool.false_ne_true)] at h
theorem zx {α:Type} {b:Bool} {x y r:α} (h:(if b=true then x else y)=r):(b=true∧x=r)∨(b=false∧y=r):=by
  cases b with
  | true=>exact .inl ⟨rfl,zv rfl h⟩
  | false=>exact .inr ⟨rfl,zw rfl h⟩
theorem zj {α:Type} {a b:α} (h:some a=some b):a=b:=Option.some.inj h
theorem xG {α β:Type} {x:Option α} {f:α→Option β} {r:β} (h:x.bind f=some r):∃ a,x=some a∧f a=some r:=Option.bind_eq_some_iff.1 h
theorem mh {α:Type} {b:Bool} {x:Option α} (h:b=true):yN b x=x:=if_pos h
theorem q8 {α:Type} (l:List α) (i:Nat):lW l (i:Int)=l[i]?:=by
  unfold lW
  rw [if_pos (Int.natCast_nonneg i),Int.toNat_natCast]

/-! ### The rounds of a loop, by a measure -/
theorem uE {σ τ:Type} (step:σ→Option (σ⊕τ)) (n:Nat) (s:σ):iter step (n + 1) s=match step s with
    | none=>none
    | some (.inl s')=>iter step n s'
    | some (.inr t)=>some t:=rfl
/-- From a state of which Inv holds the rounds come to an end of which Post holds. -/
theorem iG {σ τ:Type} {step:σ→Option (σ⊕τ)} (Inv:σ→Prop) (μ:σ→Nat) (Post:τ→Prop)
    (hs:∀ s,Inv s→(∃ s',step s=some (.inl s')∧Inv s'∧μ s'<μ s)∨∃ t,step s=some (.inr t)∧Post t) :
    ∀ (n:Nat) (s:σ),Inv s→μ s<n→∃ t,iter step n s=some t∧Post t
  | 0,_,_,h=>by omega
  | n + 1,s,hi,h=>by
    rw [uE]
    rcases hs s hi with ⟨s',h1,h2,h3⟩ | ⟨t,h1,h2⟩
    · rw [h1]
      exact iG Inv μ Post hs n s' h2 (by omega)
    · rw [h1]
      exact ⟨t,rfl,h2⟩

/-! ### Numbers in their range -/
theorem zy {a b:Int} (h1:-9223372036854775808≤a + b) (h2:a + b≤9223372036854775807):p_ .i64 a b=a + b:=by
  unfold p_
  rw [IntKind.wrap_i64]
  omega
/-- In the range of its kind. -/
def zA (k:IntKind) (x:Int):Prop:=k.min≤x∧x≤k.max
end A
end Go.Proofs.Ytaekcekecdocnaa
