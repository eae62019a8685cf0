/- What a step may be -/
import Derived.Test.YtaiokpalfdbnnaaB1
namespace Go.Proofs.Ytaiokpalfdbnnaa
open Go A

def hB (op:Int):Bool:=op==2||op==3||op==4||op==5||op==6||op==9||op==10
def hC (op:Int):Bool:=op==3||op==5||op==6
def hD (op:Int):Bool:=op==6
def hI (op:Int):Bool:=op==1||op==4||op==5||op==6
def hJ (op:Int):Bool:=op==8||op==9
/-- A register that is there, or none. -/
def rg (b:Bool) (x R:Int):Prop:=if b=true then 0≤x∧x<R else x=0
structure Ok (s:ab) (R N:Int):Prop where
  op:1≤s.Op∧s.Op≤10
  a:rg (B9 s.Op) s.A_ R
  b:rg (hB s.Op) s.B R
  c:rg (hC s.Op) s.C_ R
  d:rg (hD s.Op) s.D R
  i:hI s.Op=false→s.Imm=0
  n:if s.Op=3 then 1≤s.Bin∧s.Bin≤13 else s.Bin=0
  t:rg (hJ s.Op) s.To N
  s:if s.Op=4∨s.Op=5 then True else s.Shared=decide (s.Op=6)
theorem GK {s:ab} {R N:Int}:Ok s R N↔(1≤s.Op∧s.Op≤10)∧rg (B9 s.Op) s.A_ R∧rg (hB s.Op) s.B R∧rg (hC s.Op) s.C_ R∧rg (hD s.Op) s.D R∧(hI s.Op=false→s.Imm=0)∧(if s.Op=3 then 1≤s.Bin∧s.Bin≤13 else s.Bin=0)∧rg (hJ s.Op) s.To N∧(if s.Op=4∨s.Op=5 then True else s.Shared=decide (s.Op=6)) :=
  ⟨fun h=>⟨h.op,h.a,h.b,h.c,h.d,h.i,h.n,h.t,h.s⟩,fun ⟨a,b,c,d,e,f,g,h,i⟩=>⟨a,b,c,d,e,f,g,h,i⟩⟩
theorem GL (a b:Int):mG a b=max a b:=by unfold mG; split <;> omega
theorem GM (a b:Int):mF a b=min a b:=by unfold mF; split <;> omega
theorem Ki (n:Nat) (s:ab) (R N:Int):T (vb n s R N) (fun b=>b=true↔Ok s R N):=by
  obtain ⟨op,a,b,c,d,i,bn,t,sh⟩:=s
  rw [show (fun b'=>(b'=true)↔Ok (ab.mk op a b c d i bn t sh) R N)=(fun b'=>(b'=true)↔_) from funext fun b'=>by rw [GK]]
  unfold vb
  rcases ai op with h | h | h | h | h | h | h | h | h | h | h
  case inr.inr.inr.inr.inr.inr.inr.inr.inr.inr =>
    refine T.ite (fun _=>T.ret ?_) (fun h1=>T.ite (fun _=>T.ret ?_) (fun h2=>?_))
    · constructor
      · intro h; cases h
      · rintro ⟨h1,_⟩; simp only at h1; omega
    · constructor
      · intro h; cases h
      · rintro ⟨h1,_⟩; simp only at h1; omega
    · simp only [decide_eq_false_iff_not] at h1 h2
      omega
  all_goals
    subst h
    simp only [rg,B9,hB,hC,hD,hI,hJ]
    simp (config:={ decide:=true }) only [vy,sK,sL,sM,sN,sO,sQ,sR,sS,qB,qC,Option.bind_some,if_true,if_false,ab.beq,beq_self_eq_true,Bool.true_and,Bool.and_true]
    repeat' (refine T.ite ?_ ?_ <;> intro _)
    all_goals
      refine T.ret ?_
      clear n
      cases sh <;> simp at * <;> try omega

theorem D7 (n:Nat) (op:Int):cU n op=some (decide (1≤op∧op≤10)):=by
  unfold cU
  by_cases h:op≥1
  · rw [if_pos (by simpa using h)]
    simp [h]
  · rw [if_neg (by simpa using h)]
    simp [h]
theorem Kj (n:Nat) (s:ab) (R N:Int) (h1:1≤N) (h2:N≤5000):T (va n s R N) (fun b=>b=true↔Ok s R N):=by
  obtain ⟨op,a,b,c,d,i,bn,t,sh⟩:=s
  rw [show (fun b'=>(b'=true)↔Ok (ab.mk op a b c d i bn t sh) R N)=(fun b'=>(b'=true)↔_) from funext fun b'=>by rw [GK]]
  unfold va
  rw [tQ,Option.bind_some,show cn .i64 N 1=N - 1 from by rw [JH (by omega) (by omega)],GL,GL,GM,GM]
  rcases ai op with h | h | h | h | h | h | h | h | h | h | h
  case inr.inr.inr.inr.inr.inr.inr.inr.inr.inr =>
    have e:fI op=0:=by unfold fI; repeat (rw [if_neg (by omega)])
    simp only [e]
    refine T.ite (fun _=>?_) (fun h=>by simp at h)
    rw [D7,Option.bind_some,decide_eq_false (by omega)]
    refine T.ret ⟨fun h=>(by cases h),fun h=>(by have:=h.1; omega)⟩
  all_goals
    subst h
    simp (config:={ decide:=true }) only [fI,if_true,if_false,D7,Option.bind_some,rg,B9,hB,hC,hD,hI,hJ,ab.beq,beq_self_eq_true,Bool.true_and]
    repeat' (refine T.ite ?_ ?_ <;> intro _)
    all_goals
      refine T.ret ?_
      clear n
      cases sh <;> simp at * <;> try omega

end Go.Proofs.Ytaiokpalfdbnnaa
