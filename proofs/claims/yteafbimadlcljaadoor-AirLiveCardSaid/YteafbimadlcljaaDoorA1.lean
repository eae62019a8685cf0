/- Steps: what they read, write, and go to -/
import Derived.Test.YteafbimadlcljaaDoorX1
namespace Go.Proofs.YteafbimadlcljaaDoor
open Go A

def dh (op:Int):Int:=if op=1 then 17 else if op=2 then 3 else if op=3 then 39 else if op=4 then 147 else if op=5 then 150 else if op=6 then 159 else if op=8 then 64 else if op=9 then 66 else if op=10 then 2 else 0
theorem ai (k:Int):k=1∨k=2∨k=3∨k=4∨k=5∨k=6∨k=7∨k=8∨k=9∨k=10∨(k<1∨10<k):=by omega
theorem u6 (n:Nat) (op:Int):cM n op=some (dh op):=by
  rcases ai op with h | h | h | h | h | h | h | h | h | h | h
  case inr.inr.inr.inr.inr.inr.inr.inr.inr.inr =>
    have e:dh op=0:=by unfold dh; repeat (rw [if_neg (by omega)])
    rw [e]
    unfold cM
    rcases h with h | h
    · rw [if_pos (by simpa using h)]
    · rw [if_neg (by simp; omega),if_pos (by simpa using h)]
  all_goals subst h; rfl
def xP (op:Int):Bool:=op==1||op==2||op==3||op==4||op==6
def nR (s:ab):Int×Bool:=if xP s.Op=true then (s.A_,true) else (0,false)
theorem qh (n:Nat) (s:ab):eP n s=some (nR s):=by
  unfold eP nR
  rw [u6,Option.bind_some]
  rcases ai s.Op with h | h | h | h | h | h | h | h | h | h | h
  case inr.inr.inr.inr.inr.inr.inr.inr.inr.inr =>
    have e:dh s.Op=0:=by unfold dh; repeat (rw [if_neg (by omega)])
    have e2:xP s.Op=false:=by unfold xP; simp; omega
    rw [e,e2]
    rfl
  all_goals rw [h]; rfl
theorem Da (n:Nat) (x y:Int):cmp_Less_int n x y=some (decide (x<y)):=by
  unfold cmp_Less_int cmp_isNaN_int
  simp
theorem AI (n:Nat) (a b:Int):T (bh n a b) (fun y=>y=(a,b)∨y=(b,a)):=by
  unfold bh cE b3 iW gB
  rw [Da]
  simp only [Option.bind_some]
  split
  · exact T.ret (.inr rfl)
  · exact T.ret (.inl rfl)
theorem Ct (n:Nat) (a b c:Int):T (b6 n a b c) (fun y=>∀ r,r=y.1∨r=y.2.1∨r=y.2.2→r=a∨r=b∨r=c):=by
  unfold b6 cw bR g5 fR
  simp only [Option.bind_some,Da]
  repeat' split
  all_goals exact T.ret (fun r h=>by simp only at h; omega)
/-- At most three, and of these. -/
def Of (L:List Int) (l:List Int):Prop:=l.length≤3∧∀ r∈l,r∈L
theorem Db (n:Nat) (a b:Int) {L:List Int} (ha:a∈L) (hb:b∈L):T ((bh n a b).bind fun y3=>(aL n y3.1 y3.2).bind fun y4=>match y4 with
      | .inl wa5=>(bM n y3.1 wa5).bind fun _=>some ([y3.1]:List Int)
      | .inr _=>(bC n y3.1 y3.2).bind fun _=>some ([y3.1,y3.2]:List Int)) (Of L):=by
  refine (AI n a b).bind (fun y h=>?_)
  have h1:y.1∈L:=by rcases h with rfl | rfl <;> assumption
  have h2:y.2∈L:=by rcases h with rfl | rfl <;> assumption
  unfold aL
  split
  · exact T.ret ⟨by simp,fun r hr=>by simp at hr; subst hr; exact h1⟩
  · exact T.ret ⟨by simp,fun r hr=>by simp at hr; rcases hr with rfl | rfl <;> assumption⟩
theorem DN {a:Int} {L:List Int} (ha:a∈L):T (some ([a]:List Int)) (Of L):=T.ret ⟨by simp,fun r hr=>by simp at hr; subst hr; exact ha⟩
theorem none_ {L:List Int}:T (some ([]:List Int)) (Of L):=T.ret ⟨by simp,fun r hr=>by simp at hr⟩
theorem Cu (n:Nat) (a b c:Int) {L:List Int} (ha:a∈L) (hb:b∈L) (hc:c∈L):T ((b6 n a b c).bind fun y3=>(bD n y3.1 y3.2.1 y3.2.2).bind fun y4=>match y4 with
           | .inl wa5=>(dq n y3.1 wa5.1 wa5.2).bind fun _=>some ([y3.1,wa5.1]:List Int)
           | .inr (.inl wb5)=>(dr n y3.1 wb5.1 wb5.2).bind fun _=>some ([y3.1]:List Int)
           | .inr (.inr _)=>(du n y3.1 y3.2.1 y3.2.2).bind fun _=>some ([y3.1,y3.2.1,y3.2.2]:List Int)) (Of L):=by
  refine (Ct n a b c).bind (fun y h=>?_)
  have hm:∀ r,r=y.1∨r=y.2.1∨r=y.2.2→r∈L:=fun r hr=>by
    rcases h r hr with rfl | rfl | rfl <;> assumption
  have h1:=hm y.1 (.inl rfl)
  have h2:=hm y.2.1 (.inr (.inl rfl))
  have h3:=hm y.2.2 (.inr (.inr rfl))
  unfold bD
  repeat' split
  all_goals first
    | exact T.ret ⟨by simp,fun r hr=>by simp at hr; rcases hr with rfl | rfl | rfl <;> assumption⟩
    | exact T.ret ⟨by simp,fun r hr=>by simp at hr; rcases hr with rfl | rfl <;> assumption⟩
    | exact T.ret ⟨by simp,fun r hr=>by simp at hr; subst hr; assumption⟩
def iF (s:ab):List Int:=if s.Op=2∨s.Op=4∨s.Op=9∨s.Op=10 then [s.B] else if s.Op=3∨s.Op=5 then [s.B,s.C_] else if s.Op=6 then [s.B,s.C_,s.D] else []
theorem yv (n:Nat) (s:ab):T (c6 n s) (Of (iF s)):=by
  unfold c6
  rw [u6,Option.bind_some]
  rcases ai s.Op with h | h | h | h | h | h | h | h | h | h | h
  case inr.inr.inr.inr.inr.inr.inr.inr.inr.inr =>
    have e:dh s.Op=0:=by unfold dh; repeat (rw [if_neg (by omega)])
    rw [e]
    exact none_
  case inr.inr.inl=>rw [h]; exact Db n s.B s.C_ (by simp [iF,h]) (by simp [iF,h])
  case inr.inr.inr.inr.inl=>rw [h]; exact Db n s.B s.C_ (by simp [iF,h]) (by simp [iF,h])
  case inr.inr.inr.inr.inr.inl=>rw [h]; exact Cu n s.B s.C_ s.D (by simp [iF,h]) (by simp [iF,h]) (by simp [iF,h])
  all_goals rw [h]; first | exact none_ | exact DN (by simp [iF,h])
def AJ (s:ab):List Int:=(c6 0 s).getD []
theorem o4 (n:Nat) (s:ab):c6 n s=some (AJ s):=by
  have:c6 n s=c6 0 s:=rfl
  rw [this]
  obtain ⟨r,e,_⟩:=yv 0 s
  unfold AJ
  rw [e]
  rfl
theorem wG (s:ab):Of (iF s) (AJ s):=by
  obtain ⟨r,e,h⟩:=yv 0 s
  rw [o4] at e
  cases e
  exact h
/-- A step whose registers are there. -/
def u7 (s:ab) (regs:Int):Prop:=(∀ r∈AJ s,0≤r∧r<regs)∧((nR s).2=true→0≤(nR s).1∧(nR s).1<regs)

end Go.Proofs.YteafbimadlcljaaDoor
